/- My texts for this claim, in one file: part 32. -/
import Derived.Deep.RegionWith
import Derived.Laws.Strings
import Derived.Lib.MakeNoZero
import Derived.Test.YtbfgadekkemlcaaGreatDoorChecked
import Derived.Test.YtbfgadekkemlcaaGreatDoorRows
import Derived.Test.YtbfgadekkemlcaaGreatDoorCards
import Derived.Test.YtbfgadekkemlcaaGreatDoorTie
import Derived.Deep.DeepHandedRow
import Derived.Lay
import Derived.Test.YtbfgadekkemlcaaGreatDoorV31
set_option linter.unusedVariables false
set_option linter.unusedSimpArgs false
set_option maxRecDepth 20000
namespace Go.Proofs.YtbfgadekkemlcaaGreatDoor.K
open Go Go.Kx
def wT (t:T1):List UInt8:=wOne t.k t.x t.n t.m (wTs (decide (t.x≠[])) t.args)
theorem wT_len (t:T1):(wT t).length≤100*t.bulk:=by
 have h1:=wOne_len t.k t.x t.n t.m (wTs (decide (t.x≠[])) t.args)
 have h2:=wTs_len t.args (decide (t.x≠[]))
 unfold T1.bulk wT
 omega
def wOuts:List (List UInt8 × T1)→List UInt8
 |[]=>[]
 |o::r=>[111,117,116,32]++o.1++[32,61,32]++wT o.2++[10]++wOuts r
theorem wOuts_len:∀ os,(wOuts os).length≤100*outsB os
 |[]=>Nat.le_refl _
 |o::r=>by
  have h1:=wOuts_len r
  have h2:=wT_len o.2
  unfold wOuts outsB
  simp only[List.length_append,List.length_cons,List.length_nil]; omega
def wHead (t:TK):List UInt8:=[116,97,115,107,32]++t.name++[32]++decL t.bud.toNat++[10]
def wIns (l:List (List UInt8)):List UInt8:=if l=[] then [] else [105,110]++joinT l++[10]
def textL (t:TK):List UInt8:=wHead t++wIns t.ins++wOuts t.outs++[101,110,100,10]
theorem joinN_insB:∀ l:List (List UInt8),joinN l+l.length≤insB l
 |[]=>Nat.le_refl _
 |l::r=>by have:=joinN_insB r; unfold joinN insB; rw[List.length_cons]; omega
theorem wIns_len (l:List (List UInt8)):(wIns l).length≤insB l+3:=by
 unfold wIns
 split
 ·simp
 ·have:=joinT_len l; have:=joinN_insB l
  simp only[List.length_append,List.length_cons,List.length_nil]; omega
theorem textL_len (t:TK):(textL t).length≤100*t.bulk+100:=by
 have h1:=wIns_len t.ins
 have h2:=wOuts_len t.outs
 have h3:=decL_len t.bud.toNat
 unfold textL wHead TK.bulk
 simp only[List.length_append,List.length_cons,List.length_nil]; omega
def okTask (t:TK):Bool:=okTask0 t&&clean [] t.outs
section
variable {h:H} {b o:Nat} {t:TK} {vi vo:Value} (q:Row h b o (kc t vi vo))
include q
theorem d0:xload Tryz.prog 9 (.pointer (some ⟨b,o,none⟩)) h = .ok (.string ⟨⟨t.name⟩⟩) h:=by
 rw[ld9,show (⟨b,o,none⟩ : Addr)=⟨b,o+0,none⟩ from rfl,q.cell (j:=0) rfl,ofO_some]
theorem d1:xload Tryz.prog 3 (.pointer (some ⟨b,o+1,none⟩)) h = .ok (.int .i64 t.bud) h:=by rw[ld3,q.cell (j:=1) rfl,ofO_some]
end
theorem outsWL {h0:H} {vo:Value} {rows:List (List Value)} (s:Sl 6 h0 vo rows) (pt:PT h0) (fr:rows.length≤4000000) {p:Nat} (x27 x28 x29:Value):∀ (os:List (List UInt8 × T1)) (i:Nat) {h:H} {br:Option Nat} {acc:List UInt8},OutsR h0 os (rows.drop i)→i≤rows.length→okOuts os=true→Bd h0 h p br acc→acc.length+100*outsB os≤1900000000→outsB os≤4000000 →
  ∃ h' br',Bd h0 h' p br' (acc++wOuts os)∧BdS h h' p br br'∧F41.l19 Tryz.prog CLM nu0 nu0 (ptr p) x27 x28 x29 vo (.int .i64 (rows.length:Nat)) (.int .i64 (i:Nat)) h=F41.j25 Tryz.prog CLM nu0 nu0 (ptr p) x27 x28 x29 h':=by
 intro os
 induction os with
 |nil=>
  intro i h br acc q hi ok bd few few2
  have:=congrArg List.length (show rows.drop i=[] from q)
  rw[List.length_drop,List.length_nil] at this
  refine⟨h,br,by rw[wOuts,List.append_nil]; exact bd,BdS.refl _ _ _,?_⟩
  rw[F41.l19_eq,xlss,go_ok,F41.j20_eq,ifV_dec,if_neg (by omega)]
 |cons x os ih=>
  intro i h br acc q hi ok bd few few2
  obtain⟨c,rr,e,t,qr⟩:=q
  obtain⟨hc,hdr,hlt⟩:=drop_cons e
  obtain⟨b,o,ia,row,hl6,ho6⟩:=s.out hc
  have row:=row.grow bd.g
  obtain⟨h1,g1,r1,e1⟩:=spill48 _ hl6 ho6 h
  unfold outsB at few few2
  have ok':((okPath x.1&&okT1 x.2)&&okOuts os)=true:=ok
  rw[Bool.and_eq_true,Bool.and_eq_true] at ok'
  have bd1:=bd.more g1
  have s1:BdS h h1 p br br:=BdS.grow g1 p br
  have hlt0:=bd.lt
  have np:h.next≠p:=by omega
  have nb:br≠some h.next:=fun z=>by have:=hlt0.2 _ z; omega
  obtain⟨y,hy⟩ : ∃ y,y=[111,117,116,32]++x.1++[32,61,32]:=⟨_,rfl⟩
  have hyl:y.length=7+x.1.length:=by rw[hy]; simp; omega
  have ey:(Value.string ⟨⟨bl ⟨⟨bl ⟨#[111,117,116,32]⟩++bl ⟨⟨x.1⟩⟩⟩⟩++bl ⟨#[32,61,32]⟩⟩⟩) = .string ⟨⟨y⟩⟩:=by rw[hy]
  obtain⟨h2,br2,b2,s2,e2⟩:=bd1.wstr ⟨⟨y⟩⟩ (by rw[bl_mk]; omega) (by rw[bl_mk,hy]; simp)
  rw[bl_mk] at b2
  have r2:=s2.row r1 np nb
  have hwt:=wT_len x.2
  obtain⟨h3,br3,b3,s3,e3⟩:=eWriteT t b2 pt ok'.1.2 (by rw[List.length_append]; omega) (by omega)
  have b3:Bd h0 h3 p br3 (acc++y++wT x.2):=b3
  obtain⟨h4,br4,b4,s4,e4⟩:=b3.wbyte 10 (by rw[List.length_append,List.length_append]; omega)
  obtain⟨h5,br5,b5,s5,e5⟩:=ih (i+1) (by rw[hdr]; exact qr) (by omega) ok'.2 b4 (by simp only[List.length_append,List.length_singleton]; omega) (by omega)
  refine⟨h5,br5,?_,(((s1.trans s2).trans s3).trans s4).trans s5,?_⟩
  ·rw[wOuts,← hy]; simpa using b5
  ·rw[F41.l19_eq,xlss,go_ok,F41.j20_eq,ifV_dec,if_pos (by omega),F41.j20_1_eq,ia,go_ok,row.get48 hl6,go_ok,e1,o0 r1,xsadd _ _ _ _ _ (by show 4+x.1.length≤_; omega),go_ok,xsadd _ _ _ _ _ (by show ([111,117,116,32]++x.1).length+3≤_; simp; omega),go_ok,ey,e2,go_ok,o1 r2 _ t.len,e3,go_ok,show (.int .u8 10:Value) = .int .u8 ((10:UInt8).toNat:Int) from rfl,e4,go_ok,xadd,go_ok,wad (by omega),e5]
theorem okIns_ne {ls:List (List UInt8)} (h:okIns ls=true):∀ l∈ls,l≠[]:=by
 have key:∀ (r seen:List (List UInt8)),okInL seen r=true→∀ l∈r,l≠[]:=by
  intro r
  induction r with
  |nil=>intro seen _ l hl; cases hl
  |cons p r ih=>
   intro seen hk l hl
   have hk':((okPath p && !seen.contains p)&&okInL (seen++[p]) r)=true:=hk
   rw[Bool.and_eq_true,Bool.and_eq_true] at hk'
   rcases List.mem_cons.1 hl with rfl|hl
   ·rintro rfl; exact absurd hk'.1.1 (by decide)
   ·exact ih _ hk'.2 l hl
 unfold okIns at h
 rw[Bool.and_eq_true] at h
 exact key _ _ h.2
theorem joinIn {ls:List (List UInt8)} (h:ls≠[]) : [105,110,32]++joinL ls=[105,110]++joinT ls:=by
 cases ls with
 |nil=>exact absurd rfl h
 |cons l r=>rfl
theorem eText {h:H} {v:Value} {t:TK} {vi vo:Value} (q:OneT h v t vi vo) (pt:PT h) (few:t.bulk≤4000000) :
  ∃ h',Grow h h'∧CLM (.f 41) [v] h = .ok (if okTask t then .tuple ⟨[.string ⟨⟨textL t⟩⟩,.int .i64 0]⟩ else .tuple ⟨[.string ⟨#[]⟩,.int .i64 127]⟩) h':=by
 have q0:=q
 obtain⟨h1,g1,r1,e1⟩:=spill25 (kc t vi vo) rfl q.t.ones h
 obtain⟨h2,g2,e2⟩:=eTasked (q.t.grow g1) few
 have g12:=g1.trans g2
 have w1:IntKind.i64.wrap (0+1)=1:=by decide
 have en:CLM (.f 41) [v] h=ifV (.bool (!okTask0 t)) (.ok (.tuple ⟨[.string ⟨#[]⟩,.int .i64 127]⟩) h2) (F41.j9 Tryz.prog CLM nu0 nu0 v h2):=by
  rw[cM41,F41.eq,q.len,go_ok,xgtr,go_ok,ifV_dec,if_neg (by omega),F41.j3_eq,q.len,go_ok,F41.l4_eq,xlss,go_ok,F41.j5_eq,ifV_dec,if_pos (by omega),F41.j5_1_eq,q.ld,e1,r1.get25 rfl,go_ok,e2,go_ok,xun_not,go_ok,xadd,go_ok,w1,F41.l4_eq,xlss,go_ok,F41.j5_eq,ifV_dec,if_neg (by omega)]
 rw[en]
 unfold okTask
 cases hok:okTask0 t with
 |false=>exact⟨h2,g12,rfl⟩
 |true=>
  have hok':=hok
  unfold okTask0 at hok'
  simp only[Bool.and_eq_true,decide_eq_true_iff] at hok'
  obtain⟨⟨kn,kb⟩,ki,ko,kos⟩:=hok'
  have q2:=q.grow g12
  obtain⟨h3,g3,e3⟩:=eAlone q2 few ko.2
  have g13:=g12.trans g3
  rw[ifV_bool,Bool.not_true,cond_false,Bool.true_and,F41.j9_eq,e3,go_ok,xun_not,go_ok,ifV_bool]
  cases hcl:clean [] t.outs with
  |false=>exact⟨h3,g13,rfl⟩
  |true=>
   rw[Bool.not_true,cond_false,if_pos rfl]
   have q3:=q2.grow g3
   have pt3:=pt.grow g13
   obtain⟨h4,b4,e4⟩:=Bd.start h3
   have q4:=q3.grow b4.g
   obtain⟨h5,g5,r5,e5⟩:=spill25 (kc t vi vo) rfl q.t.ones h4
   have b5:=b4.more g5
   obtain⟨N,hN⟩ : ∃ N:Nat,t.bud=N:=⟨t.bud.toNat,by omega⟩
   obtain⟨h6,g6,e6⟩:=eDigits (pt3.grow b5.g) (N:=N) (by omega)
   have b6:=b5.more g6
   have r6:=r5.grow g6
   have lN:=decL_len N
   have fw:=few
   unfold TK.bulk at few
   have wl:wHead t=[116,97,115,107,32]++t.name++[32]++decL N++[10]:=by unfold wHead; rw[hN]; rfl
   have wll:(wHead t).length≤t.name.length+27:=by rw[wl]; simp; omega
   have ew:(Value.string ⟨⟨bl ⟨⟨bl ⟨⟨bl ⟨⟨bl ⟨#[116,97,115,107,32]⟩++bl ⟨⟨t.name⟩⟩⟩⟩++bl ⟨#[32]⟩⟩⟩++bl ⟨⟨decL N⟩⟩⟩⟩++bl ⟨#[10]⟩⟩⟩) = .string ⟨⟨wHead t⟩⟩:=by rw[wl]
   obtain⟨h7,br7,b7,s7,e7⟩:=b6.wstr ⟨⟨wHead t⟩⟩ (by rw[bl_mk,List.length_nil]; omega) (by rw[bl_mk,wl]; simp)
   rw[bl_mk,List.nil_append] at b7
   have r7:=s7.row r6 (by have:=b4.lt.1; omega) (fun z=>by cases z)
   obtain⟨rows,so,oq⟩:=q3.t.outs
   have hrl:=oq.len
   have hob:=outsB_len t.outs
   have li:=insB_len t.ins
   have hji:=joinN_insB t.ins
   have h64:t.ins.length≤64:=by have:=ki; unfold okIns at this; rw[Bool.and_eq_true,decide_eq_true_iff] at this; exact this.1
   have ins:∃ h8 br8,Bd h3 h8 h3.next br8 (wHead t++wIns t.ins)∧Row h8 h4.next 0 (kc t vi vo)∧((xfieldAddr Tryz.prog 25 (ptr h4.next) 2 h7).go .pan fun t32 h=>(xload Tryz.prog 22 t32 h).go .pan fun t33 h=>(xbuiltin Tryz.prog .len [22] [t33] h).go .pan fun t34 h=>(xbin Tryz.prog .gtr 3 t34 (.int .i64 0) h).go .pan fun t35 h=>ifV t35 ((xfieldAddr Tryz.prog 25 (ptr h4.next) 2 h).go .pan fun t36 h=>(xload Tryz.prog 22 t36 h).go .pan fun t37 h=>(CLM (.f 76) [t37,(.string ⟨#[32]⟩)] h).go .pan fun t38 h=>(xbin Tryz.prog .add 9 (.string ⟨#[105,110,32]⟩) t38 h).go .pan fun t39 h=>(xbin Tryz.prog .add 9 t39 (.string ⟨#[10]⟩) h).go .pan fun t40 h=>(CLM (.f 74) [ptr h3.next,t40] h).go .pan fun t41 h=>F41.j18 Tryz.prog CLM nu0 nu0 (ptr h3.next) (ptr h4.next) v (.int .i64 1) (.int .i64 0) h) (F41.j18 Tryz.prog CLM nu0 nu0 (ptr h3.next) (ptr h4.next) v (.int .i64 1) (.int .i64 0) h))=F41.j18 Tryz.prog CLM nu0 nu0 (ptr h3.next) (ptr h4.next) v (.int .i64 1) (.int .i64 0) h8:=by
    have qi:=(q3.t.grow b7.g).ins
    rw[k2 r7,qi.str.len,go_ok,xgtr,go_ok,ifV_dec]
    by_cases h0:t.ins.length=0
    ·refine⟨h7,br7,?_,r7,by rw[if_neg (by omega)]⟩
     rw[List.length_eq_zero_iff.1 h0]; simpa [wIns] using b7
    ·have hne:t.ins≠[]:=fun z=>h0 (by rw[z]; rfl)
     obtain⟨h8,g8,e8⟩:=eJoin qi (by omega) (by omega) (by omega) (okIns_ne ki)
     have hjl:(joinL t.ins).length≤insB t.ins:=by
      have:=joinIn hne
      have:=congrArg List.length this
      rw[List.length_append,List.length_append,joinT_len] at this
      simp only[List.length_cons,List.length_nil] at this
      omega
     have eq9:(Value.string ⟨⟨bl ⟨⟨bl ⟨#[105,110,32]⟩++bl ⟨⟨joinL t.ins⟩⟩⟩⟩++bl ⟨#[10]⟩⟩⟩) = .string ⟨⟨wIns t.ins⟩⟩:=by
      unfold wIns
      rw[if_neg hne,← joinIn hne]
     have hwi:=wIns_len t.ins
     obtain⟨h9,br9,b9,s9,e9⟩:=(b7.more g8).wstr ⟨⟨wIns t.ins⟩⟩ (by rw[bl_mk]; omega) (by rw[bl_mk]; unfold wIns; rw[if_neg hne]; simp)
     rw[bl_mk] at b9
     have hnb:=s7.ne (b:=h4.next) (by have:=r6.lt; exact this) (by have:=b4.lt.1; omega) (fun z=>by cases z)
     refine⟨h9,br9,b9,s9.row (r7.grow g8) (by have:=b4.lt.1; omega) hnb,?_⟩
     rw[if_pos (by omega),k2 r7,e8,go_ok,xsadd _ _ _ _ _ (by show 3+(joinL t.ins).length≤_; omega),go_ok,xsadd _ _ _ _ _ (by show ([105,110,32]++joinL t.ins).length+1≤_; simp; omega),go_ok,eq9,e9,go_ok]
   obtain⟨h8,br8,b8,r8,e8⟩:=ins
   have hwi:=wIns_len t.ins
   obtain⟨h9,br9,b9,s9,e9⟩:=outsWL so pt3 (by omega) v (.int .i64 1) (.int .i64 0) t.outs 0 oq (Nat.zero_le _) kos b8 (by rw[List.length_append]; omega) (by omega)
   have hwo:=wOuts_len t.outs
   obtain⟨h10,br10,b10,s10,e10⟩:=b9.wstr ⟨#[101,110,100,10]⟩ (by rw[List.length_append,List.length_append]; show _+4≤_; omega) (by show [(101:UInt8),110,100,10]≠[]; simp)
   have b10:Bd h3 h10 h3.next br10 (textL t):=b10
   have htl:=textL_len t
   obtain⟨h11,g11,e11⟩:=b10.string (by omega) (by unfold textL; simp)
   refine⟨h11,g13.trans g11,?_⟩
   rw[F41.j11_eq,e4,q4.len,go_ok,F41.l13_eq,xlss,go_ok,F41.j14_eq,ifV_dec,if_pos (by omega),F41.j14_1_eq,q4.ld,e5,fa25_0,Res.ok1_ok,d0 r5,Res.ok1_ok,plain2_str,cond_true,xsadd _ _ _ _ _ (by show 5+t.name.length≤_; omega),Res.ok1_ok,plain2_str,cond_true,xsadd _ _ _ _ _ (by show ([116,97,115,107,32]++t.name).length+1≤_; simp; omega),Res.ok1_ok,fa25_1,Res.ok1_ok,d1 r5,Res.ok1_ok,hN,e6,go_ok,d0 r6,rc_str,Bool.and_self,cond_true,plain2_str,cond_true,xsadd _ _ _ _ _ (by show ([116,97,115,107,32]++t.name++[32]).length+(decL N).length≤_; simp; omega),Res.ok1_ok,plain2_str,cond_true,xsadd _ _ _ _ _ (by show ([116,97,115,107,32]++t.name++[32]++decL N).length+1≤_; simp; omega),Res.ok1_ok,ew,e7,go_ok]
   refine (congrArg id e8).trans ?_
   rw[F41.j18_eq,k3 r8,(so.grow b8.g).outsLen,go_ok]
   refine e9.trans ?_
   rw[F41.j25_eq,e10,go_ok,F41.j26_eq,xadd,go_ok,w1,F41.l13_eq,xlss,go_ok,F41.j14_eq,ifV_dec,if_neg (by omega),F41.j27_eq,e11,go_ok]
end Go.Proofs.YtbfgadekkemlcaaGreatDoor.K
namespace Go.Proofs.YtbfgadekkemlcaaGreatDoor.K
open Go Go.Kx
theorem kfn_two {P:Program} {rs:List ResultVar} {a ty c:Nat} {x v u:Value} {h:H} (hr:rs=[.cell a ty,.tmp c]) (hac:a≠c) (hx:xload P ty x h = .ok v h):kfn P rs .normal [(a,x),(c,u)] h = .ok (.tuple ⟨[v,u]⟩) h:=by
 subst hr
 show (match resV P [(a,x),(c,u)] h [.cell a ty,.tmp c] with|some l=>Res.ok (oneV l) h|none=>.bad)=_
 have e:resV P [(a,x),(c,u)] h [.cell a ty,.tmp c]=some [v,u]:=by
  unfold resV
  have e1:Fr.at [(a,x),(c,u)] a=some x:=by simp[Fr.at]
  have e2:resV P [(a,x),(c,u)] h [.tmp c]=some [u]:=by
   unfold resV
   have:Fr.at [(a,x),(c,u)] c=some u:=by simp[Fr.at,beqF hac]
   rw[this]
   rfl
  rw[e1,e2]
  simp only[hx]
 rw[e]; rfl
theorem sha_len (m:List UInt8):(sha m).length=32:=by unfold sha; exact out_len _
theorem spill32 (l:List Value) (hl:l.length=32) (ho:ones l=true) (h:H):∃ h',Grow h h'∧h'.get h.next=some (.cells l 32 0 false)∧∀ K:Value→Value→H→Res Value,((xalloc Tryz.prog 32 h).go .pan fun t h=>((xstore Tryz.prog 32 t (.agg ⟨l⟩) h).go .pan (K t)))=K (.pointer (some ⟨h.next,0,none⟩)) undef h':=by
 obtain⟨h1,hh1⟩ : ∃ h1,h1=h.alloc (.cells zc32 32 0 false):=⟨_,rfl⟩
 have g1:h1.get h.next=some (.cells zc32 32 0 false):=by rw[hh1]; exact H.alloc_self _ _
 obtain⟨h2,hh2⟩ : ∃ h2,h2=h1.put h.next (.cells l 32 0 false):=⟨_,rfl⟩
 have g2:h2.get h.next=some (.cells l 32 0 false):=by rw[hh2]; exact H.put_self g1
 have hw:h1.write ⟨h.next,0,none⟩ l=some h2:=by rw[hh2]; exact H.write_all g1 (by rw[hl,zc32_len]) ho
 refine⟨h2,by rw[hh2]; exact Grow.put (by rw[hh1]; exact (Grow.refl h).alloc _) (Nat.le_refl _) (H.get_lt g1) _,g2,fun K=>?_⟩
 rw[al32,go_ok,← hh1,st32 _ _ _ (by rw[asz,hl]),cells_agg,hw,ofU_some,go_ok]
theorem ldKey {h:H} {p:Nat} {l:List Value} (g:h.get p=some (.cells l 32 0 false)) (hl:l.length=32):xload Tryz.prog 32 (.pointer (some ⟨p,0,none⟩)) h = .ok (.agg ⟨l⟩) h:=by
 rw[ld32,H.row_all g hl,ofA_some]
theorem stKey {h:H} {p:Nat} {c l:List Value} (g:h.get p=some (.cells c 32 0 false)) (hc:c.length=32) (hl:l.length=32) (ho:ones l=true):xstore Tryz.prog 32 (.pointer (some ⟨p,0,none⟩)) (.agg ⟨l⟩) h = .ok undef (h.put p (.cells l 32 0 false)):=by
 rw[st32 _ _ _ (by rw[asz,hl]),cells_agg,H.write_all g (by rw[hl,hc]) ho,ofU_some]
def zKey:List UInt8:=List.replicate 32 0
theorem bdKey (h:H):xbuild Tryz.prog 32 [] h = .ok (.agg ⟨byteVals zKey⟩) h:=by kernel_rfl
theorem fpL {h0:H} {x1:Value} {ks:List (List UInt8)} (kr:KeysR h0 x1 ks) (gt:GT h0) (few:ks.length≤1000000) {p:Nat} (hp:h0.next≤p) (x4:Value):∀ (rest:List (List UInt8)) (i:Nat) {h:H} {m:List UInt8},Grow h0 h→HB h p m→ks.drop i=rest→i≤ks.length→m.length+43*rest.length≤1000000000000 →
  ∃ h',Grow h0 h'∧HB h' p (m++rest.flatMap wb)∧F21.l9 Tryz.prog CLM nu0 nu0 x4 (ptr p) x1 (.int .i64 (ks.length:Nat)) (.int .i64 (i:Nat)) h=F21.j13 Tryz.prog CLM nu0 nu0 x4 (ptr p) h':=by
 intro rest
 have h00:0<h0.next:=Row.lt gt
 induction rest with
 |nil=>
  intro i h m g hb hr hi hm
  have:=congrArg List.length hr
  rw[List.length_drop,List.length_nil] at this
  refine⟨h,g,by simpa using hb,?_⟩
  rw[F21.l9_eq,xlss,go_ok,F21.j10_eq,ifV_dec,if_neg (by omega)]
 |cons k rest ih=>
  intro i h m g hb hr hi hm
  obtain⟨hk,hdr,hlt⟩:=drop_cons hr
  obtain⟨b,o,ia,row,hl⟩:=kr.at_ hk
  have row:=row.grow g
  rw[List.length_cons] at hm
  have hkl:(byteVals k).length=32:=by rw[bv_len,hl]
  obtain⟨h1,g1,q1,e1⟩:=spill32 (byteVals k) hkl (bv_ones k) h
  have cut:xslice Tryz.prog 32 (ptr h.next) none none none h1 = .ok (.slice (some ⟨h.next,0,some 0⟩) 32 32) h1:=by
   have hu:Tryz.prog.underlying 32=some (.array 32 5):=by kernel_rfl
   unfold xslice
   simp only[hu,show asNat? none 0=some 0 from rfl,show asNat? none 32=some 32 from rfl,Nat.ble_eq_true_of_le (show 0≤32 by omega),Nat.ble_eq_true_of_le (Nat.le_refl 32),sz5,Bool.and_self,cond_true,Option.isNone_none,Bool.true_or,cutAt,beqF (show ¬ 32=0 by omega),cond_false,Nat.zero_mul,Nat.add_zero,Nat.sub_zero]
  have src:Src h1 (.slice (some ⟨h.next,0,some 0⟩) 32 32) k:=by
   refine⟨.inr ⟨h.next,0,some 0,32,by rw[hl],by omega,Row.of q1,.inl rfl⟩,?_⟩
   show h1.row ⟨h.next,0,none⟩ (0*1)=_
   rw[H.row_eq q1 (by omega)]; simp
  obtain⟨h2,v2,br2,q2,e2⟩:=eBytes src (by omega)
  have g2:=(g.trans g1).trans q2.g
  have hb2:=hb.grow (g1.trans q2.g)
  obtain⟨s,rr,hg,hs⟩:=hb2
  have hwb:=wb_len k
  obtain⟨h3,u3,hb3,e3⟩:=eWrite (gt.grow g2) ⟨s,rr,hg,hs⟩ (by omega) q2.ba.bv (q2.apart hg (by decide)) (by omega)
  have g3:Grow h0 h3:=g2.own u3 fun x hx=>by rw[hx]; exact hp
  obtain⟨h4,g4,hb4,e4⟩:=ih (i+1) g3 hb3 hdr (by omega) (by rw[List.length_append]; omega)
  refine⟨h4,g4,by rw[List.flatMap_cons,← List.append_assoc]; exact hb4,?_⟩
  rw[F21.l9_eq,xlss,go_ok,F21.j10_eq,ifV_dec,if_pos (by omega),F21.j10_1_eq,ia,go_ok,ld32,row.row hkl,ofA_some,go_ok,e1,cut,go_ok,e2,go_ok,e3,go_ok,xadd,go_ok,wad (by omega),e4]
def fpE (t:TK) (ks:List (List UInt8)):Int:=if okTask t then (if ks.length=t.ins.length then 0 else 150) else 127
def fpK (t:TK) (ks:List (List UInt8)):List UInt8:=if okTask t then (if ks.length=t.ins.length then sha (hashed (textL t) ks) else zKey) else zKey
theorem oneTask {h:H} {t:TK} {vi vo:Value} (q:TaskR h t vi vo):∃ h1 v,Grow h h1∧OneT h1 v t vi vo∧xbuildSlice Tryz.prog 53 1 [(0,.agg ⟨kc t vi vo⟩)] h = .ok v h1:=by
 have e:xbuildSlice Tryz.prog 53 1 [(0,.agg ⟨kc t vi vo⟩)] h = .ok (.slice (some ⟨h.next,0,none⟩) 1 1) (h.alloc (.cells (kc t vi vo) 25 0 false)):=by
  obtain⟨a,⟨rows,s,c⟩,d,e⟩:=q
  obtain⟨b1,c1,rfl⟩:=Sl.val a.str
  obtain⟨b2,c2,rfl⟩:=s.val
  kernel_rfl
 exact⟨_,_,(Grow.refl h).alloc _,⟨⟨h.next,0,none,1,rfl,Row.of (H.alloc_self _ _)⟩,q.grow ((Grow.refl h).alloc _)⟩,e⟩
theorem eFp {h:H} {t:TK} {vi vo x1:Value} {ks:List (List UInt8)} (q:TaskR h t vi vo) (kr:KeysR h x1 ks) (pt:PT h) (gt:GT h) (few:t.bulk≤4000000) (fk:ks.length≤1000000) :
  ∃ h',Grow h h'∧CLM (.f 21) [.agg ⟨kc t vi vo⟩,x1] h = .ok (.tuple ⟨[.agg ⟨byteVals (fpK t ks)⟩,.int .i64 (fpE t ks)]⟩) h':=by
 obtain⟨eb,gb,r⟩:=box_row 25 (kc t vi vo) h
 obtain⟨h1,hh1⟩ : ∃ h1,h1=h.alloc (.cells (kc t vi vo) 25 0 false):=⟨_,rfl⟩
 rw[← hh1] at eb gb r
 obtain⟨h2,hh2⟩ : ∃ h2,h2=h1.alloc (.cells zc32 32 0 false):=⟨_,rfl⟩
 have g2:Grow h1 h2:=by rw[hh2]; exact (Grow.refl h1).alloc _
 have k2':h2.get h1.next=some (.cells zc32 32 0 false):=by rw[hh2]; exact H.alloc_self _ _
 have r2:=r.grow g2
 have g12:=gb.trans g2
 obtain⟨h3,v3,g3,one,e3⟩:=oneTask (q.grow g12)
 have g13:=g12.trans g3
 obtain⟨h4,g4,e4⟩:=eText one (pt.grow g13) few
 have g14:=g13.trans g4
 have r4:=r2.grow (g3.trans g4)
 have k4:=(g3.trans g4).old _ _ k2'
 have hlen:=textL_len t
 have tell:∀ {h5:H} (l:List UInt8) (e:Int),Grow h h5→h5.get h1.next=some (.cells zc32 32 0 false)→l.length=32→∃ h',Grow h h'∧xstore Tryz.prog 32 (ptr h1.next) (.agg ⟨byteVals l⟩) h5 = .ok undef h'∧kfn Tryz.prog Tryz.f21.results.toList .normal [(4,ptr h1.next),(5,.int .i64 e)] h' = .ok (.tuple ⟨[.agg ⟨byteVals l⟩,.int .i64 e]⟩) h':=by
  intro h5 l e g5 k5 hl
  refine⟨h5.put h1.next (.cells (byteVals l) 32 0 false),g5.put gb.next (H.get_lt k5) _,stKey k5 zc32_len (by rw[bv_len,hl]) (bv_ones l),?_⟩
  exact kfn_two (ty:=32) (by kernel_rfl) (by decide) (ldKey (H.put_self k5) (by rw[bv_len,hl]))
 have en:∀ K:Value→H→Res Value,((CLM (.f 41) [v3] h3).go .pan K)=K (if okTask t then .tuple ⟨[.string ⟨⟨textL t⟩⟩,.int .i64 0]⟩ else .tuple ⟨[.string ⟨#[]⟩,.int .i64 127]⟩) h4:=fun K=>by rw[e4,go_ok]
 rw[cM21,F21.eq,eb,go_ok,al32,go_ok,← hh2,r2.get25 rfl,go_ok,e3,go_ok,en]
 unfold fpE fpK
 cases hok:okTask t with
 |false=>
  obtain⟨h5,g5,e5,e6⟩:=tell zKey 127 g14 k4 rfl
  refine⟨h5,g5,?_⟩
  rw[if_neg (by decide),xextract_0,go_ok,xextract_1,go_ok,xneq,go_ok,ifV_not,if_neg (by decide),bdKey,go_ok,e5,go_ok,e6]; rfl
 |true=>
  have kr4:=kr.grow g14
  have qi:=(q.grow g14).ins
  rw[if_pos rfl,xextract_0,go_ok,xextract_1,go_ok,xneq,go_ok,ifV_not,if_pos rfl,kr4.len,go_ok,k2 r4,qi.str.len,go_ok,xneq,go_ok,ifV_not,if_pos rfl,if_pos rfl]
  by_cases hl:ks.length=t.ins.length
  ·rw[if_pos (by omega),if_pos hl,if_pos hl,F21.j6_eq]
   obtain⟨h5,p,g5,hp5,hb5,e5⟩:=eNew h4
   obtain⟨w,h6,e6,g6,src,hown⟩:=cvSB ⟨⟨textL t⟩⟩ h5
   obtain⟨h7,v7,br7,q7,e7⟩:=eBytes src (by show (textL t).length≤_; omega)
   have g47:=(g5.trans g6).trans q7.g
   have hb7:=hb5.grow (g6.trans q7.g)
   obtain⟨s,rr,hg,hs⟩:=hb7
   have h00:0<h.next:=Row.lt gt
   have hn4:=g14.next
   have hwb:=wb_len (textL t)
   obtain⟨h8,u8',hb8,e8⟩:=eWrite (gt.grow (g14.trans g47)) ⟨s,rr,hg,hs⟩ (by omega) q7.ba.bv (q7.apart hg (by decide)) (by show ([]:List UInt8).length+(wb (textL t)).length≤_; rw[List.length_nil]; omega)
   have hb8:HB h8 p (wb (textL t)):=hb8
   have g48:Grow h4 h8:=g47.own u8' fun x hx=>by rw[hx]; exact hp5
   obtain⟨h9,g9,hb9,e9⟩:=fpL kr4 (gt.grow g14) fk hp5 (ptr h1.next) ks 0 g48 hb8 rfl (Nat.zero_le _) (by omega)
   have hhl:=hashed_len (t:=textL t) (ks:=ks) kr.2
   obtain⟨h10,g10,e10⟩:=eKey ((gt.grow g14).grow g9) hb9 (by show (hashed (textL t) ks).length+1000≤_; omega)
   obtain⟨h11,g11,e11,e12⟩:=tell (sha (hashed (textL t) ks)) 0 (g14.trans (g9.trans g10)) ((g9.trans g10).old _ _ k4) (by rw[sha_len])
   refine⟨h11,g11,?_⟩
   rw[e5,go_ok,e6,go_ok,e7,go_ok,e8,go_ok,kr4.len,go_ok]
   refine e9.trans ?_
   rw[F21.j13_eq,e10,go_ok]
   show (xstore Tryz.prog 32 (ptr h1.next) (.agg ⟨byteVals (sha (hashed (textL t) ks))⟩) h10).go .pan _=_
   rw[e11,go_ok,e12]
  ·obtain⟨h5,g5,e5,e6⟩:=tell zKey 150 g14 k4 rfl
   refine⟨h5,g5,?_⟩
   rw[if_neg (by omega),if_neg hl,if_neg hl,bdKey,go_ok,e5,go_ok,e6]
end Go.Proofs.YtbfgadekkemlcaaGreatDoor.K
namespace Go.Proofs.YtbfgadekkemlcaaGreatDoor.K
open Go Go.Kx
theorem Bu.bu {S:Nat→Prop} {h0 h h':H} {v v':Value} {br br':Option Nat} {l l':List UInt8} (q:Bu S h0 h v br l) (r:Bu (Own h br) h h' v' br' l'):Bu S h0 h' v' br' l':=by
 have key:∀ x,Own h br x→S x:=fun x z=>z.elim (fun w=>q.own x w.symm) (fun w=>q.new x (Nat.le_trans q.u.next w))
 exact⟨q.u.trans (r.u.mono fun x _ z=>key x z),r.ba,fun b hb=>key b (r.own b hb),q.new⟩
theorem Bu.grow {S:Nat→Prop} {h0 h h':H} {v:Value} {br:Option Nat} {l:List UInt8} (q:Bu S h0 h v br l) (g:Grow h h'):Bu S h0 h' v br l:=⟨q.u.trans (g.upd S),q.ba.grow g,q.own,q.new⟩
theorem Bu.row {S:Nat→Prop} {h0 h:H} {v:Value} {br:Option Nat} {l:List UInt8} (q:Bu S h0 h v br l) {b o:Nat} {r:List Value} (w:Row h0 b o r) (hS:¬ S b):Row h b o r:=w.upd q.u hS
theorem Bu.gr {S:Nat→Prop} {hG h0 h:H} {v:Value} {br:Option Nat} {l:List UInt8} (q:Bu S h0 h v br l) (g:Grow hG h0) (hS:∀ x,S x→hG.next≤x):Grow hG h:=g.own q.u hS
theorem Bu.back {h h1 h':H} {v':Value} {br br':Option Nat} {l':List UInt8} (g:Grow h h1) (q:Bu (Own h1 br) h1 h' v' br' l'):Bu (Own h br) h h' v' br' l':=by
 have key:∀ x,Own h1 br x→Own h br x:=fun x z=>z.elim .inl fun w=>.inr (Nat.le_trans g.next w)
 exact⟨(g.upd _).trans (q.u.mono fun x _ z=>key x z),q.ba,fun b hb=>key b (q.own b hb),fun x hx=>.inr hx⟩
theorem eDec {N:Nat} (hN:N≤9223372036854775807) (h:H):CLM (.f 121) [.int .i64 (N:Nat)] h = .ok (.string ⟨⟨decL N⟩⟩) h:=by
 rw[cM121]
 show (bif Nat.ble N 9223372036854775807 then _ else _)=_
 rw[Nat.ble_eq_true_of_le hN]; rfl
def okB (d:Nat) (k:Int) (x:List UInt8) (n m:Int) (a:Ts):Bool:=decide (d≤64∧okHead k x n m a.len)&&okTs (d+1) a
def WrL (ts:Ts):Prop:=∀ {S:Nat→Prop} {hG h0 h:H} {va v:Value} {rows:List (List Value)} {br:Option Nat} {acc:List UInt8} {bb:Nat} {k n m:Int} {x:List UInt8} (i d:Nat),(∀ y,S y→hG.next≤y)→Grow hG h0→Bu S h0 h v br acc→Sl 5 hG va rows→TsR hG ts (rows.drop i)→Row h0 bb 0 (tc k x n m va)→¬ S bb→d≤64→i≤rows.length→rows.length≤4000000→acc.length+100*ts.bulk≤2000000000→ts.bulk≤4000000 →
  ∃ h' v' br' l',Bu S h0 h' v' br' (acc++l')∧l'.length≤100*ts.bulk∧(okTs (d+1) ts=true→l'=wTs (decide (0<i∨k=13)) ts) ∧
   F123.l10 Tryz.prog CLM nu0 nu0 v (.int .i64 (d:Nat)) (ptr bb) (.bool true) (.int .i64 (i:Nat)) h=F123.j15 Tryz.prog CLM nu0 nu0 v' (ptr bb) (.bool (okTs (d+1) ts)) h'
theorem head13 {k n m:Int} {x:List UInt8} {a:Ts} (ho:okHead k x n m a.len):wTs (decide (k=13)) a=wTs (decide (x≠[])) a:=by
 cases a with
 |nil=>rfl
 |cons k' x' n' m' a' r'=>
  have hlen:(Ts.cons k' x' n' m' a' r').len=r'.len+1:=rfl
  have:decide (k=13)=decide (x≠[]):=by
   apply decide_eq_decide.2
   have h2:=ho.2.1
   rw[hlen] at h2
   have hk0:k≠1∧k≠2∧k≠3:=by
    rcases h2 with ⟨_,z⟩|⟨hK,⟨z,_⟩|⟨_,z⟩⟩
    ·omega
    ·omega
    ·unfold isK at hK
     refine⟨by omega,?_,?_⟩
     ·rintro rfl; unfold arN at z; simp at z; omega
     ·rintro rfl; unfold arN at z; simp at z; omega
   rcases ho.2.2 with z|z|z|z
   ·exact absurd z hk0.1
   ·exact absurd z.1 hk0.2.1
   ·have hx:x≠[]:=by rintro rfl; exact absurd z.2 (by decide)
    have:k=13:=z.1.resolve_left hk0.2.2
    exact⟨fun _=>hx,fun _=>this⟩
   ·exact⟨fun w=>absurd w z.2.2.2.1,fun w=>absurd z.2.2.2.2.1 w⟩
  rw[this]
theorem written1 {k n m:Int} {x:List UInt8} {a:Ts} (ih:WrL a) {hG h:H} {va v:Value} {ar:List (List Value)} {br:Option Nat} {acc:List UInt8} (s:Sl 5 hG va ar) (q:TsR hG a ar) (g:Grow hG h) (ba:BA h v br acc) (own:∀ b,br=some b→hG.next≤b) (d:Nat) (fd:d≤1000)
  (few:acc.length+100*(1+x.length+a.bulk)≤2000000001) (few2:1+x.length+a.bulk≤4000000) :
  ∃ h' v' br' l',Bu (Own h br) h h' v' br' (acc++l')∧l'.length≤100*(1+x.length+a.bulk) - 1∧(okB d k x n m a=true→l'=wOne k x n m (wTs (decide (x≠[])) a)) ∧
   CLM (.f 123) [v,.agg ⟨tc k x n m va⟩,.int .i64 (d:Nat)] h = .ok (.tuple ⟨[v',.bool (okB d k x n m a)]⟩) h':=by
 obtain⟨eb,gb,r⟩:=box_row 46 (tc k x n m va) h
 obtain⟨h1,hh1⟩ : ∃ h1,h1=h.alloc (.cells (tc k x n m va) 46 0 false):=⟨_,rfl⟩
 rw[← hh1] at eb gb r
 have hn1:h1.next=h.next+1:=by rw[hh1]; rfl
 have hlb:=a.len_bulk
 obtain⟨b1,cap,hv⟩:=s.val' q
 have hrl:=q.len
 have ba1:=ba.grow gb
 have bu1:Bu (Own h1 br) h1 h1 v br acc:=Bu.of ba1
 have hS:∀ y,Own h1 br y→hG.next≤y:=fun y z=>z.elim (fun w=>own y w.symm) (fun w=>by have:=g.next; omega)
 have nS:¬ Own h1 br h.next:=fun z=>z.elim (fun w=>by have:=ba.lt w.symm; omega) (fun w=>by omega)
 have no:okB d k x n m a=false→∀ {h2:H},Grow h1 h2→∃ h' v' br' l',Bu (Own h br) h h' v' br' (acc++l')∧l'.length≤100*(1+x.length+a.bulk) - 1∧(okB d k x n m a=true→l'=wOne k x n m (wTs (decide (x≠[])) a))∧(Res.ok (Value.tuple ⟨[v,.bool false]⟩) h2) = .ok (.tuple ⟨[v',.bool (okB d k x n m a)]⟩) h':=by
  intro hb h2 g2
  refine⟨h2,v,br,[],?_,(by simp only[List.length_nil]; omega),(fun z=>by rw[hb] at z; cases z),(by rw[hb])⟩
  rw[List.append_nil]
  exact Bu.back gb (bu1.grow g2)
 rw[cM123,F123.eq,eb,go_ok,xgtr,go_ok,ifV_dec]
 by_cases hd:d≤64
 ·rw[if_neg (by omega),r.get46 rfl,go_ok]
  obtain⟨h2,g2,e2⟩:=eFits (k:=k) (n:=n) (m:=m) (x:=x) (a:=b1) (len:=a.len) (cap:=cap) (by omega) h1
  rw[← hv] at e2
  rw[e2,go_ok,xun_not,go_ok,ifV_not]
  by_cases ho:okHead k x n m a.len
  ·have hokB:okB d k x n m a=okTs (d+1) a:=by unfold okB; rw[decide_eq_true ⟨hd,ho⟩,Bool.true_and]
   rw[if_pos ho,F123.j3_eq]
   have r2:=r.grow g2
   have bu2:=bu1.grow g2
   rw[t0 r2,xeql,go_ok,ifV_dec]
   by_cases hk1:k=1
   ·have ha:a = .nil:=by
     rcases ho.2.1 with ⟨_,z⟩|⟨z,_⟩
     ·exact Ts.len_nil z
     ·unfold isK at z; omega
    obtain⟨h3,g3,e3⟩:=eRQuote ⟨⟨x⟩⟩ (by rw[bl_mk]; omega) h2
    rw[bl_mk] at e3
    have hq:=quo_len x
    obtain⟨v4,br4,h4,e4,bu4⟩:=(bu2.grow g3).str ⟨⟨quo x⟩⟩ (by show _+(quo x).length≤_; omega)
    refine⟨h4,v4,br4,quo x,Bu.back gb bu4,by omega,fun _=>by unfold wOne; rw[if_pos hk1],?_⟩
    rw[if_pos hk1,t1 r2,e3,go_ok,e4,go_ok,hokB,ha]; rfl
   ·have hK:=okHead_k ho hk1
    have hwl:=wrd_len k
    rw[if_neg hk1,F123.j5_eq,t0 r2]
    obtain⟨h3,g3,e3⟩:=eRWord k h2
    obtain⟨v4,br4,h4,e4,bu4⟩:=(bu2.grow g3).str ⟨⟨wrd k⟩⟩ (by show _+(wrd k).length≤_; omega)
    obtain⟨v5,br5,h5,bu5,e5⟩:=bu4.push (by rw[List.length_append]; show _+(wrd k).length<_; omega) 40
    have r5:=bu5.row r nS
    obtain⟨v6,br6,h6,e6,bu6⟩:=bu5.str ⟨⟨x⟩⟩ (by rw[List.length_append,List.length_append,List.length_singleton]; show _+(wrd k).length+1+x.length≤_; omega)
    obtain⟨c,hc⟩ : ∃ c,c=wrd k++[40]++x:=⟨_,rfl⟩
    have hcl:c.length≤8+x.length:=by rw[hc]; simp; omega
    have bu6:Bu (Own h1 br) h1 h6 v6 br6 (acc++c):=by rw[hc]; simpa using bu6
    obtain⟨h7,v7,br7,l7,bu7,ll7,le7,e7⟩:=ih 0 d hS (g.trans gb) bu6 s q r nS hd (Nat.zero_le _) (by omega) (by rw[List.length_append]; omega) (by omega)
    have r7:=bu7.row r nS
    rw[e3,go_ok,e4,go_ok,show (.int .u8 40:Value) = .int .u8 ((40:UInt8).toNat:Int) from rfl]
    have tail:∃ h' v' br',Bu (Own h1 br) h1 h' v' br' (acc++c++l7++((if k=7 then [44]++decL n.toNat++[44]++decL m.toNat else [])++[41]))∧F123.j15 Tryz.prog CLM nu0 nu0 v7 (ptr h.next) (.bool (okTs (d+1) a)) h7 = .ok (.tuple ⟨[v',.bool (okTs (d+1) a)]⟩) h':=by
     have hlen:(acc++c++l7).length≤2000001000:=by simp only[List.length_append]; omega
     rw[F123.j15_eq,t0 r7,xeql,go_ok,ifV_dec]
     by_cases h7':k=7
     ·obtain⟨N,M,hN,hM,hn1,hm1⟩:=okHead_n ho h7'
      subst hN hM
      have lN:=decL_len N
      have lM:=decL_len M
      obtain⟨v8,br8,h8,bu8,e8⟩:=bu7.push (by omega) 44
      obtain⟨v9,br9,h9,e9,bu9⟩:=bu8.str ⟨⟨decL N⟩⟩ (by show (acc++c++l7++[44]).length+(decL N).length≤_; simp only[List.length_append,List.length_singleton] at *; omega)
      obtain⟨v10,br10,h10,bu10,e10⟩:=bu9.push (by show (acc++c++l7++[44]++decL N).length<_; simp only[List.length_append,List.length_singleton] at *; omega) 44
      obtain⟨v11,br11,h11,e11,bu11⟩:=bu10.str ⟨⟨decL M⟩⟩ (by show (acc++c++l7++[44]++decL N++[44]).length+(decL M).length≤_; simp only[List.length_append,List.length_singleton] at *; omega)
      obtain⟨v12,br12,h12,bu12,e12⟩:=bu11.push (by show (acc++c++l7++[44]++decL N++[44]++decL M).length<_; simp only[List.length_append,List.length_singleton] at *; omega) 41
      have r8:=bu8.row r nS
      have r10:=bu10.row r nS
      refine⟨h12,v12,br12,?_,?_⟩
      ·rw[if_pos h7',Int.toNat_natCast,Int.toNat_natCast]; simpa using bu12
      ·rw[if_pos h7',show (.int .u8 44:Value) = .int .u8 ((44:UInt8).toNat:Int) from rfl]
       refine (e8 _).trans ?_
       rw[t2 r8,eDec (by omega),go_ok,e9,go_ok]
       refine (e10 _).trans ?_
       rw[t3 r10,eDec (by omega),go_ok,e11,go_ok,show (.int .u8 41:Value) = .int .u8 ((41:UInt8).toNat:Int) from rfl]
       exact (e12 _).trans rfl
     ·obtain⟨v8,br8,h8,bu8,e8⟩:=bu7.push (by omega) 41
      refine⟨h8,v8,br8,by rw[if_neg h7']; simpa using bu8,?_⟩
      rw[if_neg h7',show (.int .u8 41:Value) = .int .u8 ((41:UInt8).toNat:Int) from rfl]
      exact (e8 _).trans rfl
    obtain⟨h8,v8,br8,bu8,e8⟩:=tail
    have l4:=decL_len n.toNat
    have l5:=decL_len m.toNat
    refine⟨h8,v8,br8,c++l7++((if k=7 then [44]++decL n.toNat++[44]++decL m.toNat else [])++[41]),Bu.back gb (by simpa using bu8),?_,?_,?_⟩
    ·have:(if k=7 then [44]++decL n.toNat++[44]++decL m.toNat else []:List UInt8).length≤42:=by
      split
      ·simp only[List.length_append,List.length_singleton]; omega
      ·simp
     simp only[List.length_append,List.length_singleton]
     omega
    ·intro hb
     rw[hokB] at hb
     have:=le7 hb
     rw[show decide (0<0∨k=13)=decide (k=13) by simp,head13 ho] at this
     unfold wOne
     rw[if_neg hk1,this,hc]; simp
    ·refine (e5 _).trans ?_
     rw[t1 r5,e6,go_ok,hokB,← e8]
     exact e7
  ·rw[if_neg ho]
   exact no (by unfold okB; rw[decide_eq_false (fun z=>ho z.2),Bool.false_and]) g2
 ·rw[if_pos (by omega)]
  exact no (by unfold okB; rw[decide_eq_false (fun z=>hd z.1),Bool.false_and]) (Grow.refl _)
theorem writtenL:∀ ts:Ts,WrL ts:=by
 intro ts
 induction ts with
 |nil=>
  intro S hG h0 h va v rows br acc bb k n m x i d hS g bu s q r nS hd hi hr few few2
  have:=congrArg List.length (show rows.drop i=[] from q)
  rw[List.length_drop,List.length_nil] at this
  have r':=bu.row r nS
  have s':=s.grow (bu.gr g hS)
  obtain⟨a,cap,e⟩:=s'.val
  refine⟨h,v,br,[],by rw[List.append_nil]; exact bu,Nat.le_refl _,fun _=>rfl,?_⟩
  rw[F123.l10_eq,t4 r',e,ln44,go_ok,xlss,go_ok,ifV_dec,if_neg (by omega)]; rfl
 |cons k' x' n' m' a rest iha ihr=>
  intro S hG h0 h va v rows br acc bb k n m x i d hS g bu s q r nS hd hi hr few few2
  obtain⟨wa,ar,rr,e,sa,qa,qr⟩:=q
  obtain⟨hc,hdr,hlt⟩:=drop_cons e
  unfold Ts.bulk at few few2
  obtain⟨b0,o0',ia,row,hl5,ho5⟩:=s.term hc
  obtain⟨aa,cap,ev⟩:=s.val
  have hok:okTs (d+1) (.cons k' x' n' m' a rest)=(okB (d+1) k' x' n' m' a&&okTs (d+1) rest):=rfl
  have comma:∃ h2 v2 br2,Bu S h0 h2 v2 br2 (acc++(if decide (0<i∨k=13) then [44] else []))∧∃ y1 y2 y3,F123.l10 Tryz.prog CLM nu0 nu0 v (.int .i64 (d:Nat)) (ptr bb) (.bool true) (.int .i64 (i:Nat)) h=F123.j14 Tryz.prog CLM nu0 nu0 v2 (.int .i64 (d:Nat)) (ptr bb) (.int .i64 (i:Nat)) (.bool true) y1 y2 y3 h2:=by
   have r':=bu.row r nS
   obtain⟨v2,br2,h2,bu2,e2⟩:=bu.push (by omega) 44
   have en:F123.l10 Tryz.prog CLM nu0 nu0 v (.int .i64 (d:Nat)) (ptr bb) (.bool true) (.int .i64 (i:Nat)) h=F123.j12 Tryz.prog CLM nu0 nu0 v (.int .i64 (d:Nat)) (ptr bb) (.int .i64 (i:Nat)) (.bool true) h:=by
    rw[F123.l10_eq,t4 r',ev,ln44,go_ok,xlss,go_ok,ifV_dec,if_pos (by omega),ifV_t]
   rw[en,F123.j12_eq,xgtr,go_ok,ifV_dec,show (.int .u8 44:Value) = .int .u8 ((44:UInt8).toNat:Int) from rfl]
   by_cases h0i:0<i
   ·refine⟨h2,v2,br2,by rw[show decide (0<i∨k=13)=true from decide_eq_true (.inl h0i),if_pos rfl]; exact bu2,.tuple #[],.tuple #[],.tuple #[],?_⟩
    rw[if_pos (by omega)]
    exact e2 _
   ·rw[if_neg (show ¬ ((0:Int)<(i:Int)) by omega),fa46_0,go_ok,c0 r',go_ok,xeql,go_ok,ifV_dec]
    by_cases h13:k=13
    ·refine⟨h2,v2,br2,by rw[show decide (0<i∨k=13)=true from decide_eq_true (.inr h13),if_pos rfl]; exact bu2,ptr bb,.int .i64 k,.bool (decide (k=13)),?_⟩
     rw[if_pos h13]
     exact e2 _
    ·refine⟨h,v,br,by rw[show decide (0<i∨k=13)=false from decide_eq_false (by omega),if_neg (by decide),List.append_nil]; exact bu,ptr bb,.int .i64 k,.bool (decide (k=13)),?_⟩
     rw[if_neg h13]
  obtain⟨h2,v2,br2,bu2,y1,y2,y3,e2⟩:=comma
  obtain⟨c,hcc⟩ : ∃ c,c=(if decide (0<i∨k=13) then [(44:UInt8)] else []):=⟨_,rfl⟩
  have hcl:c.length≤1:=by rw[hcc]; cases decide (0<i∨k=13)<;>simp
  rw[← hcc] at bu2
  have g2:=bu2.gr g hS
  have r2:=bu2.row r nS
  obtain⟨h3,v3,br3,l3,bu3,ll3,le3,e3⟩:=written1 (k:=k') (n:=n') (m:=m') (x:=x') iha sa qa g2 bu2.ba (fun b hb=>hS b (bu2.own b hb)) (d+1) (by omega) (by rw[List.length_append]; omega) (by omega)
  have bu3:=bu2.bu bu3
  have row2:=row.grow g2
  have step:F123.l10 Tryz.prog CLM nu0 nu0 v (.int .i64 (d:Nat)) (ptr bb) (.bool true) (.int .i64 (i:Nat)) h=F123.l10 Tryz.prog CLM nu0 nu0 v3 (.int .i64 (d:Nat)) (ptr bb) (.bool (okB (d+1) k' x' n' m' a)) (.int .i64 ((i+1:Nat):Int)) h3:=by
   rw[e2,F123.j14_eq,t4 r2,ia,go_ok,row2.get46 hl5,go_ok,xadd,go_ok,wad (by omega),e3,go_ok,xextract_0,go_ok,xextract_1,go_ok,xadd,go_ok,wad (by omega)]
  rw[hok]
  cases hb:okB (d+1) k' x' n' m' a with
  |false=>
   have r3:=bu3.row r nS
   refine⟨h3,v3,br3,c++l3,by rw[← List.append_assoc]; exact bu3,?_,(fun z=>by rw[Bool.false_and] at z; cases z),?_⟩
   ·rw[List.length_append]; unfold Ts.bulk; omega
   ·rw[step,hb,Bool.false_and,F123.l10_eq,t4 r3,ev,ln44,go_ok,xlss,go_ok,ifV_dec]
    by_cases hlt2:i+1<rows.length
    ·rw[if_pos (by omega),ifV_f]
    ·rw[if_neg (by omega)]
  |true=>
   have hl3:=le3 hb
   obtain⟨h4,v4,br4,l4,bu4,ll4,le4,e4⟩:=ihr (i+1) d hS g bu3 s (by rw[hdr]; exact qr) r nS hd (by omega) hr (by rw[List.length_append,List.length_append]; omega) (by omega)
   refine⟨h4,v4,br4,c++l3++l4,by simpa using bu4,?_,?_,?_⟩
   ·rw[List.length_append,List.length_append]; unfold Ts.bulk; omega
   ·intro z
    rw[Bool.true_and] at z
    have:=le4 z
    rw[show decide (0<i+1∨k=13)=true from decide_eq_true (.inl (by omega))] at this
    rw[this,hl3,hcc]
    rfl
   ·rw[step,hb,Bool.true_and,e4]
end Go.Proofs.YtbfgadekkemlcaaGreatDoor.K
namespace Go.Proofs.YtbfgadekkemlcaaGreatDoor.K
open Go Go.Kx
structure Two (h0 h:H) (v:Value) (br:Option Nat) (l:List UInt8) (w:Value) (bw:Option Nat) (ls:List (List UInt8)):Prop where
 b:Bl h0 h v br l
 s:SL h0 h w bw ls
theorem BA.elb {h:H} {v:Value} {br:Option Nat} {l:List UInt8} (q:BA h v br l) {y:Nat} (hy:br=some y):∃ c f op,h.get y=some (.cells c 5 f op):=by
 rcases q with ⟨e,_⟩|⟨e,_⟩|⟨b,e,_,_,hg⟩|⟨b,_,_,e,_,hg,_⟩
 ·rw[e] at hy; cases hy
 ·rw[e] at hy; cases hy
 ·rw[e] at hy; cases hy; exact⟨_,_,_,hg⟩
 ·rw[e] at hy; cases hy; exact⟨_,_,_,hg⟩
theorem Lst.elb {h:H} {w:Value} {bw:Option Nat} {rows:List (List Value)} {e E:Nat} (q:Lst e E h w bw rows) {y:Nat} (hy:bw=some y):∃ c f op,h.get y=some (.cells c e f op):=by
 rcases q with ⟨z,_⟩|⟨b,_,_,z,_,hg,_⟩
 ·rw[z] at hy; cases hy
 ·rw[z] at hy; cases hy; exact⟨_,_,_,hg⟩
theorem Two.bu {h0 h h':H} {v v' w:Value} {br br' bw:Option Nat} {l l':List UInt8} {ls:List (List UInt8)} (q:Two h0 h v br l w bw ls) (r:Bu (Own h br) h h' v' br' l'):Two h0 h' v' br' l' w bw ls:=by
 refine⟨q.b.bu r,⟨(q.b.bu r).g,q.s.l.upd r.u fun y hy z=>?_,q.s.own⟩⟩
 obtain⟨c,f,op,hg⟩:=Lst.elb q.s.l hy
 rcases z with z|z
 ·obtain⟨c',f',op',hg'⟩:=q.b.ba.elb z.symm
  rw[hg] at hg'
  cases hg'
 ·have:=H.get_lt hg; omega
theorem Two.grow {h0 h h':H} {v w:Value} {br bw:Option Nat} {l:List UInt8} {ls:List (List UInt8)} (q:Two h0 h v br l w bw ls) (g:Grow h h'):Two h0 h' v br l w bw ls:=⟨q.b.more g,q.s.more g⟩
theorem Two.str {h0 h:H} {v w:Value} {br bw:Option Nat} {l:List UInt8} {ls:List (List UInt8)} (q:Two h0 h v br l w bw ls) (s:ByteArray) (few:l.length+s.data.toList.length≤35184372088832) :
  ∃ v' br' h',xbuiltin Tryz.prog .append [71,9] [v,.string s] h = .ok v' h'∧Two h0 h' v' br' (l++s.data.toList) w bw ls:=by
 obtain⟨v',br',h',e,r⟩:=(Bu.of q.b.ba).str s few
 exact⟨v',br',h',e,q.bu r⟩
theorem Two.push {h0 h:H} {v w:Value} {br bw:Option Nat} {l:List UInt8} {ls:List (List UInt8)} (q:Two h0 h v br l w bw ls) (few:l.length<35184372088832) (c:UInt8) :
  ∃ v' br' h',Two h0 h' v' br' (l++[c]) w bw ls∧∀ K:Value→H→Res Value,((xbuildSlice Tryz.prog 71 1 [(0,.int .u8 (c.toNat:Int))] h).go .pan fun t h2=>((xbuiltin Tryz.prog .append [71,71] [v,t] h2).go .pan K))=K v' h':=by
 obtain⟨v',br',h',r,e⟩:=(Bu.of q.b.ba).push few c
 exact⟨v',br',h',q.bu r,e⟩
theorem Two.add {h0 h:H} {v w:Value} {br bw:Option Nat} {l:List UInt8} {ls:List (List UInt8)} (q:Two h0 h v br l w bw ls) (few:ls.length<8000000) (p:List UInt8) :
  ∃ w' bw' h',Two h0 h' v br l w' bw' (ls++[p])∧∀ K:Value→H→Res Value,((xbuildSlice Tryz.prog 22 1 [(0,.string ⟨⟨p⟩⟩)] h).go .pan fun t h2=>((xbuiltin Tryz.prog .append [22,22] [w,t] h2).go .pan K))=K w' h':=by
 have eb:xbuildSlice Tryz.prog 22 1 [(0,.string ⟨⟨p⟩⟩)] h = .ok (.slice (some ⟨h.next,0,none⟩) 1 1) (h.alloc (.cells [.string ⟨⟨p⟩⟩] 9 0 false)):=by kernel_rfl
 obtain⟨h1,hh1⟩ : ∃ h1,h1=h.alloc (.cells [.string ⟨⟨p⟩⟩] 9 0 false):=⟨_,rfl⟩
 have g1:Grow h h1:=by rw[hh1]; exact (Grow.refl h).alloc _
 have q1:=q.grow g1
 obtain⟨w',bw',h',e,u,l',n⟩:=lst_pushN LSt q1.s.l (sr_good ls) (by rw[sr_len]; exact few) (by rw[hh1]; exact H.alloc_self _ _) rfl rfl
 have gr:=q1.s.g.own u (fun x z=>q1.s.own x z.symm)
 refine⟨w',bw',h',⟨⟨gr,q1.b.ba.upd u fun b o sp n c z y=>?_,q1.b.own⟩,⟨gr,by rw[sr_app]; exact l',fun b hb=>?_⟩⟩,fun K=>by rw[eb,go_ok,← hh1,e,go_ok]⟩
 ·obtain⟨c',f',op',hg'⟩:=Lst.elb q1.s.l y.symm
  obtain⟨c2,f2,op2,hg2⟩:=q1.b.ba.el z
  rw[hg'] at hg2
  cases hg2
 ·rcases n with y|⟨c,y,y'⟩
  ·exact q1.s.own b (y ▸ hb)
  ·rw[y] at hb; cases hb; exact Nat.le_trans q1.s.g.next y'
section
variable {h:H} {b o:Nat} {t:TK} {vi vo:Value} (q:Row h b o (kc t vi vo))
include q
theorem d2:xload Tryz.prog 22 (.pointer (some ⟨b,o+2,none⟩)) h = .ok vi h:=by rw[ld22,q.cell (j:=2) rfl,ofO_some]
theorem d3:xload Tryz.prog 23 (.pointer (some ⟨b,o+3,none⟩)) h = .ok vo h:=by rw[ld23,q.cell (j:=3) rfl,ofO_some]
end
theorem rinsL {h0:H} {t:TK} {vi vo w:Value} {bb:Nat} (q0:TaskR h0 t vi vo) (r0:Row h0 bb 0 (kc t vi vo)) (few:t.bulk≤4000000):∀ (rest:List (List UInt8)) (i:Nat) {h:H} {v:Value} {br:Option Nat} {acc:List UInt8},Bl h0 h v br acc→t.ins.drop i=rest→i≤t.ins.length→acc.length+joinN rest+rest.length≤1900000000 →
  ∃ h',Grow h0 h'∧((okInL (t.ins.take i) rest=false∧∃ v',F86.l11 Tryz.prog CLM nu0 nu0 v w (ptr bb) (.int .i64 (i:Nat)) h = .ok (.tuple ⟨[v',w,.bool false]⟩) h') ∨
   (okInL (t.ins.take i) rest=true∧∃ v' br',Bl h0 h' v' br' (acc++joinT rest)∧F86.l11 Tryz.prog CLM nu0 nu0 v w (ptr bb) (.int .i64 (i:Nat)) h=F86.j18 Tryz.prog CLM nu0 nu0 v' w (ptr bb) h')):=by
 unfold TK.bulk at few
 have li:=insB_len t.ins
 intro rest
 induction rest with
 |nil=>
  intro i h v br acc b hr hi hl
  have:=congrArg List.length hr
  rw[List.length_drop,List.length_nil] at this
  have q:=q0.grow b.g
  refine⟨h,b.g,.inr ⟨rfl,v,br,by rw[joinT,List.append_nil]; exact b,?_⟩⟩
  rw[F86.l11_eq,k2 (r0.grow b.g),q.ins.str.len,go_ok,xlss,go_ok,ifV_dec,if_neg (by omega)]
 |cons p rest ih=>
  intro i h v br acc b hr hi hl
  obtain⟨hp,hdr,hlt⟩:=drop_cons hr
  unfold joinN at hl
  rw[List.length_cons] at hl
  have q:=q0.grow b.g
  have r:=r0.grow b.g
  have hpl:=insB_mem (List.mem_of_getElem? hp)
  obtain⟨h1,x,z,g1,e1,hz⟩:=eRParse ⟨⟨p⟩⟩ (by rw[bl_mk]; omega) h
  rw[bl_mk] at hz
  have q1:=q.grow g1
  have r1:=r.grow g1
  have b1:=b.more g1
  obtain⟨s,es,qs⟩:=q1.ins.cut (i:=i) (by omega)
  obtain⟨a,ia,ca⟩:=q1.ins.str.at_ hp
  have la:xload Tryz.prog 9 (.pointer (some a)) h1 = .ok (.string ⟨⟨p⟩⟩) h1:=by rw[ld9,ca,ofO_some]
  have hhas:=eHas qs.str ⟨⟨p⟩⟩ (by rw[List.length_take]; omega)
  rw[bl_mk] at hhas
  have en:F86.l11 Tryz.prog CLM nu0 nu0 v w (ptr bb) (.int .i64 (i:Nat)) h=if 0≤z then .ok (.tuple ⟨[v,w,.bool false]⟩) h1 else ifV (.bool ((t.ins.take i).contains p)) (.ok (.tuple ⟨[v,w,.bool false]⟩) h1) (F86.j16 Tryz.prog CLM nu0 nu0 v w (ptr bb) (.int .i64 (i:Nat)) h1):=by
   rw[F86.l11_eq,k2 r,q.ins.str.len,go_ok,xlss,go_ok,ifV_dec,if_pos (by omega),F86.j13_eq,k2 r,q.ins.str.ld hp,e1,go_ok,xextract_0,go_ok,xextract_1,go_ok,plain2_int,cond_true,xgeq,Res.ok1_ok,ifV_dec,fa25_2,Res.ok1_ok,d2 r1,Res.ok1_ok,es,Res.ok1_ok,fa25_2,Res.ok1_ok,d2 r1,Res.ok1_ok,ia,Res.ok1_ok,la,Res.ok1_ok,hhas,go_ok]
  rw[en]
  have hok:okInL (t.ins.take i) (p::rest)=((okPath p && !(t.ins.take i).contains p)&&okInL (t.ins.take i++[p]) rest):=rfl
  have htk:t.ins.take i++[p]=t.ins.take (i+1):=by rw[List.take_add_one,hp]; rfl
  rw[hok,htk]
  by_cases hz0:0≤z
  ·rw[if_pos hz0]
   have:okPath p=false:=by cases ho:okPath p with|false=>rfl|true=>have:=hz.2 ho; omega
   rw[this]
   exact⟨h1,b1.g,.inl ⟨rfl,v,rfl⟩⟩
  ·rw[if_neg hz0,hz.1 (by omega)]
   cases (t.ins.take i).contains p with
   |true=>exact⟨h1,b1.g,.inl ⟨rfl,v,rfl⟩⟩
   |false=>
    obtain⟨v2,br2,h2,b2,e2⟩:=b1.push (by omega) 32
    have r2:=r0.grow b2.g
    have q2:=q0.grow b2.g
    obtain⟨v3,br3,h3,e3,b3⟩:=b2.str ⟨⟨p⟩⟩ (by rw[List.length_append,List.length_singleton]; show _+p.length≤_; omega)
    have b3:Bl h0 h3 v3 br3 (acc++[32]++p):=b3
    obtain⟨h4,g4,rr⟩:=ih (i+1) b3 hdr (by omega) (by simp only[List.length_append,List.length_singleton]; omega)
    have en2:F86.j16 Tryz.prog CLM nu0 nu0 v w (ptr bb) (.int .i64 (i:Nat)) h1=F86.l11 Tryz.prog CLM nu0 nu0 v3 w (ptr bb) (.int .i64 ((i+1:Nat):Int)) h3:=by
     rw[F86.j16_eq,show (.int .u8 32:Value) = .int .u8 ((32:UInt8).toNat:Int) from rfl]
     refine (e2 _).trans ?_
     rw[k2 r2,q2.ins.str.ld hp,e3,go_ok,xadd,go_ok,wad (by omega)]
    rw[ifV_f,en2]
    refine⟨h4,g4,rr.imp (fun z=>⟨by rw[z.1]; rfl,z.2⟩) ?_⟩
    rintro ⟨z1,v',br',b4,e4⟩
    exact⟨by rw[z1]; rfl,v',br',by rw[joinT]; simpa using b4,e4⟩
theorem po0 {h:H} {b o:Nat} {p:List UInt8} {c:List Value} (q:Row h b o (.string ⟨⟨p⟩⟩::c)):xload Tryz.prog 9 (.pointer (some ⟨b,o,none⟩)) h = .ok (.string ⟨⟨p⟩⟩) h:=by
 rw[ld9,show (⟨b,o,none⟩ : Addr)=⟨b,o+0,none⟩ from rfl,q.cell (j:=0) rfl,ofO_some]
theorem routsL {h0:H} {t:TK} {vi vo:Value} {rows:List (List Value)} {bb:Nat} (s0:Sl 6 h0 vo rows) (r0:Row h0 bb 0 (kc t vi vo)) (fr:rows.length≤1000):∀ (os:List (List UInt8 × T1)) (i:Nat) {h:H} {v w:Value} {br bw:Option Nat} {acc:List UInt8} {ls:List (List UInt8)},OutsR h0 os (rows.drop i)→i≤rows.length→Two h0 h v br acc w bw ls→(∀ l∈ls,l.length≤4000000)→ls.length+os.length≤1000→acc.length+100*outsB os≤1900000000→outsB os≤4000000 →
  ∃ h',Grow h0 h'∧(((okOuts os&&clean ls os)=false∧∃ v' w',F86.l21 Tryz.prog CLM nu0 nu0 v w (ptr bb) (.int .i64 (i:Nat)) h = .ok (.tuple ⟨[v',w',.bool false]⟩) h') ∨
   ((okOuts os&&clean ls os)=true∧∃ v' br' w',Bl h0 h' v' br' (acc++wOuts os)∧F86.l21 Tryz.prog CLM nu0 nu0 v w (ptr bb) (.int .i64 (i:Nat)) h=F86.j35 Tryz.prog CLM nu0 nu0 v' w' h')):=by
 intro os
 induction os with
 |nil=>
  intro i h v w br bw acc ls q hi two fl hls few few2
  have:=congrArg List.length (show rows.drop i=[] from q)
  rw[List.length_drop,List.length_nil] at this
  refine⟨h,two.b.g,.inr ⟨rfl,v,br,w,by rw[wOuts,List.append_nil]; exact two.b,?_⟩⟩
  rw[F86.l21_eq,k3 (r0.grow two.b.g),(s0.grow two.b.g).outsLen,go_ok,xlss,go_ok,ifV_dec,if_neg (by omega)]
 |cons x os ih=>
  intro i h v w br bw acc ls q hi two fl hls few few2
  obtain⟨c,rr,e,t1,qr⟩:=q
  obtain⟨hc,hdr,hlt⟩:=drop_cons e
  obtain⟨b,o,ia,row,hl6,ho6⟩:=s0.out hc
  unfold outsB at few few2
  rw[List.length_cons] at hls
  have g:=two.b.g
  obtain⟨h1,y,z,g1,e1,hz⟩:=eRParse ⟨⟨x.1⟩⟩ (by rw[bl_mk]; omega) h
  rw[bl_mk] at hz
  have two1:=two.grow g1
  obtain⟨h2,g2,e2⟩:=eClashes two1.s.str ⟨⟨x.1⟩⟩ (by rw[bl_mk]; omega) fl (by omega)
  rw[bl_mk] at e2
  have two2:=two1.grow g2
  have hok:(okOuts (x::os)&&clean ls (x::os))=(((okPath x.1&&okT1 x.2)&&okOuts os)&&(!clB ls x.1&&clean (ls++[x.1]) os)):=rfl
  rw[hok]
  have r:=r0.grow g
  have row:=row.grow g
  have en:F86.l21 Tryz.prog CLM nu0 nu0 v w (ptr bb) (.int .i64 (i:Nat)) h=if 0≤z then .ok (.tuple ⟨[v,w,.bool false]⟩) h1 else ifV (.bool (clB ls x.1)) (.ok (.tuple ⟨[v,w,.bool false]⟩) h2) (F86.j26 Tryz.prog CLM nu0 nu0 v w (ptr bb) (.int .i64 (i:Nat)) w (.pointer (some ⟨bb,0+3,none⟩)) vo (.int .i64 (i:Nat)) (.pointer (some ⟨b,o,none⟩)) (.pointer (some ⟨b,o,none⟩)) (.string ⟨⟨x.1⟩⟩) (.bool (clB ls x.1)) h2):=by
   rw[F86.l21_eq,k3 r,(s0.grow g).outsLen,go_ok,xlss,go_ok,ifV_dec,if_pos (by omega),F86.j23_eq,k3 r,ia,go_ok,o0 row,e1,go_ok,xextract_0,go_ok,xextract_1,go_ok,xgeq,go_ok,ifV_dec,fa25_3,go_ok,d3 (r.grow g1),go_ok,ia,go_ok,fa48_0,go_ok,po0 (row.grow g1),go_ok,e2,go_ok]
  rw[en]
  by_cases hz0:0≤z
  ·rw[if_pos hz0]
   have:okPath x.1=false:=by cases ho:okPath x.1 with|false=>rfl|true=>have:=hz.2 ho; omega
   rw[this]
   exact⟨h1,two1.b.g,.inl ⟨rfl,v,w,rfl⟩⟩
  ·rw[if_neg hz0,hz.1 (by omega)]
   cases hcl:clB ls x.1 with
   |true=>exact⟨h2,two2.b.g,.inl ⟨by rw[Bool.not_true,Bool.false_and,Bool.and_false],v,w,rfl⟩⟩
   |false=>
    obtain⟨w3,bw3,h3,two3,e3⟩:=two2.add (by omega) x.1
    obtain⟨v4,br4,h4,e4,two4⟩:=two3.str ⟨#[111,117,116,32]⟩ (by show _+4≤_; omega)
    have two4:Two h0 h4 v4 br4 (acc++[111,117,116,32]) w3 bw3 (ls++[x.1]):=two4
    obtain⟨v5,br5,h5,e5,two5⟩:=two4.str ⟨⟨x.1⟩⟩ (by show _+x.1.length≤_; simp only[List.length_append,List.length_cons,List.length_nil]; omega)
    obtain⟨v6,br6,h6,e6,two6⟩:=two5.str ⟨#[32,61,32]⟩ (by show (acc++[111,117,116,32]++x.1).length+3≤_; simp only[List.length_append,List.length_cons,List.length_nil]; omega)
    have two6:Two h0 h6 v6 br6 (acc++[111,117,116,32]++x.1++[32,61,32]) w3 bw3 (ls++[x.1]):=two6
    obtain⟨y6,hy6⟩ : ∃ y,y=acc++[111,117,116,32]++x.1++[32,61,32]:=⟨_,rfl⟩
    have hy6l:y6.length=acc.length+x.1.length+7:=by rw[hy6]; simp only[List.length_append,List.length_cons,List.length_nil]; omega
    rw[← hy6] at two6
    have g2':=two2.b.g
    have g4':=two4.b.g
    have g6':=two6.b.g
    have row2:=(row.grow g1).grow g2
    have rowAt:∀ {h':H},Grow h0 h'→Row h' b o (.string ⟨⟨x.1⟩⟩::c):=fun {h'} g'=>by
     obtain⟨b',o',sp,cap,e',row',_⟩:=s0.at_ hc
     have:=ia h'
     rw[e'] at this
     rw[ia23 _ _ _ _ _ _ _ _ (List.getElem?_eq_some_iff.1 hc).1] at this
     cases this
     exact row'.grow g'
    obtain⟨va,ar,rfl,sa,qa⟩:=t1
    have hbk:x.2.bulk=1+x.2.x.length+x.2.args.bulk:=rfl
    obtain⟨h7,v7,br7,l7,bu7,ll7,le7,e7⟩:=written1 (k:=x.2.k) (n:=x.2.n) (m:=x.2.m) (x:=x.2.x) (writtenL x.2.args) sa qa g6' two6.b.ba two6.b.own 1 (by omega) (by omega) (by omega)
    rw[show ((1:Nat):Int)=1 from rfl] at e7
    have two7:=two6.bu bu7
    have hT:okB 1 x.2.k x.2.x x.2.n x.2.m x.2.args=okT1 x.2:=rfl
    rw[hT] at e7 le7
    have en2:F86.j26 Tryz.prog CLM nu0 nu0 v w (ptr bb) (.int .i64 (i:Nat)) w (.pointer (some ⟨bb,0+3,none⟩)) vo (.int .i64 (i:Nat)) (.pointer (some ⟨b,o,none⟩)) (.pointer (some ⟨b,o,none⟩)) (.string ⟨⟨x.1⟩⟩) (.bool false) h2=ifV (.bool (!okT1 x.2)) (.ok (.tuple ⟨[v7,w3,.bool false]⟩) h7) ((xbuildSlice Tryz.prog 71 1 [(0,.int .u8 ((10:UInt8).toNat:Int))] h7).go .pan fun t119 h=>(xbuiltin Tryz.prog .append [71,71] [v7,t119] h).go .pan fun t120 h=>(xbin Tryz.prog .add 3 (.int .i64 (i:Nat)) (.int .i64 1) h).go .pan fun t121 h=>F86.l21 Tryz.prog CLM nu0 nu0 t120 w3 (ptr bb) t121 h):=by
     rw[F86.j26_eq,k3 (r0.grow g2'),ia,go_ok,o0 (rowAt g2'),e3,e4,go_ok,k3 (r0.grow g4'),ia,go_ok,o0 (rowAt g4'),e5,go_ok,e6,go_ok,k3 (r0.grow g6'),ia,go_ok,o1 (rowAt g6') _ rfl,e7,go_ok,xextract_0,go_ok,xextract_1,go_ok,xun_not,go_ok]
     rfl
    rw[ifV_f,en2]
    cases hb2:okT1 x.2 with
    |false=>exact⟨h7,two7.b.g,.inl ⟨by rw[Bool.and_false,Bool.false_and,Bool.false_and],v7,w3,rfl⟩⟩
    |true=>
     have hl7:=le7 hb2
     obtain⟨v8,br8,h8,two8,e8⟩:=two7.push (by rw[List.length_append]; omega) 10
     obtain⟨h9,g9,rr9⟩:=ih (i+1) (by rw[hdr]; exact qr) (by omega) two8 (fun l hl=>by
      rcases List.mem_append.1 hl with hl|hl
      ·exact fl l hl
      ·rw[List.mem_singleton.1 hl]; omega) (by rw[List.length_append,List.length_singleton]; omega) (by simp only[List.length_append,List.length_singleton]; omega) (by omega)
     have en3:ifV (.bool (!true)) (.ok (.tuple ⟨[v7,w3,.bool false]⟩) h7) ((xbuildSlice Tryz.prog 71 1 [(0,.int .u8 ((10:UInt8).toNat:Int))] h7).go .pan fun t119 h=>(xbuiltin Tryz.prog .append [71,71] [v7,t119] h).go .pan fun t120 h=>(xbin Tryz.prog .add 3 (.int .i64 (i:Nat)) (.int .i64 1) h).go .pan fun t121 h=>F86.l21 Tryz.prog CLM nu0 nu0 t120 w3 (ptr bb) t121 h)=F86.l21 Tryz.prog CLM nu0 nu0 v8 w3 (ptr bb) (.int .i64 ((i+1:Nat):Int)) h8:=by
      rw[Bool.not_true,ifV_f]
      refine (e8 _).trans ?_
      rw[xadd,go_ok,wad (by omega)]
     rw[en3,Bool.true_and,Bool.true_and,Bool.not_false,Bool.true_and]
     refine⟨h9,g9,rr9.imp id ?_⟩
     rintro ⟨z1,v',br',w',b',e'⟩
     refine⟨z1,v',br',w',?_,e'⟩
     rw[wOuts,show wT x.2=l7 by rw[hl7]; rfl]
     rw[hy6] at b'
     simpa using b'
theorem okOuts_ne {t:TK}:okTask t=((okName t.name&&decide (1≤t.bud∧t.bud≤1048576))&&(okIns t.ins&&(decide (1≤t.outs.length∧t.outs.length≤8)&&(okOuts t.outs&&clean [] t.outs)))):=by
 unfold okTask okTask0
 cases okName t.name<;>cases okIns t.ins<;>cases okOuts t.outs<;>cases clean [] t.outs<;>cases decide (1≤t.bud∧t.bud≤1048576)<;>cases decide (1≤t.outs.length∧t.outs.length≤8)<;>rfl
theorem eRTask {h:H} {t:TK} {vi vo:Value} (q:TaskR h t vi vo) (few:t.bulk≤4000000) :
  ∃ h' v' w' br',Grow h h'∧(okTask t=true→Bl h h' v' br' (textL t))∧CLM (.f 86) [.slice none 0 0,.agg ⟨kc t vi vo⟩,.slice none 0 0] h = .ok (.tuple ⟨[v',w',.bool (okTask t)]⟩) h':=by
 obtain⟨eb,gb,r⟩:=box_row 25 (kc t vi vo) h
 obtain⟨h1,hh1⟩ : ∃ h1,h1=h.alloc (.cells (kc t vi vo) 25 0 false):=⟨_,rfl⟩
 obtain⟨bb,hbb⟩ : ∃ bb,bb=h.next:=⟨_,rfl⟩
 rw[← hh1] at eb gb r
 rw[← hbb] at eb r
 have q1:=q.grow gb
 have few0:=few
 unfold TK.bulk at few
 have li:=insB_len t.ins
 have lo:=outsB_len t.outs
 have hji:=joinN_insB t.ins
 obtain⟨rows,so,oq⟩:=q1.outs
 have hrl:=oq.len
 rw[okOuts_ne]
 have no:∀ {c:Bool} {h2:H} {v w:Value},c=false→Grow h h2→∃ h' v' w' br',Grow h h'∧(c=true→Bl h h' v' br' (textL t))∧(Res.ok (Value.tuple ⟨[v,w,.bool false]⟩) h2) = .ok (.tuple ⟨[v',w',.bool c]⟩) h':=fun {c h2 v w} hc g=>⟨h2,v,w,none,g,(fun z=>by rw[hc] at z; cases z),by rw[hc]⟩
 rw[cM86,F86.eq,eb,go_ok,k0 r,eRName,go_ok,bl_mk,xun_not,go_ok,ifV_bool]
 cases okName t.name with
 |false=>exact no rfl gb
 |true=>
  rw[Bool.not_true,cond_false,Bool.true_and,k1 r,xlss,go_ok,ifV_dec]
  by_cases hb1:1≤t.bud
  ·rw[if_neg (by omega),k1 r,xgtr,go_ok,ifV_dec]
   by_cases hb2:t.bud≤1048576
   ·rw[if_neg (by omega),decide_eq_true ⟨hb1,hb2⟩,Bool.true_and,k2 r,q1.ins.str.len,go_ok,xgtr,go_ok,ifV_dec]
    by_cases h64:t.ins.length≤64
    ·have hoi:okIns t.ins=okInL [] t.ins:=by unfold okIns; rw[decide_eq_true h64,Bool.true_and]
     rw[if_neg (by omega),k3 r,so.outsLen,go_ok,xlss,go_ok,ifV_dec]
     by_cases ho1:1≤t.outs.length
     ·rw[if_neg (by omega),k3 r,so.outsLen,go_ok,xgtr,go_ok,ifV_dec]
      by_cases ho8:t.outs.length≤8
      ·obtain⟨N,hN⟩ : ∃ N:Nat,t.bud=N:=⟨t.bud.toNat,by omega⟩
       have lN:=decL_len N
       rw[if_neg (by omega),decide_eq_true ⟨ho1,ho8⟩,Bool.true_and,F86.j3_eq]
       obtain⟨v2,br2,h2,e2,b2⟩:=(Bl.start h1).str ⟨#[116,97,115,107,32]⟩ (by show 0+5≤_; omega)
       have b2:Bl h1 h2 v2 br2 [116,97,115,107,32]:=b2
       obtain⟨v3,br3,h3,e3,b3⟩:=b2.str ⟨⟨t.name⟩⟩ (by show 5+t.name.length≤_; omega)
       have b3:Bl h1 h3 v3 br3 ([116,97,115,107,32]++t.name):=b3
       obtain⟨v4,br4,h4,b4,e4⟩:=b3.push (by simp only[List.length_append,List.length_cons,List.length_nil]; omega) 32
       obtain⟨v5,br5,h5,e5,b5⟩:=b4.str ⟨⟨decL N⟩⟩ (by show _+(decL N).length≤_; simp only[List.length_append,List.length_cons,List.length_nil]; omega)
       obtain⟨v6,br6,h6,b6,e6⟩:=b5.push (by show ([116,97,115,107,32]++t.name++[32]++decL N).length<_; simp only[List.length_append,List.length_cons,List.length_nil]; omega) 10
       have hwl:wHead t=[116,97,115,107,32]++t.name++[32]++decL N++[10]:=by unfold wHead; rw[hN]; rfl
       have b6:Bl h1 h6 v6 br6 (wHead t):=by rw[hwl]; exact b6
       have hwll:(wHead t).length≤t.name.length+27:=by rw[hwl]; simp only[List.length_append,List.length_cons,List.length_nil]; omega
       have r6:=r.grow b6.g
       obtain⟨y,hy⟩ : ∃ y:List UInt8,y=if t.ins=[] then [] else [105,110]:=⟨_,rfl⟩
       have hyl:y.length≤2:=by rw[hy]; split<;>simp
       have p10:∃ h7 v7 br7,Bl h1 h7 v7 br7 (wHead t++y)∧((xbin Tryz.prog .gtr 3 (.int .i64 (t.ins.length:Nat)) (.int .i64 0) h6).go .pan fun t39 h=>ifV t39 ((xbuiltin Tryz.prog .append [71,9] [v6,(.string ⟨#[105,110]⟩)] h).go .pan fun t40 h=>F86.j10 Tryz.prog CLM nu0 nu0 t40 (.slice none 0 0) (ptr bb) h) (F86.j10 Tryz.prog CLM nu0 nu0 v6 (.slice none 0 0) (ptr bb) h))=F86.j10 Tryz.prog CLM nu0 nu0 v7 (.slice none 0 0) (ptr bb) h7:=by
        rw[xgtr,go_ok,ifV_dec]
        by_cases hi0:t.ins=[]
        ·refine⟨h6,v6,br6,by rw[hy,if_pos hi0,List.append_nil]; exact b6,?_⟩
         rw[if_neg (by rw[hi0]; simp)]
        ·obtain⟨v7,br7,h7,e7,b7⟩:=b6.str ⟨#[105,110]⟩ (by show _+2≤_; omega)
         have hne:t.ins.length≠0:=fun z=>hi0 (List.length_eq_zero_iff.1 z)
         refine⟨h7,v7,br7,by rw[hy,if_neg hi0]; exact b7,?_⟩
         rw[if_pos (by omega),e7,go_ok]
       obtain⟨h7,v7,br7,b7,e7⟩:=p10
       obtain⟨h8,g8,rr8⟩:=rinsL (w:=.slice none 0 0) q1 r few0 t.ins 0 b7 rfl (Nat.zero_le _) (by rw[List.length_append]; omega)
       rw[List.take_zero] at rr8
       have en:F86.l11 Tryz.prog CLM nu0 nu0 v7 (.slice none 0 0) (ptr bb) (.int .i64 ((0:Nat):Int)) h7=F86.j10 Tryz.prog CLM nu0 nu0 v7 (.slice none 0 0) (ptr bb) h7:=(F86.j10_eq ..).symm
       rw[e2,go_ok,k0 (r.grow b2.g),e3,go_ok,show (.int .u8 32:Value) = .int .u8 ((32:UInt8).toNat:Int) from rfl]
       have go1:∀ R:Res Value,F86.l11 Tryz.prog CLM nu0 nu0 v7 (.slice none 0 0) (ptr bb) (.int .i64 ((0:Nat):Int)) h7=R→((xbuildSlice Tryz.prog 71 1 [(0,.int .u8 ((32:UInt8).toNat:Int))] h3).go .pan fun t28 h=>(xbuiltin Tryz.prog .append [71,71] [v3,t28] h).go .pan fun t29 h=>(xfieldAddr Tryz.prog 25 (ptr bb) 1 h).go .pan fun t30 h=>(xload Tryz.prog 3 t30 h).go .pan fun t31 h=>(CLM (.f 121) [t31] h).go .pan fun t32 h=>(xbuiltin Tryz.prog .append [71,9] [t29,t32] h).go .pan fun t33 h=>(xbuildSlice Tryz.prog 71 1 [(0,(.int .u8 10))] h).go .pan fun t34 h=>(xbuiltin Tryz.prog .append [71,71] [t33,t34] h).go .pan fun t35 h=>(xfieldAddr Tryz.prog 25 (ptr bb) 2 h).go .pan fun t36 h=>(xload Tryz.prog 22 t36 h).go .pan fun t37 h=>(xbuiltin Tryz.prog .len [22] [t37] h).go .pan fun t38 h=>(xbin Tryz.prog .gtr 3 t38 (.int .i64 0) h).go .pan fun t39 h=>ifV t39 ((xbuiltin Tryz.prog .append [71,9] [t35,(.string ⟨#[105,110]⟩)] h).go .pan fun t40 h=>F86.j10 Tryz.prog CLM nu0 nu0 t40 (.slice none 0 0) (ptr bb) h) (F86.j10 Tryz.prog CLM nu0 nu0 t35 (.slice none 0 0) (ptr bb) h))=R:=by
        rintro R rfl
        refine (e4 _).trans ?_
        rw[k1 (r.grow b4.g),hN,eDec (by omega),go_ok,e5,go_ok,show (.int .u8 10:Value) = .int .u8 ((10:UInt8).toNat:Int) from rfl]
        refine (e6 _).trans ?_
        rw[k2 r6,(q1.grow b6.g).ins.str.len,go_ok,en]
        exact e7
       rcases rr8 with ⟨z,v',e'⟩|⟨z,v',br',b8,e8⟩
       ·refine⟨h8,v',.slice none 0 0,none,gb.trans g8,(fun w=>by rw[hoi,z,Bool.false_and] at w; cases w),?_⟩
        rw[hoi,z,Bool.false_and]
        exact go1 _ e'
       ·rw[hoi,z,Bool.true_and]
        have r8:=r.grow b8.g
        have hjl:=joinT_len t.ins
        have p20:∃ h9 v9 br9,Bl h1 h9 v9 br9 (wHead t++wIns t.ins)∧F86.j18 Tryz.prog CLM nu0 nu0 v' (.slice none 0 0) (ptr bb) h8=F86.j20 Tryz.prog CLM nu0 nu0 v9 (.slice none 0 0) (ptr bb) h9:=by
         rw[F86.j18_eq,k2 r8,(q1.grow b8.g).ins.str.len,go_ok,xgtr,go_ok,ifV_dec]
         by_cases hi0:t.ins=[]
         ·refine⟨h8,v',br',?_,by rw[if_neg (by rw[hi0]; simp)]⟩
          rw[hy,if_pos hi0,hi0] at b8
          rw[hi0]
          simpa [wIns,joinT] using b8
         ·have hne:t.ins.length≠0:=fun z=>hi0 (List.length_eq_zero_iff.1 z)
          obtain⟨v9,br9,h9,b9,e9⟩:=b8.push (by rw[List.length_append,List.length_append]; omega) 10
          refine⟨h9,v9,br9,?_,?_⟩
          ·unfold wIns; rw[if_neg hi0]
           rw[hy,if_neg hi0] at b9
           simpa using b9
          ·rw[if_pos (by omega),show (.int .u8 10:Value) = .int .u8 ((10:UInt8).toNat:Int) from rfl]
           exact e9 _
        obtain⟨h9,v9,br9,b9,e9⟩:=p20
        have hwi:=wIns_len t.ins
        obtain⟨h10,g10,rr10⟩:=routsL so r (by omega) t.outs 0 oq (Nat.zero_le _) (⟨b9,(SL.start h1).more b9.g⟩ : Two h1 h9 v9 br9 (wHead t++wIns t.ins) (.slice none 0 0) none []) (fun l hl=>by cases hl) (by simp; omega) (by rw[List.length_append]; omega) (by omega)
        have en2:F86.j18 Tryz.prog CLM nu0 nu0 v' (.slice none 0 0) (ptr bb) h8=F86.l21 Tryz.prog CLM nu0 nu0 v9 (.slice none 0 0) (ptr bb) (.int .i64 ((0:Nat):Int)) h9:=by rw[e9,F86.j20_eq]; rfl
        rcases rr10 with ⟨z2,v2',w2',e'⟩|⟨z2,v2',br2',w2',b10,e10⟩
        ·refine⟨h10,v2',w2',none,gb.trans g10,(fun w=>by rw[z2] at w; cases w),?_⟩
         rw[z2]
         exact go1 _ (e8.trans (en2.trans e'))
        ·have hwo:=wOuts_len t.outs
         obtain⟨v11,br11,h11,e11,b11⟩:=b10.str ⟨#[101,110,100,10]⟩ (by rw[List.length_append,List.length_append]; show _+4≤_; omega)
         have b11:Bl h1 h11 v11 br11 (textL t):=b11
         refine⟨h11,v11,w2',br11,gb.trans b11.g,(fun _=>⟨gb.trans b11.g,b11.ba,fun b hb=>Nat.le_trans gb.next (b11.own b hb)⟩),?_⟩
         rw[z2]
         refine go1 _ (e8.trans (en2.trans (e10.trans ?_)))
         rw[F86.j35_eq,e11,go_ok]
      ·rw[if_pos (by omega),decide_eq_false (fun z=>ho8 z.2)]
       exact no (by rw[Bool.false_and,Bool.and_false]) gb
     ·rw[if_pos (by omega),decide_eq_false (fun z=>ho1 z.1)]
      exact no (by rw[Bool.false_and,Bool.and_false]) gb
    ·rw[if_pos (by omega)]
     exact no (by unfold okIns; rw[decide_eq_false h64,Bool.false_and,Bool.false_and]) gb
   ·rw[if_pos (by omega),decide_eq_false (fun z=>hb2 z.2)]
    exact no (by rw[Bool.false_and]) gb
  ·rw[if_pos (by omega),decide_eq_false (fun z=>hb1 z.1)]
   exact no (by rw[Bool.false_and]) gb
end Go.Proofs.YtbfgadekkemlcaaGreatDoor.K
namespace Go.Proofs.YtbfgadekkemlcaaGreatDoor.K
open Go Go.Kx
theorem OneT.addr {h:H} {v:Value} {t:TK} {vi vo:Value} (q:OneT h v t vi vo):∃ b o,(∀ h',xindexAddr Tryz.prog 53 v (.int .i64 0) h' = .ok (.pointer (some ⟨b,o,none⟩)) h')∧Row h b o (kc t vi vo):=by
 obtain⟨⟨b,o,sp,cap,rfl,r⟩,q⟩:=q
 refine⟨b,o,fun h'=>?_,r⟩
 have:=ia53 b o 1 cap 0 sp .i64 h' (by omega)
 rw[Nat.zero_mul,Nat.add_zero] at this
 exact this
theorem eRText {h:H} {v:Value} {t:TK} {vi vo:Value} (q:OneT h v t vi vo) (few:t.bulk≤4000000) :
  ∃ h',Grow h h'∧CLM (.f 51) [v] h = .ok (if okTask t then .tuple ⟨[.string ⟨⟨textL t⟩⟩,.bool true]⟩ else .tuple ⟨[.string ⟨#[]⟩,.bool false]⟩) h':=by
 obtain⟨b,o,ia,r⟩:=q.addr
 have hhas:=eHas ((SL.start h).str) ⟨⟨t.name⟩⟩ (by simp)
 rw[bl_mk] at hhas
 obtain⟨w,bw,h1,s1,e1⟩:=(SL.start h).push (by simp) t.name
 have q1:=q.grow s1.g
 have r1:=r.grow s1.g
 obtain⟨h2,v2,w2,br2,g2,b2,e2⟩:=eRTask q1.t few
 have q2:=q1.grow g2
 have g12:=s1.g.trans g2
 refine⟨h2,g12,?_⟩
 have w1:IntKind.i64.wrap (0+1)=1:=by decide
 rw[cM51,F51.eq,q.len,go_ok,xgtr,go_ok,ifV_dec,if_neg (by omega),F51.j3_eq,F51.l6_eq,q.len,go_ok,xlss,go_ok,ifV_dec,if_pos (by omega),F51.j8_eq,ia,go_ok,k0 r,hhas,go_ok,show (([]:List (List UInt8)).contains t.name)=false from rfl,ifV_f,F51.j10_eq,ia,go_ok,k0 r,e1,ia,go_ok,r1.get25 rfl,go_ok,e2,go_ok,xextract_0,go_ok,xextract_1,go_ok,xextract_2,go_ok,xun_not,go_ok,ifV_bool]
 cases hok:okTask t with
 |false=>rfl
 |true=>
  rw[Bool.not_true,cond_false,xadd,go_ok,w1,F51.l6_eq,q2.len,go_ok,xlss,go_ok,ifV_dec,if_neg (by omega),F51.j15_eq,BV.conv (b2 hok).ba.bv (by unfold textL; simp),go_ok,if_pos rfl]
theorem eRfp {h:H} {t:TK} {vi vo x1:Value} {ks:List (List UInt8)} (q:TaskR h t vi vo) (kr:KeysR h x1 ks) (few:t.bulk≤4000000) (fk:ks.length≤1000000) :
  ∃ h',Grow h h'∧CLM (.f 26) [.agg ⟨kc t vi vo⟩,x1] h = .ok (.tuple ⟨[.agg ⟨byteVals (fpK t ks)⟩,.int .i64 (fpE t ks)]⟩) h':=by
 obtain⟨eb,gb,r⟩:=box_row 25 (kc t vi vo) h
 obtain⟨h1,hh1⟩ : ∃ h1,h1=h.alloc (.cells (kc t vi vo) 25 0 false):=⟨_,rfl⟩
 rw[← hh1] at eb gb r
 obtain⟨h2,hh2⟩ : ∃ h2,h2=h1.alloc (.cells zc32 32 0 false):=⟨_,rfl⟩
 have g2:Grow h1 h2:=by rw[hh2]; exact (Grow.refl h1).alloc _
 have k2':h2.get h1.next=some (.cells zc32 32 0 false):=by rw[hh2]; exact H.alloc_self _ _
 have r2:=r.grow g2
 have g12:=gb.trans g2
 obtain⟨h3,v3,g3,one,e3⟩:=oneTask (q.grow g12)
 have g13:=g12.trans g3
 obtain⟨h4,g4,e4⟩:=eRText one few
 have g14:=g13.trans g4
 have r4:=r2.grow (g3.trans g4)
 have k4:=(g3.trans g4).old _ _ k2'
 have hlen:=textL_len t
 have tell:∀ {h5:H} (l:List UInt8) (e:Int),Grow h h5→h5.get h1.next=some (.cells zc32 32 0 false)→l.length=32→∃ h',Grow h h'∧xstore Tryz.prog 32 (ptr h1.next) (.agg ⟨byteVals l⟩) h5 = .ok undef h'∧kfn Tryz.prog Tryz.f26.results.toList .normal [(4,ptr h1.next),(5,.int .i64 e)] h' = .ok (.tuple ⟨[.agg ⟨byteVals l⟩,.int .i64 e]⟩) h':=by
  intro h5 l e g5 k5 hl
  refine⟨h5.put h1.next (.cells (byteVals l) 32 0 false),g5.put gb.next (H.get_lt k5) _,stKey k5 zc32_len (by rw[bv_len,hl]) (bv_ones l),?_⟩
  exact kfn_two (ty:=32) (by kernel_rfl) (by decide) (ldKey (H.put_self k5) (by rw[bv_len,hl]))
 rw[cM26,F26.eq,eb,go_ok,al32,go_ok,← hh2,r2.get25 rfl,go_ok,e3,go_ok,e4,go_ok]
 unfold fpE fpK
 cases hok:okTask t with
 |false=>
  obtain⟨h5,g5,e5,e6⟩:=tell zKey 127 g14 k4 rfl
  refine⟨h5,g5,?_⟩
  rw[if_neg (by decide),xextract_0,go_ok,xextract_1,go_ok,xun_not,go_ok,ifV_bool,Bool.not_false,cond_true,bdKey,go_ok,e5,go_ok,e6]; rfl
 |true=>
  have kr4:=kr.grow g14
  have qi:=(q.grow g14).ins
  rw[if_pos rfl,xextract_0,go_ok,xextract_1,go_ok,xun_not,go_ok,ifV_bool,Bool.not_true,cond_false,F26.j4_eq,kr4.len,go_ok,k2 r4,qi.str.len,go_ok,xneq,go_ok,ifV_not,if_pos rfl,if_pos rfl]
  by_cases hl:ks.length=t.ins.length
  ·have hhl:=hashed_len (t:=textL t) (ks:=ks) kr.2
   obtain⟨h5,v5,br5,b5,e5⟩:=eRBytes ⟨⟨textL t⟩⟩ kr4 (by show (textL t).length+_≤_; omega)
   obtain⟨h6,g6,e6⟩:=eSum b5.ba.src (by show (hashed (textL t) ks).length≤_; omega)
   obtain⟨h7,g7,e7,e8⟩:=tell (sha (hashed (textL t) ks)) 0 (g14.trans (b5.g.trans g6)) ((b5.g.trans g6).old _ _ k4) (by rw[sha_len])
   refine⟨h7,g7,?_⟩
   rw[if_pos (by omega),if_pos hl,if_pos hl,F26.j6_eq,e5,go_ok,e6,go_ok]
   show (xstore Tryz.prog 32 (ptr h1.next) (.agg ⟨byteVals (sha (hashed (textL t) ks))⟩) h6).go .pan _=_
   rw[e7,go_ok,e8]
  ·obtain⟨h5,g5,e5,e6⟩:=tell zKey 150 g14 k4 rfl
   refine⟨h5,g5,?_⟩
   rw[if_neg (by omega),if_neg hl,if_neg hl,bdKey,go_ok,e5,go_ok,e6]
end Go.Proofs.YtbfgadekkemlcaaGreatDoor.K
namespace Go.Proofs.YtbfgadekkemlcaaGreatDoor.K
open Go Go.Kx
structure MkL (e E:Nat) (h0 h:H) (w:Value) (bw:Option Nat) (rows:List (List Value)):Prop where
 g:Grow h0 h
 l:Lst e E h w bw rows
 own:∀ b,bw=some b→h0.next≤b
 good:GoodR E rows
theorem MkL.start (e E:Nat) (h:H):MkL e E h h (.slice none 0 0) none []:=⟨Grow.refl h,Lst.nil,fun b z=>(by cases z),GoodR.nil⟩
theorem MkL.more {e E:Nat} {h0 h h':H} {w:Value} {bw:Option Nat} {rows:List (List Value)} (q:MkL e E h0 h w bw rows) (g:Grow h h'):MkL e E h0 h' w bw rows:=⟨q.g.trans g,q.l.grow g,q.own,q.good⟩
theorem MkL.app {t e E:Nat} (T:LsT Tryz.prog t e E) {h0 h:H} {w:Value} {bw:Option Nat} {rows rows2:List (List Value)} (q:MkL e E h0 h w bw rows) (few:rows.length+rows2.length≤8000000) (g2:GoodR E rows2) {n:Nat} {es:List (Nat × Value)}
  (eb:xbuildSlice Tryz.prog t n es h = .ok (.slice (some ⟨h.next,0,none⟩) rows2.length rows2.length) (h.alloc (.cells rows2.flatten e 0 false))) :
  ∃ w' bw' h',MkL e E h0 h' w' bw' (rows++rows2)∧Upd (Own h bw) h h'∧(∀ b,bw'=some b→Own h bw b)∧∀ K:Value→H→Res Value,((xbuildSlice Tryz.prog t n es h).go .pan fun x h2=>((xbuiltin Tryz.prog .append [t,t] [w,x] h2).go .pan K))=K w' h':=by
 obtain⟨h1,hh1⟩ : ∃ h1,h1=h.alloc (.cells rows2.flatten e 0 false):=⟨_,rfl⟩
 have g1:Grow h h1:=by rw[hh1]; exact (Grow.refl h).alloc _
 have hg:h1.get h.next=some (.cells rows2.flatten e 0 false):=by rw[hh1]; exact H.alloc_self _ _
 obtain⟨w',bw',h',e',u,l',nb⟩:=lst_appN T (q.l.grow g1) q.good (rows2:=rows2) (k:=rows2.length) (x:=.slice (some ⟨h.next,0,none⟩) rows2.length rows2.length) few (lenV_slice _ _ _) (by
  show h1.row ⟨h.next,0,none⟩ (rows2.length*Tryz.prog.cellsOf e)=some rows2.flatten
  rw[T.ce]
  exact H.row_all hg (flat_len g2)) rfl g2
 have up:Upd (Own h bw) h h':=(g1.upd _).trans (u.mono fun x _ z=>.inl z)
 have own':∀ b,bw'=some b→Own h bw b:=fun b hb=>by
  rcases nb with y|⟨c,y,y'⟩
  ·exact .inl (by rw[← hb,y])
  ·rw[y] at hb; cases hb; exact .inr (Nat.le_trans g1.next y')
 refine⟨w',bw',h',⟨q.g.own up fun x z=>z.elim (fun y=>q.own x y.symm) (fun y=>Nat.le_trans q.g.next y),l',fun b hb=>(own' b hb).elim (fun y=>q.own b y.symm) (fun y=>Nat.le_trans q.g.next y),q.good.append g2⟩,up,own',fun K=>by rw[eb,go_ok,← hh1,e',go_ok]⟩
theorem MkL.slx {t e E:Nat} (T:LsT Tryz.prog t e E) {h0 h:H} {w:Value} {bw:Option Nat} {rows:List (List Value)} (q:MkL e E h0 h w bw rows):∃ tail,SlX E h w rows tail:=Lst.slx T.pos T.ce q.good q.l
theorem MkL.inb {e E:Nat} {h0 h:H} {w:Value} {bw:Option Nat} {rows:List (List Value)} (q:MkL e E h0 h w bw rows):∀ b o sp n c,w = .slice (some ⟨b,o,sp⟩) n c→bw=some b∧b<h.next:=by
 intro b o sp n c z
 rcases q.l with ⟨_,e1,_⟩|⟨b',s,cap,e1,e2,hg,_⟩
 ·rw[e1] at z; cases z
 ·rw[e2] at z; cases z; exact⟨e1,H.get_lt hg⟩
theorem LTm:LsT Tryz.prog 44 46 5:=⟨by kernel_rfl,by kernel_rfl,by kernel_rfl,by kernel_rfl,by kernel_rfl,by omega,by kernel_rfl,Nat.le_of_ble_eq_true (by kernel_rfl)⟩
theorem LOu:LsT Tryz.prog 23 48 6:=⟨by kernel_rfl,by kernel_rfl,by kernel_rfl,by kernel_rfl,by kernel_rfl,by omega,by kernel_rfl,Nat.le_of_ble_eq_true (by kernel_rfl)⟩
theorem LKe:LsT Tryz.prog 26 32 32:=⟨by kernel_rfl,by kernel_rfl,by kernel_rfl,by kernel_rfl,by kernel_rfl,by omega,by kernel_rfl,Nat.le_of_ble_eq_true (by kernel_rfl)⟩
abbrev mk1:List Value:=tc (-71) [] 0 0 (.slice none 0 0)
abbrev mk2:List Value:=tc (-72) [] 0 0 (.slice none 0 0)
def InB (A:Nat→Prop) (v:Value):Prop:=∀ b o sp n c,v = .slice (some ⟨b,o,sp⟩) n c→A b
def TsK (A:Nat→Prop) (h:H):Ts→List (List Value)→Prop
 |.nil,rows=>rows=[]
 |.cons k x n m a r,rows=>∃ va ar tl rr,rows=tc k x n m va::rr∧SlX 5 h va ar (mk1::mk2::tl)∧InB A va∧TsK A h a ar∧TsK A h r rr
theorem TsK.tsR {A:Nat→Prop} {h:H}:∀ {ts:Ts} {rows:List (List Value)},TsK A h ts rows→TsR h ts rows
 |.nil,_,q=>q
 |.cons k x n m a r,rows,⟨va,ar,tl,rr,e,s,_,qa,qr⟩=>⟨va,ar,rr,e,s.sl,qa.tsR,qr.tsR⟩
theorem TsK.upd {S A:Nat→Prop} {h h':H} (u:Upd S h h') (hS:∀ b,A b→¬ S b):∀ {ts:Ts} {rows:List (List Value)},TsK A h ts rows→TsK A h' ts rows
 |.nil,_,q=>q
 |.cons k x n m a r,rows,⟨va,ar,tl,rr,e,s,i,qa,qr⟩=>⟨va,ar,tl,rr,e,s.upd u (fun b o sp n c z=>hS b (i b o sp n c z)),i,qa.upd u hS,qr.upd u hS⟩
theorem TsK.grow {A:Nat→Prop} {h h':H} (g:Grow h h') {ts:Ts} {rows:List (List Value)} (q:TsK A h ts rows):TsK A h' ts rows:=q.upd (g.upd fun _=>False) (fun _ _=>id)
theorem TsK.mono {A B:Nat→Prop} {h:H} (hA:∀ b,A b→B b):∀ {ts:Ts} {rows:List (List Value)},TsK A h ts rows→TsK B h ts rows
 |.nil,_,q=>q
 |.cons k x n m a r,rows,⟨va,ar,tl,rr,e,s,i,qa,qr⟩=>⟨va,ar,tl,rr,e,s,fun b o sp n c z=>hA b (i b o sp n c z),qa.mono hA,qr.mono hA⟩
theorem TsK.len {A:Nat→Prop} {h:H} {ts:Ts} {rows:List (List Value)} (q:TsK A h ts rows):rows.length=ts.len:=q.tsR.len
def T1K (A:Nat→Prop) (h:H) (t:T1) (c:List Value):Prop:=∃ va ar tl,c=tc t.k t.x t.n t.m va∧SlX 5 h va ar (mk1::mk2::tl)∧InB A va∧TsK A h t.args ar
theorem T1K.t1R {A:Nat→Prop} {h:H} {t:T1} {c:List Value} (q:T1K A h t c):T1R h t c:=by
 obtain⟨va,ar,tl,e,s,i,r⟩:=q
 exact⟨va,ar,e,s.sl,r.tsR⟩
theorem T1K.upd {S A:Nat→Prop} {h h':H} (u:Upd S h h') (hS:∀ b,A b→¬ S b) {t:T1} {c:List Value} (q:T1K A h t c):T1K A h' t c:=by
 obtain⟨va,ar,tl,e,s,i,r⟩:=q
 exact⟨va,ar,tl,e,s.upd u (fun b o sp n c z=>hS b (i b o sp n c z)),i,r.upd u hS⟩
theorem T1K.grow {A:Nat→Prop} {h h':H} (g:Grow h h') {t:T1} {c:List Value} (q:T1K A h t c):T1K A h' t c:=q.upd (g.upd fun _=>False) (fun _ _=>id)
theorem T1K.mono {A B:Nat→Prop} {h:H} (hA:∀ b,A b→B b) {t:T1} {c:List Value} (q:T1K A h t c):T1K B h t c:=by
 obtain⟨va,ar,tl,e,s,i,r⟩:=q
 exact⟨va,ar,tl,e,s,fun b o sp n c z=>hA b (i b o sp n c z),r.mono hA⟩
abbrev Btw (h h':H):Nat→Prop:=fun b=>h.next≤b∧b<h'.next
def LoopK (ts:Ts):Prop:=∀ {h0 h:H} {w va:Value} {bw:Option Nat} {acc rows:List (List Value)} {bb:Nat} {k n m:Int} {x:List UInt8} (x2:Value) (i:Nat),Sl 5 h0 va rows→TsR h0 ts (rows.drop i)→i≤rows.length→MkL 46 5 h0 h w bw acc→Row h bb 0 (tc k x n m va)→bw≠some bb→acc.length+ts.len≤7000000→rows.length≤7000000→ts.bulk≤4000000 →
  ∃ h' w' bw' new,MkL 46 5 h0 h' w' bw' (acc++new)∧TsK (fun b=>Btw h h' b∧bw'≠some b) h' ts new∧Upd (Own h bw) h h'∧(∀ b,bw'=some b→Own h bw b)∧F67.l3 Tryz.prog CLM nu0 nu0 (ptr bb) x2 w (.int .i64 (i:Nat)) h=F67.j6 Tryz.prog CLM nu0 nu0 (ptr bb) x2 w' h'
theorem mks_good:GoodR 5 [mk1,mk2]:=fun r hr=>by
 rcases List.mem_cons.1 hr with rfl|hr
 ·exact⟨rfl,rfl⟩
 ·rw[List.mem_singleton.1 hr]; exact⟨rfl,rfl⟩
theorem kfn_cell1 {P:Program} {rs:List ResultVar} {a ty:Nat} {x v:Value} {h:H} (hr:rs=[.cell a ty]) (hx:xload P ty x h = .ok v h):kfn P rs .normal [(a,x)] h = .ok v h:=kfn_cell hr hx
theorem MkL.lt {e E:Nat} {h0 h:H} {w:Value} {bw:Option Nat} {rows:List (List Value)} (q:MkL e E h0 h w bw rows):∀ b,bw=some b→b<h.next:=fun b hb=>q.l.lt hb
theorem copyTerm1 {k n m:Int} {x:List UInt8} {a:Ts} (ih:LoopK a) {h:H} {va:Value} {ar:List (List Value)} (s:Sl 5 h va ar) (q:TsR h a ar) (few:a.bulk≤4000000) :
  ∃ h' c,Grow h h'∧T1K (Btw h h') h' ⟨k,x,n,m,a⟩ c∧CLM (.f 67) [.agg ⟨tc k x n m va⟩] h = .ok (.agg ⟨c⟩) h':=by
 obtain⟨eb,gb,r⟩:=box_row 46 (tc k x n m va) h
 obtain⟨h1,hh1⟩ : ∃ h1,h1=h.alloc (.cells (tc k x n m va) 46 0 false):=⟨_,rfl⟩
 obtain⟨bb,hbb⟩ : ∃ bb,bb=h.next:=⟨_,rfl⟩
 have hg1:h1.get bb=some (.cells (tc k x n m va) 46 0 false):=by rw[hh1,hbb]; exact H.alloc_self _ _
 rw[← hh1] at eb gb r
 rw[← hbb] at eb r
 have hn1:h1.next=h.next+1:=by rw[hh1]; rfl
 obtain⟨h2,hh2⟩ : ∃ h2,h2=h1.alloc (.cells zc46 46 0 false):=⟨_,rfl⟩
 obtain⟨rc,hrc⟩ : ∃ rc,rc=h1.next:=⟨_,rfl⟩
 have g2:Grow h1 h2:=by rw[hh2]; exact (Grow.refl h1).alloc _
 have hg2:h2.get rc=some (.cells zc46 46 0 false):=by rw[hh2,hrc]; exact H.alloc_self _ _
 have hn2:h2.next=h1.next+1:=by rw[hh2]; rfl
 have r2:=r.grow g2
 have g12:=gb.trans g2
 have hal:=a.len_bulk
 have hrl:=q.len
 obtain⟨aa,cap,ev⟩:=s.val' q
 obtain⟨h3,w3,bw3,new,mk3,tk3,u3,o3,e3⟩:=ih (k:=k) (n:=n) (m:=m) (x:=x) (ptr rc) 0 (s.grow g12) (q.grow g12) (Nat.zero_le _) (MkL.start 46 5 h2) r2 (fun z=>by cases z) (by simp; omega) (by omega) few
 rw[List.nil_append] at mk3
 have hnl:=tk3.len
 have bm1:∀ h',xbuild Tryz.prog 46 [(0,.int .i64 (-71))] h' = .ok (.agg ⟨mk1⟩) h':=fun h'=>by kernel_rfl
 have bm2:∀ h',xbuild Tryz.prog 46 [(0,.int .i64 (-72))] h' = .ok (.agg ⟨mk2⟩) h':=fun h'=>by kernel_rfl
 obtain⟨w4,bw4,h4,mk4,u4,o4,e4⟩:=mk3.app LTm (rows2:=[mk1,mk2]) (n:=2) (es:=[(0,.agg ⟨mk1⟩),(1,.agg ⟨mk2⟩)]) (by simp; omega) mks_good (by kernel_rfl)
 have g24:Grow h2 h4:=mk4.g
 have tk4:=tk3.upd u4 (fun b hb z=>z.elim (fun y=>hb.2 y.symm) (fun y=>by have:=hb.1.2; omega))
 obtain⟨tl,sx⟩:=mk4.slx LTm
 obtain⟨w5,e5,sx5,hw5⟩:=sx.cut un44 sz46 co46 (lo:=none) (hi:=some (.int .i64 (new.length:Nat))) (i:=0) (j:=new.length) rfl rfl (Nat.zero_le _) (by rw[List.length_append]; omega)
 have c1:(((new++[mk1,mk2])++tl).take new.length).drop 0=new:=by rw[List.drop_zero,List.append_assoc,List.take_left]
 have c2:((new++[mk1,mk2])++tl).drop new.length=mk1::mk2::tl:=by rw[List.append_assoc,List.drop_left]; rfl
 rw[c1,c2] at sx5
 have inw:∀ b o sp n c,w5 = .slice (some ⟨b,o,sp⟩) n c→bw4=some b∧b<h4.next:=fun b o sp n c z=>by
  obtain⟨o',sp',n',c',z'⟩:=hw5 b o sp n c z
  exact mk4.inb _ _ _ _ _ z'
 obtain⟨ow5,hl5⟩ : (∃ a n c,w5 = .slice a n c)∧True:=⟨by obtain⟨a,c,e⟩:=sx5.sl.val; exact⟨a,_,c,e⟩,trivial⟩
 have hg4:h4.get bb=some (.cells (tc k x n m va) 46 0 false):=g24.old _ _ (g2.old _ _ hg1)
 have hr4:h4.get rc=some (.cells zc46 46 0 false):=g24.old _ _ hg2
 have r4:=r2.grow g24
 obtain⟨h5,hh5⟩ : ∃ h5,h5=h4.put bb (.cells (tc k x n m w5) 46 0 false):=⟨_,rfl⟩
 have hg5:h5.get bb=some (.cells (tc k x n m w5) 46 0 false):=by rw[hh5]; exact H.put_self hg4
 have one5:ones [w5]=true:=by obtain⟨a,n',c,e⟩:=ow5; rw[e]; rfl
 have cel5:w5.cells.size=1∧w5.cells.toList=[w5]:=by obtain⟨a,n',c,e⟩:=ow5; rw[e]; exact⟨rfl,rfl⟩
 have hw:h4.write ⟨bb,0+4,none⟩ [w5]=some h5:=by
  rw[hh5,H.write_eq hg4 (by simp) one5]; rfl
 have u5:Upd (fun y=>y=bb) h4 h5:=by rw[hh5]; exact (Upd.refl (fun y=>y=bb) h4).put (.inl rfl) (H.get_lt hg4) _
 have hne:rc≠bb:=by omega
 have hr5:h5.get rc=some (.cells zc46 46 0 false):=u5.old _ _ hne hr4
 obtain⟨h6,hh6⟩ : ∃ h6,h6=h5.put rc (.cells (tc k x n m w5) 46 0 false):=⟨_,rfl⟩
 have hg6:h6.get rc=some (.cells (tc k x n m w5) 46 0 false):=by rw[hh6]; exact H.put_self hr5
 have ot:ones (tc k x n m w5)=true:=by obtain⟨a,n',c,e⟩:=ow5; rw[e]; rfl
 have hw6:h5.write ⟨rc,0,none⟩ (tc k x n m w5)=some h6:=by rw[hh6]; exact H.write_all hr5 (by rw[zc46_len]; rfl) ot
 have u6:Upd (fun y=>y=rc) h5 h6:=by rw[hh6]; exact (Upd.refl (fun y=>y=rc) h5).put (.inl rfl) (H.get_lt hr5) _
 have u46:Upd (fun y=>y=bb∨y=rc) h4 h6:=(u5.mono fun y _ z=>.inl z).trans (u6.mono fun y _ z=>.inr z)
 have gall:Grow h h6:=(g12.trans g24).own u46 fun y z=>by omega
 have hle:h4.next≤h6.next:=u46.next
 refine⟨h6,tc k x n m w5,gall,⟨w5,new,tl,rfl,sx5.upd u46 (fun b o sp n c z=>?_),fun b o sp n c z=>?_,?_⟩,?_⟩
 ·have:=mk4.own b (inw b o sp n c z).1; omega
 ·have h1:=mk4.own b (inw b o sp n c z).1
  have h2:=(inw b o sp n c z).2
  exact⟨by omega,by omega⟩
 ·refine (tk4.upd u46 (fun b hb=>?_)).mono (fun b hb=>?_)
  ·have:=hb.1.1; omega
  ·have h1:=hb.1.1; have h2:=hb.1.2; have h3:=u4.next; exact⟨by omega,by omega⟩
 ·have hlen:new.length=a.len:=hnl
  rw[cM67,F67.eq,eb,go_ok,al46,go_ok,← hh2,← hrc]
  refine e3.trans ?_
  rw[F67.j6_eq,bm1,go_ok,bm2,go_ok]
  refine (e4 _).trans ?_
  rw[t4 r4,ev,ln44,go_ok,← hlen,e5,go_ok,fa46_4,go_ok,st44 _ _ _ cel5.1,cel5.2,hw,ofU_some,go_ok,(Row.of hg5).get46 rfl,go_ok,st46 _ _ _ rfl,cells_agg,hw6,ofU_some,go_ok]
  exact kfn_cell1 (ty:=46) (by kernel_rfl) ((Row.of hg6).get46 rfl)
theorem copyL:∀ ts:Ts,LoopK ts:=by
 intro ts
 induction ts with
 |nil=>
  intro h0 h w va bw acc rows bb k n m x x2 i s q hi mk r nb hl hr few
  have:=congrArg List.length (show rows.drop i=[] from q)
  rw[List.length_drop,List.length_nil] at this
  obtain⟨a,cap,e⟩:=s.val
  refine⟨h,w,bw,[],by rw[List.append_nil]; exact mk,rfl,Upd.refl _ _,fun b hb=>.inl hb.symm,?_⟩
  rw[F67.l3_eq,t4 r,e,ln44,go_ok,xlss,go_ok,ifV_dec,if_neg (by omega)]
 |cons k' x' n' m' a rest iha ihr=>
  intro h0 h w va bw acc rows bb k n m x x2 i s q hi mk r nb hl hr few
  obtain⟨wa,ar,rr,e,sa,qa,qr⟩:=q
  obtain⟨hc,hdr,hlt⟩:=drop_cons e
  unfold Ts.bulk at few
  have hlen:(Ts.cons k' x' n' m' a rest).len=rest.len+1:=rfl
  rw[hlen] at hl
  obtain⟨b0,o0',ia,row,hl5,ho5⟩:=s.term hc
  obtain⟨aa,cap,ev⟩:=s.val
  obtain⟨h1,c,g1,k1,e1⟩:=copyTerm1 (k:=k') (n:=n') (m:=m') (x:=x') iha (sa.grow mk.g) (qa.grow mk.g) (by omega)
  have k1':=k1
  obtain⟨vc,cr,tl,rfl,sc,ic,kc⟩:=k1'
  obtain⟨ac,capc,evc⟩:=sc.sl.val
  have mk1':=mk.more g1
  have oc:ones (tc k' x' n' m' vc)=true:=by rw[evc]; rfl
  obtain⟨w2,bw2,h2,mk2',u2,o2,e2⟩:=mk1'.app LTm (rows2:=[tc k' x' n' m' vc]) (n:=1) (es:=[(0,.agg ⟨tc k' x' n' m' vc⟩)]) (by rw[List.length_singleton]; omega) (GoodR.one rfl oc) (by rw[evc]; kernel_rfl)
  have r1:=r.grow g1
  have hbl:=r.lt
  have r2:=r1.upd u2 (fun z=>z.elim (fun y=>nb y.symm) (fun y=>by have:=g1.next; omega))
  have nb2:bw2≠some bb:=fun z=>(o2 bb z).elim (fun y=>nb y.symm) (fun y=>by have:=g1.next; omega)
  have nA:∀ b,Btw h h1 b→¬ Own h1 bw b:=fun b hb z=>z.elim (fun y=>by have:=mk.lt b y.symm; have:=hb.1; omega) (fun y=>by have:=hb.2; omega)
  have nA2:∀ b,Btw h h1 b→¬ Own h2 bw2 b:=fun b hb z=>z.elim (fun y=>nA b hb (o2 b y.symm)) (fun y=>by have:=hb.2; have:=u2.next; omega)
  obtain⟨h3,w3,bw3,new,mk3,tk3,u3,o3,e3⟩:=ihr (bb:=bb) (k:=k) (n:=n) (m:=m) (x:=x) x2 (i+1) s (by rw[hdr]; exact qr) (by omega) mk2' r2 nb2 (by rw[List.length_append,List.length_singleton]; omega) hr (by omega)
  have k3:=(k1.upd u2 nA).upd u3 nA2
  obtain⟨vc',cr',tl',ec',sc',ic',kc'⟩:=k3
  have up:Upd (Own h bw) h h3:=by
   refine (g1.upd _).trans ((u2.mono fun y _ z=>?_).trans (u3.mono fun y _ z=>?_))
   ·exact z.elim .inl fun w=>.inr (Nat.le_trans g1.next w)
   ·exact z.elim (fun w=>(o2 y w.symm).elim .inl fun w=>.inr (Nat.le_trans g1.next w)) (fun w=>.inr (Nat.le_trans g1.next (Nat.le_trans u2.next w)))
  have own3:∀ b,bw3=some b→Own h bw b:=fun b hb=>(o3 b hb).elim (fun w=>(o2 b w.symm).elim .inl fun w=>.inr (Nat.le_trans g1.next w)) (fun w=>.inr (Nat.le_trans g1.next (Nat.le_trans u2.next w)))
  have key:∀ b,Btw h h1 b→Btw h h3 b∧bw3≠some b:=fun b hb=>⟨⟨hb.1,by have:=hb.2; have:=u2.next; have:=u3.next; omega⟩,fun z=>nA2 b hb (o3 b z)⟩
  refine⟨h3,w3,bw3,tc k' x' n' m' vc::new,by rw[List.append_assoc] at mk3; exact mk3,⟨vc',cr',tl',new,by rw[ec'],sc',fun b o sp n c z=>key b (ic' b o sp n c z),kc'.mono key,tk3.mono fun b hb=>⟨⟨by have:=hb.1.1; have:=g1.next; have:=u2.next; omega,hb.1.2⟩,hb.2⟩⟩,up,own3,?_⟩
  rw[F67.l3_eq,t4 r,ev,ln44,go_ok,xlss,go_ok,ifV_dec,if_pos (by omega),F67.j5_eq,t4 r,ia,go_ok,(row.grow mk.g).get46 hl5,go_ok,e1,go_ok]
  refine (e2 _).trans ?_
  rw[xadd,go_ok,wad (by omega),e3]
theorem eCopyTerm {h:H} {t:T1} {c:List Value} (q:T1R h t c) (few:t.bulk≤4000000):∃ h' c',Grow h h'∧T1K (Btw h h') h' t c'∧CLM (.f 67) [.agg ⟨c⟩] h = .ok (.agg ⟨c'⟩) h':=by
 obtain⟨va,ar,rfl,s,r⟩:=q
 exact copyTerm1 (copyL t.args) s r (by unfold T1.bulk at few; omega)
end Go.Proofs.YtbfgadekkemlcaaGreatDoor.K
namespace Go.Proofs.YtbfgadekkemlcaaGreatDoor.K
open Go Go.Kx
def LoopQ (ts:Ts):Prop:=∀ {A:Nat→Prop} {h:H} {va:Value} {rows:List (List Value)} {bb:Nat} {k n m:Int} {x:List UInt8} (i:Nat),Sl 5 h va rows→TsK A h ts (rows.drop i)→i≤rows.length→Row h bb 0 (tc k x n m va)→rows.length≤7000000 →
  ∃ h',Grow h h'∧F68.l6 Tryz.prog CLM nu0 nu0 (ptr bb) (.int .i64 (rows.length:Nat)) (.int .i64 (i:Nat)) h = .ok (.bool true) h'
theorem kept1 {k n m:Int} {x:List UInt8} {a:Ts} (ih:LoopQ a) {A:Nat→Prop} {h:H} {va:Value} {ar tl:List (List Value)} (s:SlX 5 h va ar (mk1::mk2::tl)) (q:TsK A h a ar) (few:a.len≤7000000) :
  ∃ h',Grow h h'∧CLM (.f 68) [.agg ⟨tc k x n m va⟩] h = .ok (.bool true) h':=by
 obtain⟨eb,gb,r⟩:=box_row 46 (tc k x n m va) h
 obtain⟨h1,hh1⟩ : ∃ h1,h1=h.alloc (.cells (tc k x n m va) 46 0 false):=⟨_,rfl⟩
 rw[← hh1] at eb gb r
 have s1:=s.grow gb
 have hrl:=q.len
 obtain⟨aa,cap,ev⟩:=s1.sl.val
 have ln1:∀ h',xbuiltin Tryz.prog .len [44] [va] h' = .ok (.int .i64 (ar.length:Nat)) h':=fun h'=>by rw[ev]; exact ln44 _ _ _ _
 obtain⟨v2,e2,s2,_⟩:=s1.cut un44 sz46 co46 (lo:=none) (hi:=some (.int .i64 ((ar.length+2:Nat):Int))) (i:=0) (j:=ar.length+2) rfl rfl (Nat.zero_le _) (by simp only[List.length_cons]; omega)
 have c1:((ar++mk1::mk2::tl).take (ar.length+2)).drop 0=ar++[mk1,mk2]:=by
  rw[List.drop_zero,show ar++mk1::mk2::tl=(ar++[mk1,mk2])++tl by simp,List.take_left' (by simp)]
 rw[c1] at s2
 obtain⟨b1,o1,ia1,row1,_⟩:=s2.sl.term (i:=ar.length) (c:=mk1) (by rw[List.getElem?_append_right (Nat.le_refl _),Nat.sub_self]; rfl)
 obtain⟨b2,o2,ia2,row2,_⟩:=s2.sl.term (i:=ar.length+1) (c:=mk2) (by rw[List.getElem?_append_right (by omega),show ar.length+1 - ar.length=1 by omega]; rfl)
 obtain⟨h2,g2,el⟩:=ih (k:=k) (n:=n) (m:=m) (x:=x) 0 s1.sl (q.grow gb) (Nat.zero_le _) r (by omega)
 have b0:bl ⟨#[]⟩=[]:=rfl
 refine⟨h2,gb.trans g2,?_⟩
 rw[cM68,F68.eq,eb,go_ok,t4 r,ln1,go_ok,t4 r,xadd,go_ok,show IntKind.i64.wrap ((ar.length:Int)+2)=((ar.length+2:Nat):Int) by rw[wrap64 (by omega)]; omega,e2,go_ok,ia1,go_ok,t0 row1,xneq,go_ok,ifV_not,if_pos rfl,xadd,go_ok,wad (by omega),ia2,go_ok,t0 row2,xneq,go_ok,ifV_not,if_pos rfl,ia1,go_ok,t1 row1,xsneq,go_ok,ifV_not,if_pos rfl,ia1,go_ok,t4 row1,ln44,go_ok,xgtr,go_ok,ifV_dec,if_neg (by omega),F68.j5_eq]
 exact el
theorem keptL:∀ ts:Ts,ts.bulk≤4000000→LoopQ ts:=by
 intro ts
 induction ts with
 |nil=>
  intro fb A h va rows bb k n m x i s q hi r few
  have:=congrArg List.length (show rows.drop i=[] from q)
  rw[List.length_drop,List.length_nil] at this
  refine⟨h,Grow.refl h,?_⟩
  rw[F68.l6_eq,xlss,go_ok,ifV_dec,if_neg (by omega),F68.j10_eq]
 |cons k' x' n' m' a rest iha ihr=>
  intro fb A h va rows bb k n m x i s q hi r few
  unfold Ts.bulk at fb
  have hlb:=a.len_bulk
  obtain⟨wa,ar,tl,rr,e,sa,ia',qa,qr⟩:=q
  obtain⟨hc,hdr,hlt⟩:=drop_cons e
  obtain⟨b0,o0',ia,row,hl5,ho5⟩:=s.term hc
  have hal:a.len≤7000000:=by omega
  obtain⟨h1,g1,e1⟩:=kept1 (k:=k') (n:=n') (m:=m') (x:=x') (iha (by omega)) sa qa hal
  obtain⟨h2,g2,e2⟩:=ihr (by omega) (k:=k) (n:=n) (m:=m) (x:=x) (i+1) (s.grow g1) (by rw[hdr]; exact qr.grow g1) (by omega) (r.grow g1) few
  refine⟨h2,g1.trans g2,?_⟩
  rw[F68.l6_eq,xlss,go_ok,ifV_dec,if_pos (by omega),F68.j8_eq,t4 r,ia,go_ok,row.get46 hl5,go_ok,e1,go_ok,xun_not,go_ok,Bool.not_true,ifV_f,xadd,go_ok,wad (by omega),e2]
theorem eKeptTerm {A:Nat→Prop} {h:H} {t:T1} {c:List Value} (q:T1K A h t c) (few:t.bulk≤4000000):∃ h',Grow h h'∧CLM (.f 68) [.agg ⟨c⟩] h = .ok (.bool true) h':=by
 obtain⟨va,ar,tl,rfl,s,_,r⟩:=q
 have:=t.args.len_bulk
 exact kept1 (keptL t.args (by unfold T1.bulk at few; omega)) s r (by unfold T1.bulk at few; omega)
theorem c4 {h:H} {b o:Nat} {k n m:Int} {x:List UInt8} {va:Value} (q:Row h b o (tc k x n m va)):xload Tryz.prog 44 (.pointer (some ⟨b,o+4,none⟩)) h = .ok va h:=by rw[ld44,q.cell (j:=4) rfl,ofO_some]
def LoopS (ts:Ts):Prop:=∀ (ts':Ts) {h:H} {va va':Value} {rows rows':List (List Value)} {b1 b2:Nat} {k n m k' n' m':Int} {x x':List UInt8} (i:Nat),Sl 5 h va rows→TsR h ts (rows.drop i)→Sl 5 h va' rows'→TsR h ts' (rows'.drop i)→i≤rows.length→rows.length=rows'.length→rows.length≤7000000→Row h b1 0 (tc k x n m va)→Row h b2 0 (tc k' x' n' m' va')→ts.bulk≤4000000 →
  ∃ h',Grow h h'∧F64.l4 Tryz.prog CLM nu0 nu0 (ptr b1) (ptr b2) (.int .i64 (i:Nat)) h = .ok (.bool (decide (ts=ts'))) h'
theorem same1 {k n m k' n' m':Int} {x x':List UInt8} {a a':Ts} (ih:LoopS a) {h:H} {va va':Value} {ar ar':List (List Value)} (s:Sl 5 h va ar) (q:TsR h a ar) (s':Sl 5 h va' ar') (q':TsR h a' ar') (few:a.bulk≤4000000) :
  ∃ h',Grow h h'∧CLM (.f 64) [.agg ⟨tc k x n m va⟩,.agg ⟨tc k' x' n' m' va'⟩] h = .ok (.bool (decide (k=k'∧x=x'∧n=n'∧m=m'∧a=a'))) h':=by
 obtain⟨eb,gb,r⟩:=box_row 46 (tc k x n m va) h
 obtain⟨h1,hh1⟩ : ∃ h1,h1=h.alloc (.cells (tc k x n m va) 46 0 false):=⟨_,rfl⟩
 rw[← hh1] at eb gb r
 obtain⟨eb2,gb2,r2⟩:=box_row 46 (tc k' x' n' m' va') h1
 obtain⟨h2,hh2⟩ : ∃ h2,h2=h1.alloc (.cells (tc k' x' n' m' va') 46 0 false):=⟨_,rfl⟩
 rw[← hh2] at eb2 gb2 r2
 have r1:=r.grow gb2
 have g12:=gb.trans gb2
 obtain⟨aa,cap,ev⟩:=s.val' q
 obtain⟨aa',cap',ev'⟩:=s'.val' q'
 have hal:=a.len_bulk
 have no:¬ (k=k'∧x=x'∧n=n'∧m=m'∧a=a')→∃ h',Grow h h'∧(Res.ok (Value.bool false) h2) = .ok (.bool (decide (k=k'∧x=x'∧n=n'∧m=m'∧a=a'))) h':=fun hn=>⟨h2,g12,by rw[decide_eq_false hn]⟩
 rw[cM64,F64.eq,eb,go_ok,eb2,go_ok,t0 r1,t0 r2,xneq,go_ok,ifV_not]
 by_cases hk:k=k'
 ·rw[if_pos hk,t1 r1,t1 r2,xsneq,go_ok,ifV_not,bl_mk,bl_mk]
  by_cases hx:x=x'
  ·rw[if_pos hx,t2 r1,t2 r2,xneq,go_ok,ifV_not]
   by_cases hn:n=n'
   ·rw[if_pos hn,t3 r1,t3 r2,xneq,go_ok,ifV_not]
    by_cases hm:m=m'
    ·rw[if_pos hm,t4 r1,ev,ln44,go_ok,t4 r2,ev',ln44,go_ok,xneq,go_ok,ifV_not]
     by_cases hl:a.len=a'.len
     ·have q1:=q.len
      have q2:=q'.len
      obtain⟨h3,g3,e3⟩:=ih a' (k:=k) (n:=n) (m:=m) (x:=x) (k':=k') (n':=n') (m':=m') (x':=x') 0 (s.grow g12) (q.grow g12) (s'.grow g12) (q'.grow g12) (Nat.zero_le _) (by omega) (by omega) r1 r2 few
      refine⟨h3,g12.trans g3,?_⟩
      rw[if_pos (by omega),F64.j3_eq]
      refine e3.trans (ok_bool ?_)
      rw[decide_eq_true_iff,decide_eq_true_iff]
      exact⟨fun w=>⟨hk,hx,hn,hm,w⟩,fun w=>w.2.2.2.2⟩
     ·rw[if_neg (by omega)]; exact no fun w=>hl (by rw[w.2.2.2.2])
    ·rw[if_neg hm]; exact no fun w=>hm w.2.2.2.1
   ·rw[if_neg hn]; exact no fun w=>hn w.2.2.1
  ·rw[if_neg hx]; exact no fun w=>hx w.2.1
 ·rw[if_neg hk]; exact no fun w=>hk w.1
theorem sameL:∀ ts:Ts,LoopS ts:=by
 intro ts
 induction ts with
 |nil=>
  intro ts' h va va' rows rows' b1 b2 k n m k' n' m' x x' i s q s' q' hi hrr hr r1 r2 few
  have:=congrArg List.length (show rows.drop i=[] from q)
  rw[List.length_drop,List.length_nil] at this
  obtain⟨aa,cap,ev⟩:=s.val
  have h0:ts' = .nil:=by
   have:=q'.len
   rw[List.length_drop] at this
   exact Ts.len_nil (by omega)
  refine⟨h,Grow.refl h,?_⟩
  rw[F64.l4_eq,t4 r1,ev,ln44,go_ok,xlss,go_ok,ifV_dec,if_neg (by omega),F64.j8_eq,h0]; rfl
 |cons k1 x1 n1 m1 a rest iha ihr=>
  intro ts' h va va' rows rows' b1 b2 k n m k' n' m' x x' i s q s' q' hi hrr hr r1 r2 few
  obtain⟨wa,ar,rr,e,sa,qa,qr⟩:=q
  obtain⟨hc,hdr,hlt⟩:=drop_cons e
  unfold Ts.bulk at few
  cases ts' with
  |nil=>
   have:=congrArg List.length (show rows'.drop i=[] from q')
   rw[List.length_drop,List.length_nil] at this
   omega
  |cons k2 x2 n2 m2 a2 rest2=>
   obtain⟨wa2,ar2,rr2,e2,sa2,qa2,qr2⟩:=q'
   obtain⟨hc2,hdr2,hlt2⟩:=drop_cons e2
   obtain⟨b0,o0',ia,row,hl5,ho5⟩:=s.term hc
   obtain⟨b3,o3',ia2,row2,hl52,ho52⟩:=s'.term hc2
   obtain⟨aa,cap,ev⟩:=s.val
   obtain⟨h1,g1,e1⟩:=same1 (k:=k1) (n:=n1) (m:=m1) (x:=x1) (k':=k2) (n':=n2) (m':=m2) (x':=x2) iha sa qa sa2 qa2 (by omega)
   have st:F64.l4 Tryz.prog CLM nu0 nu0 (ptr b1) (ptr b2) (.int .i64 (i:Nat)) h=ifV (.bool (!decide (k1=k2∧x1=x2∧n1=n2∧m1=m2∧a=a2))) (.ok (.bool false) h1) (F64.l4 Tryz.prog CLM nu0 nu0 (ptr b1) (ptr b2) (.int .i64 ((i+1:Nat):Int)) h1):=by
    rw[F64.l4_eq,t4 r1,ev,ln44,go_ok,xlss,go_ok,ifV_dec,if_pos (by omega),F64.j6_eq,fa46_4,Res.ok1_ok,c4 r1,Res.ok1_ok,ia,Res.ok1_ok,row.get46 hl5,Res.ok1_ok,fa46_4,Res.ok1_ok,c4 r2,Res.ok1_ok,ia2,Res.ok1_ok,row2.get46 hl52,Res.ok1_ok,e1,go_ok,xun_not,Res.ok1_ok,xadd,go_ok,wad (by omega)]
   rw[st,ifV_not]
   by_cases hd:k1=k2∧x1=x2∧n1=n2∧m1=m2∧a=a2
   ·obtain⟨h2,g2,e2'⟩:=ihr rest2 (k:=k) (n:=n) (m:=m) (x:=x) (k':=k') (n':=n') (m':=m') (x':=x') (i+1) (s.grow g1) (by rw[hdr]; exact qr.grow g1) (s'.grow g1) (by rw[hdr2]; exact qr2.grow g1) (by omega) hrr hr (r1.grow g1) (r2.grow g1) (by omega)
    refine⟨h2,g1.trans g2,?_⟩
    rw[if_pos hd,e2']
    refine ok_bool ?_
    rw[decide_eq_true_iff,decide_eq_true_iff]
    obtain⟨rfl,rfl,rfl,rfl,rfl⟩:=hd
    simp
   ·refine⟨h1,g1,?_⟩
    rw[if_neg hd]
    refine ok_bool ?_
    rw[decide_eq_true_iff]
    exact⟨fun w=>(by cases w),fun w=>(by cases w; exact absurd ⟨rfl,rfl,rfl,rfl,rfl⟩ hd)⟩
theorem eSameTerm {h:H} {t t':T1} {c c':List Value} (q:T1R h t c) (q':T1R h t' c') (few:t.bulk≤4000000):∃ h',Grow h h'∧CLM (.f 64) [.agg ⟨c⟩,.agg ⟨c'⟩] h = .ok (.bool (decide (t=t'))) h':=by
 obtain⟨va,ar,rfl,s,r⟩:=q
 obtain⟨va',ar',rfl,s',r'⟩:=q'
 obtain⟨h',g,e⟩:=same1 (k:=t.k) (n:=t.n) (m:=t.m) (x:=t.x) (k':=t'.k) (n':=t'.n) (m':=t'.m) (x':=t'.x) (sameL t.args) s r s' r' (by unfold T1.bulk at few; omega)
 refine⟨h',g,e.trans (ok_bool ?_)⟩
 rw[decide_eq_true_iff,decide_eq_true_iff]
 obtain⟨k,x,n,m,a⟩:=t
 obtain⟨k',x',n',m',a'⟩:=t'
 simp
theorem eSameS {h:H} {v v':Value} {ls ls':List (List UInt8)} (q:StrR h v ls) (q':StrR h v' ls') (few:ls.length≤9000000):CLM (.f 63) [v,v'] h = .ok (.bool (decide (ls=ls'))) h:=by
 rw[cM63,F63.eq,q.len,go_ok,q'.len,go_ok,xneq,go_ok,ifV_not]
 by_cases hl:ls.length=ls'.length
 ·have loop:∀ (d i:Nat),ls.length - i≤d→i≤ls.length→F63.l4 Tryz.prog CLM nu0 nu0 v v' (.int .i64 (i:Nat)) h = .ok (.bool (decide (ls.drop i=ls'.drop i))) h:=by
   intro d
   have fin:∀ i,i≤ls.length→¬ i<ls.length→F63.l4 Tryz.prog CLM nu0 nu0 v v' (.int .i64 (i:Nat)) h = .ok (.bool (decide (ls.drop i=ls'.drop i))) h:=by
    intro i hi hn
    rw[F63.l4_eq,q.len,go_ok,xlss,go_ok,ifV_dec,if_neg (by omega),F63.j8_eq,List.drop_of_length_le (by omega),List.drop_of_length_le (by omega)]; rfl
   induction d with
   |zero=>intro i hd hi; exact fin i hi (by omega)
   |succ d ih=>
    intro i hd hi
    by_cases hie:i<ls.length
    ·obtain⟨a,ia,ca⟩:=q.at_ (List.getElem?_eq_getElem hie)
     obtain⟨b,ib,cb⟩:=q'.at_ (List.getElem?_eq_getElem (show i<ls'.length by omega))
     rw[F63.l4_eq,q.len,go_ok,xlss,go_ok,ifV_dec,if_pos (by omega),F63.j6_eq,ia,Res.ok1_ok,ld9,ca,ofO_some,Res.ok1_ok,ib,Res.ok1_ok,ld9,cb,ofO_some,Res.ok1_ok,plain2_str,cond_true,xsneq,Res.ok1_ok,ifV_not,bl_mk,bl_mk,List.drop_eq_getElem_cons hie,List.drop_eq_getElem_cons (show i<ls'.length by omega)]
     by_cases he:ls[i]=ls'[i]
     ·rw[if_pos he,xadd,go_ok,wad (by omega),ih (i+1) (by omega) (by omega)]
      refine ok_bool ?_
      rw[decide_eq_true_iff,decide_eq_true_iff,he]
      exact⟨fun w=>by rw[w],fun w=>(List.cons.inj w).2⟩
     ·rw[if_neg he]
      refine ok_bool ?_
      rw[decide_eq_true_iff]
      exact⟨fun w=>(by cases w),fun w=>absurd (List.cons.inj w).1 he⟩
    ·exact fin i hi hie
  rw[if_pos (by omega),F63.j3_eq]
  have:=loop ls.length 0 (by omega) (Nat.zero_le _)
  rw[List.drop_zero,List.drop_zero] at this
  exact this
 ·rw[if_neg (by omega)]
  refine ok_bool ?_
  rw[decide_eq_true_iff]
  exact⟨fun w=>(by cases w),fun w=>absurd (by rw[w]) hl⟩
def LoopN (ts:Ts):Prop:=∀ {h:H} {va:Value} {rows:List (List Value)} {bb:Nat} {k n m:Int} {x:List UInt8} (i:Nat) (x1 x5:Int),Sl 5 h va rows→TsR h ts (rows.drop i)→i≤rows.length→Row h bb 0 (tc k x n m va)→rows.length≤7000000 →
  ∃ h' r,Grow h h'∧F58.l3 Tryz.prog CLM nu0 nu0 (.int .i64 x1) (ptr bb) (.int .i64 x5) (.int .i64 (i:Nat)) h = .ok (.int .i64 r) h'
theorem nodes1 {k n m:Int} {x:List UInt8} {a:Ts} (ih:LoopN a) {h:H} {va:Value} {ar:List (List Value)} (s:Sl 5 h va ar) (q:TsR h a ar) (few:a.len≤7000000) (most:Int) :
  ∃ h' r,Grow h h'∧CLM (.f 58) [.agg ⟨tc k x n m va⟩,.int .i64 most] h = .ok (.int .i64 r) h':=by
 obtain⟨eb,gb,r⟩:=box_row 46 (tc k x n m va) h
 obtain⟨h1,hh1⟩ : ∃ h1,h1=h.alloc (.cells (tc k x n m va) 46 0 false):=⟨_,rfl⟩
 rw[← hh1] at eb gb r
 have hrl:=q.len
 obtain⟨h2,z,g2,e2⟩:=ih (k:=k) (n:=n) (m:=m) (x:=x) 0 most 1 (s.grow gb) (q.grow gb) (Nat.zero_le _) r (by omega)
 refine⟨h2,z,gb.trans g2,?_⟩
 rw[cM58,F58.eq,eb,go_ok]
 exact e2
theorem nodesL:∀ ts:Ts,ts.bulk≤4000000→LoopN ts:=by
 intro ts
 induction ts with
 |nil=>
  intro fb h va rows bb k n m x i x1 x5 s q hi r few
  have:=congrArg List.length (show rows.drop i=[] from q)
  rw[List.length_drop,List.length_nil] at this
  obtain⟨aa,cap,ev⟩:=s.val
  refine⟨h,x5,Grow.refl h,?_⟩
  rw[F58.l3_eq,t4 r,ev,ln44,go_ok,xlss,go_ok,ifV_dec,if_neg (by omega),F58.j6_eq]
 |cons k1 x' n1 m1 a rest iha ihr=>
  intro fb h va rows bb k n m x i x1 x5 s q hi r few
  obtain⟨wa,ar,rr,e,sa,qa,qr⟩:=q
  obtain⟨hc,hdr,hlt⟩:=drop_cons e
  obtain⟨b0,o0',ia,row,hl5,ho5⟩:=s.term hc
  obtain⟨aa,cap,ev⟩:=s.val
  unfold Ts.bulk at fb
  have hal:=a.len_bulk
  rw[F58.l3_eq,t4 r,ev,ln44,go_ok,xlss,go_ok,ifV_dec,if_pos (by omega),xlss,go_ok,ifV_dec]
  by_cases hx:x5<x1
  ·obtain⟨h1,z,g1,e1⟩:=nodes1 (k:=k1) (n:=n1) (m:=m1) (x:=x') (iha (by omega)) sa qa (by omega) (IntKind.i64.wrap (x1 - x5))
   obtain⟨h2,z2,g2,e2⟩:=ihr (by omega) (k:=k) (n:=n) (m:=m) (x:=x) (i+1) x1 (IntKind.i64.wrap (x5+z)) (s.grow g1) (by rw[hdr]; exact qr.grow g1) (by omega) (r.grow g1) few
   refine⟨h2,z2,g1.trans g2,?_⟩
   rw[if_pos hx,F58.j5_eq,t4 r,ia,go_ok,row.get46 hl5,go_ok,xsub,go_ok,e1,go_ok,xadd,go_ok,xadd,go_ok,wad (by omega),e2]
  ·refine⟨h,x5,Grow.refl h,?_⟩
   rw[if_neg hx,F58.j6_eq]
theorem eNodes {h:H} {t:T1} {c:List Value} (q:T1R h t c) (few:t.bulk≤4000000) (most:Int):∃ h' r,Grow h h'∧CLM (.f 58) [.agg ⟨c⟩,.int .i64 most] h = .ok (.int .i64 r) h':=by
 obtain⟨va,ar,rfl,s,r⟩:=q
 have:=t.args.len_bulk
 exact nodes1 (nodesL t.args (by unfold T1.bulk at few; omega)) s r (by unfold T1.bulk at few; omega) most
end Go.Proofs.YtbfgadekkemlcaaGreatDoor.K
namespace Go.Proofs.YtbfgadekkemlcaaGreatDoor.K
open Go Go.Kx
theorem mapM_some {α β:Type} {f:α→Option β} {g:α→β}:∀ {l:List α},(∀ x∈l,f x=some (g x))→l.mapM f=some (l.map g)
 |[],_=>rfl
 |x::l,h=>by
  rw[List.mapM_cons,h x List.mem_cons_self,mapM_some (l:=l) fun y hy=>h y (List.mem_cons_of_mem _ hy)]
  rfl
theorem flat_range {β:Type} (g:UInt8→β):∀ l:List UInt8,((List.range l.length).map fun i=>[g (l.getD i 0)]).flatten=l.map g
 |[]=>rfl
 |c::l=>by
  have:=flat_range g l
  rw[List.length_cons,List.range_succ_eq_map,List.map_cons,List.map_map,List.flatten_cons,List.map_cons]
  exact congrArg (g c :: ·) this
def lit8 (c:UInt8):Lit:=.int .u8 (c.toNat:Int)
theorem eqLits8:∀ a b:List UInt8,a.length=b.length→eqLits (a.map lit8) (b.map lit8)=some (decide (a=b))
 |[],[],_=>rfl
 |[],_::_,h=>by simp at h
 |_::_,[],h=>by simp at h
 |x::a,y::b,h=>by
  have ih:=eqLits8 a b (by simpa using h)
  show (bif decide (IntKind.u8=IntKind.u8)&&decide ((x.toNat:Int)=(y.toNat:Int)) then eqLits (a.map lit8) (b.map lit8) else some false)=_
  rw[ih,decide_eq_true rfl,Bool.true_and]
  by_cases hxy:x=y
  ·subst hxy
   rw[decide_eq_true rfl,cond_true]
   congr 1
   exact decide_eq_decide.2 ⟨fun z=>by rw[z],fun z=>(List.cons.inj z).2⟩
  ·have:¬ ((x.toNat:Int)=(y.toNat:Int)):=fun z=>hxy (UInt8.toNat_inj.1 (by omega))
   rw[decide_eq_false this,cond_false]
   congr 1
   exact (decide_eq_false fun z=>hxy (List.cons.inj z).1).symm
theorem key_lits {k:List UInt8} (hk:k.length=32):Tryz.prog.keyLits 12 32 (byteVals k)=some (k.map lit8):=by
 have h5:∀ c:UInt8,Tryz.prog.keyLits 11 5 [.int .u8 (c.toNat:Int)]=some [lit8 c]:=by
  intro c
  unfold Program.keyLits
  rw[Tryz.underlying5]
  have hc:=c.toNat_lt
  have:(Lit.int .u8 (c.toNat:Int)).wf=true:=by
   simp only[Lit.wf,IntKind.min,IntKind.max,IntKind.bits,IntKind.signed]
   simp; omega
  simp[this,lit8]
 have z5:Tryz.prog.cellsOf 5=1:=co5
 have z32:Tryz.prog.cellsOf 32=32:=by kernel_rfl
 unfold Program.keyLits
 rw[Tryz.underlying32]
 simp only[z32,bv_len,hk,if_true,z5]
 rw[mapM_some (g:=fun i=>[lit8 (k.getD i 0)]) fun i hi=>?_]
 ·rw[Option.map_some,← hk,flat_range]
 ·have hi:=List.mem_range.1 hi
  have e:((byteVals k).drop (i*1)).take 1=[.int .u8 ((k.getD i 0).toNat:Int)]:=by
   rw[Nat.mul_one,List.drop_eq_getElem_cons (by rw[bv_len]; omega),List.take_succ_cons,List.take_zero]
   have:=bv_at (l:=k) (i:=i) (by omega)
   rw[List.getElem?_eq_getElem (by rw[bv_len]; omega)] at this
   rw[Option.some.inj this]
  rw[e]
  exact h5 _
theorem aggKey {a b:List UInt8} (ha:a.length=32) (hb:b.length=32):aggEq Tryz.prog 32 (.agg ⟨byteVals a⟩) (.agg ⟨byteVals b⟩)=some (decide (a=b)):=by
 have hf:∀ {k:List UInt8},k.length=32→(Value.agg ⟨byteVals k⟩).formed Tryz.prog 32=true:=by
  intro k hk
  unfold Value.formed
  rw[Tryz.underlying32]
  simp[bv_len,hk,show Tryz.prog.cellsOf 32=32 by kernel_rfl]
 unfold aggEq
 rw[hf ha,hf hb,show Tryz.prog.keyTypeAt 12 32=true by kernel_rfl]
 show (match Tryz.prog.keyLits 12 32 (byteVals a),Tryz.prog.keyLits 12 32 (byteVals b) with|some l,some m=>eqLits l m|_,_=>none)=_
 rw[key_lits ha,key_lits hb]
 exact eqLits8 a b (by omega)
theorem flatB:∀ l:List UInt8,flatL (byteVals l)=true
 |[]=>rfl
 |c::l=>by
  show (true&&flatL (byteVals l))=true
  rw[flatB l]; rfl
theorem egKey:Tryz.prog.eqGuardType Tryz.prog.depth 32=false:=by kernel_rfl
theorem keqK {a b:List UInt8} (ha:a.length=32) (hb:b.length=32) (h:H):xbin Tryz.prog .eql 32 (.agg ⟨byteVals a⟩) (.agg ⟨byteVals b⟩) h = .ok (.bool (decide (a=b))) h:=by
 unfold xbin
 simp only[flat,flatB,Bool.and_self,cond_true,egKey,cond_false,aggKey ha hb]
theorem kneK {a b:List UInt8} (ha:a.length=32) (hb:b.length=32) (h:H):xbin Tryz.prog .neq 32 (.agg ⟨byteVals a⟩) (.agg ⟨byteVals b⟩) h = .ok (.bool (!decide (a=b))) h:=by
 unfold xbin
 simp only[flat,flatB,Bool.and_self,cond_true,egKey,cond_false,aggKey ha hb]
theorem plain2K (a b:List UInt8):plain2 (.agg ⟨byteVals a⟩) (.agg ⟨byteVals b⟩)=true:=by
 show (flatL (byteVals a)&&flatL (byteVals b))=true
 rw[flatB,flatB]; rfl
def km1:List UInt8:=201::1::List.replicate 30 0
def km2:List UInt8:=202::2::List.replicate 30 0
theorem km1_len:km1.length=32:=rfl
theorem km2_len:km2.length=32:=rfl
theorem bdK1 (h:H):xbuild Tryz.prog 32 [(0,.int .u8 201),(1,.int .u8 1)] h = .ok (.agg ⟨byteVals km1⟩) h:=by kernel_rfl
theorem bdK2 (h:H):xbuild Tryz.prog 32 [(0,.int .u8 202),(1,.int .u8 2)] h = .ok (.agg ⟨byteVals km2⟩) h:=by kernel_rfl
def KeysM (h:H) (v:Value) (ks:List (List UInt8)):Prop:=(∃ tl,SlX 32 h v (ks.map byteVals) (byteVals km1::byteVals km2::tl))∧∀ k∈ks,k.length=32
theorem KeysM.grow {h h':H} (g:Grow h h') {v:Value} {ks:List (List UInt8)} (q:KeysM h v ks):KeysM h' v ks:=by
 obtain⟨⟨tl,s⟩,k⟩:=q
 exact⟨⟨tl,s.grow g⟩,k⟩
theorem KeysM.keys {h:H} {v:Value} {ks:List (List UInt8)} (q:KeysM h v ks):KeysR h v ks:=by
 obtain⟨⟨tl,s⟩,k⟩:=q
 exact⟨s.sl,k⟩
theorem appNil {t e E:Nat} (T:LsT Tryz.prog t e E) {h:H} {v:Value} {rows:List (List Value)} (s:Sl E h v rows) (few:rows.length≤8000000) :
  ∃ w bw h',MkL e E h h' w bw rows∧xbuiltin Tryz.prog .append [t,t] [.slice none 0 0,v] h = .ok w h':=by
 by_cases h0:rows.length=0
 ·have:rows=[]:=List.length_eq_zero_iff.1 h0
  subst this
  refine⟨_,_,h,MkL.start e E h,?_⟩
  have hl:lenV v=some 0:=by obtain⟨a,cap,rfl⟩:=s.val; rfl
  show xappend Tryz.prog t t _ v h=_
  unfold xappend appendC
  simp only[T.el,T.sz,T.iss,hl,firstD_0 hl,cond_true,Nat.add_zero,Nat.ble_eq_true_of_le (Nat.le_refl 0),beqT rfl]
 ·have hl:lenV v=some rows.length:=by obtain⟨a,cap,rfl⟩:=s.val; rfl
  have hf:firstC h (Tryz.prog.cellsOf e) rows.length v=some rows.flatten:=by
   rcases s.2 with ⟨_,e0⟩|⟨b,o,sp,cap,rfl,row⟩
   ·rw[e0] at h0; exact absurd rfl h0
   ·show h.row ⟨b,o,none⟩ (rows.length*Tryz.prog.cellsOf e)=_
    rw[T.ce]; exact row.row (flat_len s.1)
  obtain⟨w,bw,h',e',u,l',nb⟩:=lst_appN T (Lst.nil (e:=e) (E:=E) (h:=h)) GoodR.nil (k:=rows.length) (x:=v) (rows2:=rows) (by simp; omega) hl hf rfl s.1
  have gr:Grow h h':=(Grow.refl h).own u fun x z=>by cases z
  refine⟨w,bw,h',⟨gr,l',fun b hb=>?_,s.1⟩,e'⟩
  rcases nb with y|⟨c,y,y'⟩
  ·rw[y] at hb; cases hb
  ·rw[y] at hb; cases hb; exact y'
def Wr0 (h:H) (v:Value):Prop:=∀ b o sp n c,v = .slice (some ⟨b,o,sp⟩) n c→∃ l el op,h.get b=some (.cells l el 0 op)
theorem Wr0.upd {S:Nat→Prop} {h h':H} (u:Upd S h h') {v:Value} (q:Wr0 h v) (hS:∀ b o sp n c,v = .slice (some ⟨b,o,sp⟩) n c→¬ S b):Wr0 h' v:=fun b o sp n c e=>by
 obtain⟨l,el,op,hg⟩:=q b o sp n c e
 exact⟨l,el,op,u.old _ _ (hS b o sp n c e) hg⟩
theorem Wr0.grow {h h':H} (g:Grow h h') {v:Value} (q:Wr0 h v):Wr0 h' v:=q.upd (g.upd fun _=>False) fun _ _ _ _ _ _=>id
theorem Wr0.cut {h:H} {v v':Value} (q:Wr0 h v) (hv:∀ b o sp n c,v' = .slice (some ⟨b,o,sp⟩) n c→∃ o' sp' n' c',v = .slice (some ⟨b,o',sp'⟩) n' c'):Wr0 h v':=fun b o sp n c e=>by
 obtain⟨o',sp',n',c',e'⟩:=hv b o sp n c e
 exact q _ _ _ _ _ e'
theorem lst_wr0 {e E:Nat} {h:H} {v:Value} {br:Option Nat} {rows:List (List Value)} (q:Lst e E h v br rows):Wr0 h v:=fun b o sp n c z=>by
 rcases q with ⟨_,rfl,_⟩|⟨b',s,cap,_,rfl,hg,_⟩
 ·cases z
 ·cases z; exact⟨_,_,_,hg⟩
theorem eKlaid {h:H} {v:Value} {ks:List (List UInt8)} (q:KeysR h v ks) (few:ks.length≤1000000) :
  ∃ h' v',Grow h h'∧KeysM h' v' ks∧CLM (.f 24) [v] h = .ok v' h'∧Wr0 h' v'∧InB (Btw h h') v':=by
 have hml:(ks.map byteVals).length=ks.length:=List.length_map ..
 obtain⟨w,bw,h1,m1,e1⟩:=appNil LKe q.1 (by omega)
 obtain⟨w2,bw2,h2,m2,u2,o2,e2⟩:=m1.app LKe (rows2:=[byteVals km1,byteVals km2]) (n:=2) (es:=[(0,.agg ⟨byteVals km1⟩),(1,.agg ⟨byteVals km2⟩)]) (by rw[hml]; simp; omega) (fun r hr=>by
  rcases List.mem_cons.1 hr with rfl|hr
  ·exact⟨rfl,rfl⟩
  ·rw[List.mem_singleton.1 hr]; exact⟨rfl,rfl⟩) (by kernel_rfl)
 obtain⟨tl,sx⟩:=m2.slx LKe
 obtain⟨w3,e3,s3,hw3⟩:=sx.cut un26 sz32 co32 (lo:=none) (hi:=some (.int .i64 (ks.length:Nat))) (i:=0) (j:=ks.length) rfl rfl (Nat.zero_le _) (by rw[List.length_append,hml]; omega)
 have c1:(((ks.map byteVals++[byteVals km1,byteVals km2])++tl).take ks.length).drop 0=ks.map byteVals:=by rw[List.drop_zero,List.append_assoc,List.take_left' hml]
 have c2:((ks.map byteVals++[byteVals km1,byteVals km2])++tl).drop ks.length=byteVals km1::byteVals km2::tl:=by rw[List.append_assoc,List.drop_left' hml]; rfl
 rw[c1,c2] at s3
 refine⟨h2,w3,m2.g,⟨⟨tl,s3⟩,q.2⟩,?_,(lst_wr0 m2.l).cut hw3,fun b o sp n c z=>by
  obtain⟨o',sp',n',c',z'⟩:=hw3 b o sp n c z
  have:=m2.inb _ _ _ _ _ z'
  exact⟨m2.own b this.1,this.2⟩⟩
 rw[cM24,F24.eq,e1,go_ok,bdK1,go_ok,bdK2,go_ok]
 refine (e2 _).trans ?_
 rw[q.len,go_ok,e3,go_ok]
theorem KeysR.ld {h:H} {v:Value} {ks:List (List UInt8)} (q:KeysR h v ks) {i:Nat} {k:List UInt8} (hk:ks[i]? = some k):∃ a,(∀ h',xindexAddr Tryz.prog 26 v (.int .i64 (i:Nat)) h' = .ok (.pointer (some a)) h')∧xload Tryz.prog 32 (.pointer (some a)) h = .ok (.agg ⟨byteVals k⟩) h:=by
 obtain⟨b,o,ia,row,hl⟩:=q.at_ hk
 exact⟨_,ia,by rw[ld32,row.row (by rw[bv_len,hl]),ofA_some]⟩
theorem intactL {h:H} {v w:Value} {ks:List (List UInt8)} (q:KeysR h v ks) (r:KeysR h w ks) (few:ks.length≤1000000):∀ (d i:Nat),ks.length - i≤d→i≤ks.length→F28.l5 Tryz.prog CLM nu0 nu0 v w (.int .i64 (i:Nat)) h = .ok (.bool true) h:=by
 intro d
 have fin:∀ i,i≤ks.length→¬ i<ks.length→F28.l5 Tryz.prog CLM nu0 nu0 v w (.int .i64 (i:Nat)) h = .ok (.bool true) h:=by
  intro i hi hn
  rw[F28.l5_eq,q.len,go_ok,xlss,go_ok,ifV_dec,if_neg (by omega),F28.j9_eq]
 induction d with
 |zero=>intro i hd hi; exact fin i hi (by omega)
 |succ d ih=>
  intro i hd hi
  by_cases hie:i<ks.length
  ·have hk:=q.2 _ (List.getElem_mem hie)
   obtain⟨a,ia,la⟩:=q.ld (List.getElem?_eq_getElem hie)
   obtain⟨b,ib,lb⟩:=r.ld (List.getElem?_eq_getElem hie)
   rw[F28.l5_eq,q.len,go_ok,xlss,go_ok,ifV_dec,if_pos (by omega),F28.j7_eq,ia,Res.ok1_ok,la,Res.ok1_ok,ib,Res.ok1_ok,lb,Res.ok1_ok,plain2K,cond_true,kneK hk hk,Res.ok1_ok,ifV_not,if_pos rfl,xadd,go_ok,wad (by omega),ih (i+1) (by omega) (by omega)]
  ·exact fin i hi hie
theorem eIntact {h:H} {v w:Value} {ks:List (List UInt8)} (q:KeysM h v ks) (r:KeysR h w ks) (few:ks.length≤1000000):CLM (.f 28) [v,w] h = .ok (.bool true) h:=by
 have qk:=q.keys
 obtain⟨⟨tl,s⟩,hk⟩:=q
 have hml:(ks.map byteVals).length=ks.length:=List.length_map ..
 obtain⟨v2,e2,s2,_⟩:=s.cut un26 sz32 co32 (lo:=none) (hi:=some (.int .i64 ((ks.length+2:Nat):Int))) (i:=0) (j:=ks.length+2) rfl rfl (Nat.zero_le _) (by rw[hml]; simp only[List.length_cons]; omega)
 have c1:((ks.map byteVals++byteVals km1::byteVals km2::tl).take (ks.length+2)).drop 0=ks.map byteVals++[byteVals km1,byteVals km2]:=by
  rw[List.drop_zero,show ks.map byteVals++byteVals km1::byteVals km2::tl=(ks.map byteVals++[byteVals km1,byteVals km2])++tl by simp,List.take_left' (by simp)]
 rw[c1] at s2
 have hl2:(ks.map byteVals++[byteVals km1,byteVals km2]).length=ks.length+2:=by simp
 obtain⟨v3,e3,s3,_⟩:=s2.cut un26 sz32 co32 (lo:=some (.int .i64 (ks.length:Nat))) (hi:=none) (i:=ks.length) (j:=ks.length+2) rfl (by rw[hl2]; rfl) (by omega) (by rw[hl2]; omega)
 have c3:(((ks.map byteVals++[byteVals km1,byteVals km2])++((ks.map byteVals++byteVals km1::byteVals km2::tl).drop (ks.length+2))).take (ks.length+2)).drop ks.length=[byteVals km1,byteVals km2]:=by
  rw[List.take_left' hl2,List.drop_left' hml]
 rw[c3] at s3
 have qm:KeysR h v3 [km1,km2]:=⟨s3.sl,fun k hk=>by
  rcases List.mem_cons.1 hk with rfl|hk
  ·rfl
  ·rw[List.mem_singleton.1 hk]; rfl⟩
 obtain⟨a,ia,la⟩:=qm.ld (i:=0) rfl
 obtain⟨b,ib,lb⟩:=qm.ld (i:=1) rfl
 rw[show ((0:Nat):Int)=0 from rfl] at ia
 rw[show ((1:Nat):Int)=1 from rfl] at ib
 rw[cM28,F28.eq,qk.len,go_ok,xadd,go_ok,show IntKind.i64.wrap ((ks.length:Int)+2)=((ks.length+2:Nat):Int) by rw[wrap64 (by omega)]; omega,e2,go_ok,qk.len,go_ok,e3,go_ok,qk.len,go_ok,r.len,go_ok,xneq,go_ok,ifV_not,if_pos rfl,ia,go_ok,la,go_ok,bdK1,go_ok,kneK km1_len km1_len,go_ok,ifV_not,if_pos rfl,ib,go_ok,lb,go_ok,bdK2,go_ok,kneK km2_len km2_len,go_ok,ifV_not,if_pos rfl,F28.j4_eq]
 exact intactL qk r few ks.length 0 (by omega) (Nat.zero_le _)
theorem cut0 {t e E:Nat} (hu:Tryz.prog.underlying t=some (.slice e)) (hz:szOk Tryz.prog e=true) (hce:Tryz.prog.cellsOf e=E) {h:H} {b o cap:Nat} {rows:List (List Value)} (s:Sl E h (.slice (some ⟨b,o,some 0⟩) rows.length cap) rows) {j:Nat} (hj:j≤rows.length) (hjc:rows.length≤cap) (h0:0<cap) :
  ∃ v',xslice Tryz.prog t (.slice (some ⟨b,o,some 0⟩) rows.length cap) none (some (.int .i64 (j:Nat))) none h = .ok v' h∧Sl E h v' (rows.take j):=by
 refine⟨.slice (some ⟨b,o,some 0⟩) j cap,?_,?_⟩
 ·unfold xslice
  have a2:asNat? (some (.int .i64 (j:Nat))) rows.length=some j:=rfl
  simp only[hu,a2,show asNat? none 0=some 0 from rfl,show asNat? none cap=some cap from rfl,Nat.ble_eq_true_of_le (Nat.zero_le j),Nat.ble_eq_true_of_le (show j≤cap by omega),Nat.ble_eq_true_of_le (Nat.le_refl cap),hz,Bool.and_self,cond_true,cutAt,beqF (show ¬ cap=0 by omega),cond_false,Nat.zero_mul,Nat.add_zero,Nat.sub_zero]
 ·refine⟨s.1.take j,.inr ⟨b,o,some 0,cap,by rw[List.length_take,Nat.min_eq_left hj],?_⟩⟩
  rcases s.2 with ⟨z,_⟩|⟨b',o',sp',cap',e',row⟩
  ·rcases z with z|⟨_,_,_,z⟩<;>cases z
  ·cases e'
   have hft:=flat_take s.1 (m:=j) hj []
   rw[List.append_nil] at hft
   have hl:=flat_len s.1
   have hm:=Nat.mul_le_mul_right E hj
   have:=row.sub (k:=0) (m:=j*E) (by omega)
   rwa [Nat.add_zero,List.drop_zero,hft] at this
end Go.Proofs.YtbfgadekkemlcaaGreatDoor.K
namespace Go.Proofs.YtbfgadekkemlcaaGreatDoor.K
open Go Go.Kx
abbrev im1:List Value:=[.string ⟨⟨[47,47,49]⟩⟩]
abbrev im2:List Value:=[.string ⟨⟨[47,47,50]⟩⟩]
abbrev om1:List Value:=.string ⟨⟨[47,47,51]⟩⟩::tc 0 [] 0 0 (.slice none 0 0)
abbrev om2:List Value:=.string ⟨⟨[47,47,52]⟩⟩::tc 0 [] 0 0 (.slice none 0 0)
def OutsK (A:Nat→Prop) (h:H):List (List UInt8 × T1)→List (List Value)→Prop
 |[],rows=>rows=[]
 |o::r,rows=>∃ c rr,rows=(.string ⟨⟨o.1⟩⟩::c)::rr∧T1K A h o.2 c∧OutsK A h r rr
theorem OutsK.outsR {A:Nat→Prop} {h:H}:∀ {os:List (List UInt8 × T1)} {rows:List (List Value)},OutsK A h os rows→OutsR h os rows
 |[],_,q=>q
 |o::r,rows,⟨c,rr,e,t,q⟩=>⟨c,rr,e,t.t1R,q.outsR⟩
theorem OutsK.upd {S A:Nat→Prop} {h h':H} (u:Upd S h h') (hS:∀ b,A b→¬ S b):∀ {os:List (List UInt8 × T1)} {rows:List (List Value)},OutsK A h os rows→OutsK A h' os rows
 |[],_,q=>q
 |o::r,rows,⟨c,rr,e,t,q⟩=>⟨c,rr,e,t.upd u hS,q.upd u hS⟩
theorem OutsK.grow {A:Nat→Prop} {h h':H} (g:Grow h h') {os:List (List UInt8 × T1)} {rows:List (List Value)} (q:OutsK A h os rows):OutsK A h' os rows:=q.upd (g.upd fun _=>False) (fun _ _=>id)
theorem OutsK.mono {A B:Nat→Prop} {h:H} (hA:∀ b,A b→B b):∀ {os:List (List UInt8 × T1)} {rows:List (List Value)},OutsK A h os rows→OutsK B h os rows
 |[],_,q=>q
 |o::r,rows,⟨c,rr,e,t,q⟩=>⟨c,rr,e,t.mono hA,q.mono hA⟩
theorem OutsK.len {A:Nat→Prop} {h:H} {os:List (List UInt8 × T1)} {rows:List (List Value)} (q:OutsK A h os rows):rows.length=os.length:=q.outsR.len
def NB (v:Value) (b:Nat):Prop:=∀ o sp n c,v ≠ .slice (some ⟨b,o,sp⟩) n c
structure TaskK (A:Nat→Prop) (h:H) (t:TK) (vi vo:Value):Prop where
 ins:∃ tl,SlX 1 h vi (sr t.ins) (im1::im2::tl)
 outs:∃ rows tl,SlX 6 h vo rows (om1::om2::tl)∧OutsK (fun b=>A b∧NB vi b∧NB vo b) h t.outs rows
 ii:InB A vi
 io:InB A vo
 sep:∀ b o sp n c,vi = .slice (some ⟨b,o,sp⟩) n c→NB vo b
 wi:Wr0 h vi
 wo:Wr0 h vo
theorem TaskK.upd {S A:Nat→Prop} {h h':H} (u:Upd S h h') (hS:∀ b,A b→¬ S b) {t:TK} {vi vo:Value} (q:TaskK A h t vi vo):TaskK A h' t vi vo:=by
 obtain⟨⟨tl,a⟩,⟨rows,tl2,b,c⟩,d,e,f,wi,wo⟩:=q
 exact⟨⟨tl,a.upd u fun b o sp n c z=>hS b (d b o sp n c z)⟩,⟨rows,tl2,b.upd u fun b o sp n c z=>hS b (e b o sp n c z),c.upd u fun b hb=>hS b hb.1⟩,d,e,f,wi.upd u (fun b o sp n c z=>hS b (d b o sp n c z)),wo.upd u (fun b o sp n c z=>hS b (e b o sp n c z))⟩
theorem TaskK.grow {A:Nat→Prop} {h h':H} (g:Grow h h') {t:TK} {vi vo:Value} (q:TaskK A h t vi vo):TaskK A h' t vi vo:=q.upd (g.upd fun _=>False) (fun _ _=>id)
theorem TaskK.mono {A B:Nat→Prop} {h:H} (hA:∀ b,A b→B b) {t:TK} {vi vo:Value} (q:TaskK A h t vi vo):TaskK B h t vi vo:=by
 obtain⟨a,⟨rows,tl2,b,c⟩,d,e,f,wi,wo⟩:=q
 exact⟨a,⟨rows,tl2,b,c.mono fun b hb=>⟨hA b hb.1,hb.2⟩⟩,fun b o sp n c z=>hA b (d b o sp n c z),fun b o sp n c z=>hA b (e b o sp n c z),f,wi,wo⟩
theorem TaskK.taskR {A:Nat→Prop} {h:H} {t:TK} {vi vo:Value} (q:TaskK A h t vi vo):TaskR h t vi vo:=by
 obtain⟨⟨tl,a⟩,⟨rows,tl2,b,c⟩,d,e,f,wi,wo⟩:=q
 refine⟨⟨_,a⟩,⟨rows,b.sl,c.outsR⟩,?_,?_⟩
 ·obtain⟨x,y,rfl⟩:=a.sl.val; rfl
 ·obtain⟨x,y,rfl⟩:=b.sl.val; rfl
structure RawT (h:H) (t:TK) (vi vo:Value):Prop where
 ins:StrR h vi t.ins
 outs:∃ rows,Sl 6 h vo rows∧OutsR h t.outs rows
 vt:t.outs≠[]→∀ h',rc (.ok vo h') (some vo)=true
theorem RawT.grow {h h':H} (g:Grow h h') {t:TK} {vi vo:Value} (q:RawT h t vi vo):RawT h' t vi vo:=by
 obtain⟨a,⟨rows,b,c⟩,d⟩:=q
 exact⟨a.grow g,⟨rows,b.grow g,c.grow g⟩,d⟩
theorem RawT.ones {h:H} {t:TK} {vi vo:Value} (q:RawT h t vi vo):ones (kc t vi vo)=true:=by
 obtain⟨a,⟨rows,s,c⟩,_⟩:=q
 obtain⟨b1,c1,rfl⟩:=Sl.val a
 obtain⟨b2,c2,rfl⟩:=s.val
 rfl
theorem rc_told {h:H} {E:Nat} {v:Value} {rows tl:List (List Value)} (s:SlX E h v rows tl) (h0:rows≠[]∨tl≠[]) (h':H):rc (.ok v h') (some v)=true:=by
 rcases s.2 with ⟨_,e1,e2⟩|⟨b,o,sp,rfl,_,ok⟩
 ·rcases h0 with z|z
  ·exact absurd e1 z
  ·exact absurd e2 z
 ·rcases ok with rfl|⟨rfl,_⟩
  ·simp[rc,veq]
  ·simp[rc,veq]
theorem TaskK.raw {A:Nat→Prop} {h:H} {t:TK} {vi vo:Value} (q:TaskK A h t vi vo):RawT h t vi vo:=by
 have q':=q.taskR
 obtain⟨⟨tl,a⟩,⟨rows,tl2,b,c⟩,d,e,f,wi,wo⟩:=q
 exact⟨a.sl,q'.outs,fun _ h'=>rc_told b (.inr (by simp)) h'⟩
theorem copyOuts {h0:H} {vo:Value} {rows:List (List Value)} (s:Sl 6 h0 vo rows) (vt:rows≠[]→∀ h',rc (.ok vo h') (some vo)=true) (fr:rows.length≤4000000) {bb:Nat} {nm:Value} {bu:Value} {vi:Value} (x2:Value):∀ (os:List (List UInt8 × T1)) (i:Nat) {h:H} {w:Value} {bw:Option Nat} {acc:List (List Value)},OutsR h0 os (rows.drop i)→i≤rows.length→MkL 48 6 h0 h w bw acc→Row h bb 0 [nm,bu,vi,vo]→bw≠some bb→acc.length+os.length≤7000000→outsB os≤4000000 →
  ∃ h' w' bw' new,MkL 48 6 h0 h' w' bw' (acc++new)∧OutsK (fun b=>Btw h h' b∧bw'≠some b) h' os new∧Upd (Own h bw) h h'∧(∀ b,bw'=some b→Own h bw b)∧F25.l6 Tryz.prog CLM nu0 nu0 (ptr bb) x2 w (.int .i64 (i:Nat)) h=F25.j9 Tryz.prog CLM nu0 nu0 (ptr bb) x2 w' h':=by
 intro os
 have f3:∀ {h:H},Row h bb 0 [nm,bu,vi,vo]→xload Tryz.prog 23 (.pointer (some ⟨bb,0+3,none⟩)) h = .ok vo h:=fun r=>by rw[ld23,r.cell (j:=3) rfl,ofO_some]
 induction os with
 |nil=>
  intro i h w bw acc q hi mk r nb hl few
  have:=congrArg List.length (show rows.drop i=[] from q)
  rw[List.length_drop,List.length_nil] at this
  refine⟨h,w,bw,[],by rw[List.append_nil]; exact mk,rfl,Upd.refl _ _,fun b hb=>.inl hb.symm,?_⟩
  rw[F25.l6_eq,fa25_3,go_ok,f3 r,go_ok,(s.grow mk.g).outsLen,go_ok,xlss,go_ok,ifV_dec,if_neg (by omega)]
 |cons x os ih=>
  intro i h w bw acc q hi mk r nb hl few
  obtain⟨c,rr,e,t,qr⟩:=q
  obtain⟨hc,hdr,hlt⟩:=drop_cons e
  obtain⟨b,o,ia,row,hl6,ho6⟩:=s.out hc
  unfold outsB at few
  rw[List.length_cons] at hl
  have row:=row.grow mk.g
  obtain⟨h1,c',g1,k1,e1⟩:=eCopyTerm (t.grow mk.g) (by omega)
  have k1':=k1
  obtain⟨vc,cr,tl,ec,sc,ic,kc'⟩:=k1'
  obtain⟨ac,capc,evc⟩:=sc.sl.val
  have oc:ones (.string ⟨⟨x.1⟩⟩::c')=true:=by rw[ec,evc]; rfl
  have bd:∀ h',xbuild Tryz.prog 48 [(0,.string ⟨⟨x.1⟩⟩),(1,.agg ⟨c'⟩)] h' = .ok (.agg ⟨.string ⟨⟨x.1⟩⟩::c'⟩) h':=fun h'=>by rw[ec,evc]; kernel_rfl
  obtain⟨w2,bw2,h2,mk2',u2,o2,e2⟩:=(mk.more g1).app LOu (rows2:=[.string ⟨⟨x.1⟩⟩::c']) (n:=1) (es:=[(0,.agg ⟨.string ⟨⟨x.1⟩⟩::c'⟩)]) (by rw[List.length_singleton]; omega) (GoodR.one (by rw[ec]; rfl) oc) (by rw[ec,evc]; kernel_rfl)
  have r1:=r.grow g1
  have hbl:=r.lt
  have r2:=r1.upd u2 (fun z=>z.elim (fun y=>nb y.symm) (fun y=>by have:=g1.next; omega))
  have nb2:bw2≠some bb:=fun z=>(o2 bb z).elim (fun y=>nb y.symm) (fun y=>by have:=g1.next; omega)
  have nA:∀ b,Btw h h1 b→¬ Own h1 bw b:=fun b hb z=>z.elim (fun y=>by have:=mk.lt b y.symm; have:=hb.1; omega) (fun y=>by have:=hb.2; omega)
  have nA2:∀ b,Btw h h1 b→¬ Own h2 bw2 b:=fun b hb z=>z.elim (fun y=>nA b hb (o2 b y.symm)) (fun y=>by have:=hb.2; have:=u2.next; omega)
  obtain⟨h3,w3,bw3,new,mk3,tk3,u3,o3,e3⟩:=ih (i+1) (by rw[hdr]; exact qr) (by omega) mk2' r2 nb2 (by rw[List.length_append,List.length_singleton]; omega) (by omega)
  have k3:=(k1.upd u2 nA).upd u3 nA2
  have up:Upd (Own h bw) h h3:=by
   refine (g1.upd _).trans ((u2.mono fun y _ z=>?_).trans (u3.mono fun y _ z=>?_))
   ·exact z.elim .inl fun w=>.inr (Nat.le_trans g1.next w)
   ·exact z.elim (fun w=>(o2 y w.symm).elim .inl fun w=>.inr (Nat.le_trans g1.next w)) (fun w=>.inr (Nat.le_trans g1.next (Nat.le_trans u2.next w)))
  have own3:∀ b,bw3=some b→Own h bw b:=fun b hb=>(o3 b hb).elim (fun w=>(o2 b w.symm).elim .inl fun w=>.inr (Nat.le_trans g1.next w)) (fun w=>.inr (Nat.le_trans g1.next (Nat.le_trans u2.next w)))
  have key:∀ b,Btw h h1 b→Btw h h3 b∧bw3≠some b:=fun b hb=>⟨⟨hb.1,by have:=hb.2; have:=u2.next; have:=u3.next; omega⟩,fun z=>nA2 b hb (o3 b z)⟩
  refine⟨h3,w3,bw3,(.string ⟨⟨x.1⟩⟩::c')::new,by rw[List.append_assoc] at mk3; exact mk3,⟨c',new,rfl,k3.mono key,tk3.mono fun b hb=>⟨⟨by have:=hb.1.1; have:=g1.next; have:=u2.next; omega,hb.1.2⟩,hb.2⟩⟩,up,own3,?_⟩
  have hsub:xload Tryz.prog 46 (.pointer (some ⟨b,o+1,none⟩)) h = .ok (.agg ⟨c⟩) h:=by
   have:=row.sub (k:=1) (m:=5) (by rw[hl6]; omega)
   rw[show (Value.string ⟨⟨x.1⟩⟩::c).drop 1=c from rfl,List.take_of_length_le (by rw[t.len]; omega)] at this
   exact this.get46 t.len
  have vt':=vt (by rintro rfl; simp at hlt)
  rw[F25.l6_eq,fa25_3,go_ok,f3 r,go_ok,(s.grow mk.g).outsLen,go_ok,xlss,go_ok,ifV_dec,if_pos (by omega),F25.j8_eq,fa25_3,Res.ok1_ok,f3 r,Res.ok1_ok,ia,Res.ok1_ok,fa48_0,Res.ok1_ok,po0 row,Res.ok1_ok,fa25_3,Res.ok1_ok,f3 r,Res.ok1_ok,ia,Res.ok1_ok,fa48_1,Res.ok1_ok,hsub,Res.ok1_ok,e1,go_ok,f3 r1,vt',po0 (row.grow g1),rc_str,Bool.and_self,Bool.and_self,cond_true,bd,Res.ok1_ok]
  refine (e2 _).trans ?_
  rw[xadd,go_ok,wad (by omega),e3]
theorem eCopyTask {h:H} {t:TK} {vi vo:Value} (q:RawT h t vi vo) (few:t.bulk≤4000000):∃ h' vi' vo',Grow h h'∧TaskK (Btw h h') h' t vi' vo'∧CLM (.f 25) [.agg ⟨kc t vi vo⟩] h = .ok (.agg ⟨kc t vi' vo'⟩) h':=by
 obtain⟨eb,gb,r⟩:=box_row 25 (kc t vi vo) h
 obtain⟨h1,hh1⟩ : ∃ h1,h1=h.alloc (.cells (kc t vi vo) 25 0 false):=⟨_,rfl⟩
 obtain⟨bb,hbb⟩ : ∃ bb,bb=h.next:=⟨_,rfl⟩
 have hg1:h1.get bb=some (.cells (kc t vi vo) 25 0 false):=by rw[hh1,hbb]; exact H.alloc_self _ _
 rw[← hh1] at eb gb r
 rw[← hbb] at eb r
 have hn1:h1.next=h.next+1:=by rw[hh1]; rfl
 obtain⟨h2,hh2⟩ : ∃ h2,h2=h1.alloc (.cells zc25 25 0 false):=⟨_,rfl⟩
 obtain⟨rc,hrc⟩ : ∃ rc,rc=h1.next:=⟨_,rfl⟩
 have g2:Grow h1 h2:=by rw[hh2]; exact (Grow.refl h1).alloc _
 have hg2:h2.get rc=some (.cells zc25 25 0 false):=by rw[hh2,hrc]; exact H.alloc_self _ _
 have hn2:h2.next=h1.next+1:=by rw[hh2]; rfl
 have r2:=r.grow g2
 have g12:=gb.trans g2
 have q2:=q.grow g12
 unfold TK.bulk at few
 have li:=insB_len t.ins
 have lo:=outsB_len t.outs
 have hsl:=sr_len t.ins
 obtain⟨w3,bw3,h3,m3,e3⟩:=appNil LSt (v:=vi) (rows:=sr t.ins) q2.ins (by omega)
 obtain⟨w4,bw4,h4,m4,u4,o4,e4⟩:=m3.app LSt (rows2:=[im1,im2]) (n:=2) (es:=[(0,.string ⟨⟨[47,47,49]⟩⟩),(1,.string ⟨⟨[47,47,50]⟩⟩)]) (by simp; omega) (fun r hr=>by
  rcases List.mem_cons.1 hr with rfl|hr
  ·exact⟨rfl,rfl⟩
  ·rw[List.mem_singleton.1 hr]; exact⟨rfl,rfl⟩) (by kernel_rfl)
 obtain⟨tl,sx⟩:=m4.slx LSt
 obtain⟨w5,e5,s5,hw5⟩:=sx.cut un22 sz9 co9 (lo:=none) (hi:=some (.int .i64 (t.ins.length:Nat))) (i:=0) (j:=t.ins.length) rfl rfl (Nat.zero_le _) (by rw[List.length_append]; omega)
 have c1:(((sr t.ins++[im1,im2])++tl).take t.ins.length).drop 0=sr t.ins:=by rw[List.drop_zero,List.append_assoc,List.take_left' hsl]
 have c2:((sr t.ins++[im1,im2])++tl).drop t.ins.length=im1::im2::tl:=by rw[List.append_assoc,List.drop_left' hsl]; rfl
 rw[c1,c2] at s5
 have in5:∀ b o sp n c,w5 = .slice (some ⟨b,o,sp⟩) n c→h2.next≤b∧b<h4.next:=fun b o sp n c z=>by
  obtain⟨o',sp',n',c',z'⟩:=hw5 b o sp n c z
  have:=m4.inb _ _ _ _ _ z'
  exact⟨m4.own b this.1,this.2⟩
 have one5:ones [w5]=true∧w5.cells.size=1∧w5.cells.toList=[w5]:=by obtain⟨a,c,e⟩:=s5.sl.val; rw[e]; exact⟨rfl,rfl,rfl⟩
 have ln5:∀ h',xbuiltin Tryz.prog .len [22] [w4] h' = .ok (.int .i64 ((t.ins.length+2:Nat):Int)) h':=fun h'=>by
  obtain⟨a,c,e⟩:=sx.sl.val
  rw[e,List.length_append,hsl]; exact ln22 _ _ _ _
 have g4:=m4.g
 have hg4:h4.get bb=some (.cells (kc t vi vo) 25 0 false):=g4.old _ _ (g2.old _ _ hg1)
 have hr4:h4.get rc=some (.cells zc25 25 0 false):=g4.old _ _ hg2
 have ok4:=q.ones
 obtain⟨h5,hh5⟩ : ∃ h5,h5=h4.put bb (.cells (kc t w5 vo) 25 0 false):=⟨_,rfl⟩
 have hg5:h5.get bb=some (.cells (kc t w5 vo) 25 0 false):=by rw[hh5]; exact H.put_self hg4
 have hw:h4.write ⟨bb,0+2,none⟩ [w5]=some h5:=by rw[hh5,H.write_eq hg4 (by simp) one5.1]; rfl
 have u5:Upd (fun y=>y=bb) h4 h5:=by rw[hh5]; exact (Upd.refl (fun y=>y=bb) h4).put (.inl rfl) (H.get_lt hg4) _
 have hr5:h5.get rc=some (.cells zc25 25 0 false):=u5.old _ _ (by omega) hr4
 have gh5:Grow h h5:=(g12.trans g4).own u5 fun y z=>by omega
 have s55:=s5.upd u5 (fun b o sp n c z=>by have:=(in5 b o sp n c z).1; omega)
 have q5:=q.grow gh5
 obtain⟨rows,so,oq⟩:=q5.outs
 have hrl:=oq.len
 obtain⟨h6,w6,bw6,new,m6,k6,u6,o6,e6⟩:=copyOuts (bb:=bb) (nm:=.string ⟨⟨t.name⟩⟩) (bu:=.int .i64 t.bud) (vi:=w5) so (fun z=>q.vt (by rintro y; rw[y] at hrl; exact z (List.length_eq_zero_iff.1 hrl))) (by omega) (ptr rc) t.outs 0 oq (Nat.zero_le _) (MkL.start 48 6 h5) (Row.of hg5) (fun z=>by cases z) (by simp; omega) (by omega)
 rw[List.nil_append] at m6
 have hnl:=k6.len
 have bm1:∀ h',xbuild Tryz.prog 48 [(0,.string ⟨#[47,47,51]⟩)] h' = .ok (.agg ⟨om1⟩) h':=fun h'=>by kernel_rfl
 have bm2:∀ h',xbuild Tryz.prog 48 [(0,.string ⟨#[47,47,52]⟩)] h' = .ok (.agg ⟨om2⟩) h':=fun h'=>by kernel_rfl
 obtain⟨w7,bw7,h7,m7,u7,o7,e7⟩:=m6.app LOu (rows2:=[om1,om2]) (n:=2) (es:=[(0,.agg ⟨om1⟩),(1,.agg ⟨om2⟩)]) (by simp; omega) (fun r hr=>by
  rcases List.mem_cons.1 hr with rfl|hr
  ·exact⟨rfl,rfl⟩
  ·rw[List.mem_singleton.1 hr]; exact⟨rfl,rfl⟩) (by kernel_rfl)
 have k7:=k6.upd u7 (fun b hb z=>z.elim (fun y=>hb.2 y.symm) (fun y=>by have:=hb.1.2; omega))
 obtain⟨tl2,sx7⟩:=m7.slx LOu
 obtain⟨w8,e8,s8,hw8⟩:=sx7.cut un23 sz48 co48 (lo:=none) (hi:=some (.int .i64 (new.length:Nat))) (i:=0) (j:=new.length) rfl rfl (Nat.zero_le _) (by rw[List.length_append]; omega)
 have c3:(((new++[om1,om2])++tl2).take new.length).drop 0=new:=by rw[List.drop_zero,List.append_assoc,List.take_left]
 have c4:((new++[om1,om2])++tl2).drop new.length=om1::om2::tl2:=by rw[List.append_assoc,List.drop_left]; rfl
 rw[c3,c4] at s8
 have in8:∀ b o sp n c,w8 = .slice (some ⟨b,o,sp⟩) n c→h5.next≤b∧b<h7.next:=fun b o sp n c z=>by
  obtain⟨o',sp',n',c',z'⟩:=hw8 b o sp n c z
  have:=m7.inb _ _ _ _ _ z'
  exact⟨m7.own b this.1,this.2⟩
 have one8:ones [w8]=true∧w8.cells.size=1∧w8.cells.toList=[w8]:=by obtain⟨a,c,e⟩:=s8.sl.val; rw[e]; exact⟨rfl,rfl,rfl⟩
 have ln8:∀ h',xbuiltin Tryz.prog .len [23] [w7] h' = .ok (.int .i64 ((new.length+2:Nat):Int)) h':=fun h'=>by
  obtain⟨a,c,e⟩:=sx7.sl.val
  rw[e,List.length_append]; exact ln23 _ _ _ _
 have g57:=m7.g
 have hg7:h7.get bb=some (.cells (kc t w5 vo) 25 0 false):=g57.old _ _ hg5
 have hr7:h7.get rc=some (.cells zc25 25 0 false):=g57.old _ _ hr5
 obtain⟨h8,hh8⟩ : ∃ h8,h8=h7.put bb (.cells (kc t w5 w8) 25 0 false):=⟨_,rfl⟩
 have hg8:h8.get bb=some (.cells (kc t w5 w8) 25 0 false):=by rw[hh8]; exact H.put_self hg7
 have hw8':h7.write ⟨bb,0+3,none⟩ [w8]=some h8:=by rw[hh8,H.write_eq hg7 (by simp) one8.1]; rfl
 have u8:Upd (fun y=>y=bb) h7 h8:=by rw[hh8]; exact (Upd.refl (fun y=>y=bb) h7).put (.inl rfl) (H.get_lt hg7) _
 have hr8:h8.get rc=some (.cells zc25 25 0 false):=u8.old _ _ (by omega) hr7
 have ot:ones (kc t w5 w8)=true:=by
  obtain⟨a,c,e⟩:=s8.sl.val
  obtain⟨a',c',e'⟩:=s5.sl.val
  rw[e,e']; rfl
 obtain⟨h9,hh9⟩ : ∃ h9,h9=h8.put rc (.cells (kc t w5 w8) 25 0 false):=⟨_,rfl⟩
 have hg9:h9.get rc=some (.cells (kc t w5 w8) 25 0 false):=by rw[hh9]; exact H.put_self hr8
 have hw9:h8.write ⟨rc,0,none⟩ (kc t w5 w8)=some h9:=by rw[hh9]; exact H.write_all hr8 (by rw[zc25_len]; rfl) ot
 have u9:Upd (fun y=>y=rc) h8 h9:=by rw[hh9]; exact (Upd.refl (fun y=>y=rc) h8).put (.inl rfl) (H.get_lt hr8) _
 have u79:Upd (fun y=>y=bb∨y=rc) h7 h9:=(u8.mono fun y _ z=>.inl z).trans (u9.mono fun y _ z=>.inr z)
 have gall:Grow h h9:=(gh5.trans g57).own u79 fun y z=>by omega
 have n24:=g4.next
 have n45:=u5.next
 have n57:=g57.next
 have n79:=u79.next
 refine⟨h9,w5,w8,gall,⟨⟨tl,(s55.grow g57).upd u79 (fun b o sp n c z=>by have:=(in5 b o sp n c z).1; omega)⟩,⟨new,tl2,s8.upd u79 (fun b o sp n c z=>by have:=(in8 b o sp n c z).1; omega),(k7.upd u79 (fun b hb=>by have:=hb.1.1; omega)).mono fun b hb=>⟨⟨by have:=hb.1.1; omega,by have:=hb.1.2; have:=u7.next; omega⟩,fun o sp n c z=>by have:=(in5 b o sp n c z).2; have:=hb.1.1; omega,fun o sp n c z=>by
  obtain⟨o',sp',n',c',z'⟩:=hw8 b o sp n c z
  rcases o7 b (m7.inb _ _ _ _ _ z').1 with y|y
  ·exact hb.2 y.symm
  ·have:=hb.1.2; omega⟩⟩,fun b o sp n c z=>⟨by have:=(in5 b o sp n c z).1; omega,by have:=(in5 b o sp n c z).2; omega⟩,fun b o sp n c z=>⟨by have:=(in8 b o sp n c z).1; omega,by have:=(in8 b o sp n c z).2; omega⟩,fun b o sp n c z o' sp' n' c' z'=>by have:=(in5 b o sp n c z).2; have:=(in8 b o' sp' n' c' z').1; omega,((((lst_wr0 m4.l).cut hw5).upd u5 fun b o sp n c z=>by have:=(in5 b o sp n c z).1; omega).grow g57).upd u79 (fun b o sp n c z=>by have:=(in5 b o sp n c z).1; omega),((lst_wr0 m7.l).cut hw8).upd u79 fun b o sp n c z=>by have:=(in8 b o sp n c z).1; omega⟩,?_⟩
 have w2:∀ n:Nat,n≤7000000→IntKind.i64.wrap (((n+2:Nat):Int) - 2)=(n:Int):=fun n hn=>by rw[wrap64 (by omega)]; omega
 rw[cM25,F25.eq,eb,go_ok,al25,go_ok,← hh2,← hrc,k2 r2,e3,go_ok]
 refine (e4 _).trans ?_
 rw[ln5,go_ok,xsub,go_ok,w2 _ (by omega),e5,go_ok,fa25_2,go_ok,st22 _ _ _ one5.2.1,one5.2.2,hw,ofU_some,go_ok]
 refine e6.trans ?_
 rw[F25.j9_eq,bm1,go_ok,bm2,go_ok]
 refine (e7 _).trans ?_
 rw[ln8,go_ok,xsub,go_ok,w2 _ (by omega),e8,go_ok,fa25_3,go_ok,st23 _ _ _ one8.2.1,one8.2.2,hw8',ofU_some,go_ok,(Row.of hg8).get25 rfl,go_ok,st25 _ _ _ rfl,cells_agg,hw9,ofU_some,go_ok]
 exact kfn_cell1 (ty:=25) (by kernel_rfl) ((Row.of hg9).get25 rfl)
end Go.Proofs.YtbfgadekkemlcaaGreatDoor.K
namespace Go.Proofs.YtbfgadekkemlcaaGreatDoor.K
open Go Go.Kx
theorem keptOuts {A:Nat→Prop} {t:TK} {vi vo:Value} {rows:List (List Value)} {bb:Nat} (fr:rows.length≤4000000):∀ (os:List (List UInt8 × T1)) (i:Nat) {h:H},Sl 6 h vo rows→OutsK A h os (rows.drop i)→i≤rows.length→Row h bb 0 (kc t vi vo)→outsB os≤4000000 →
  ∃ h',Grow h h'∧F27.l6 Tryz.prog CLM nu0 nu0 (ptr bb) (.int .i64 (i:Nat)) h = .ok (.bool true) h':=by
 intro os
 induction os with
 |nil=>
  intro i h s q hi r few
  have:=congrArg List.length (show rows.drop i=[] from q)
  rw[List.length_drop,List.length_nil] at this
  refine⟨h,Grow.refl h,?_⟩
  rw[F27.l6_eq,k3 r,s.outsLen,go_ok,xlss,go_ok,ifV_dec,if_neg (by omega),F27.j10_eq]
 |cons x os ih=>
  intro i h s q hi r few
  obtain⟨c,rr,e,t1,qr⟩:=q
  obtain⟨hc,hdr,hlt⟩:=drop_cons e
  obtain⟨b,o,ia,row,hl6,ho6⟩:=s.out hc
  unfold outsB at few
  obtain⟨h1,g1,e1⟩:=eKeptTerm t1 (by omega)
  obtain⟨h2,g2,e2⟩:=ih (i+1) (s.grow g1) (by rw[hdr]; exact qr.grow g1) (by omega) (r.grow g1) (by omega)
  refine⟨h2,g1.trans g2,?_⟩
  rw[F27.l6_eq,k3 r,s.outsLen,go_ok,xlss,go_ok,ifV_dec,if_pos (by omega),F27.j8_eq,k3 r,ia,go_ok,o1 row _ t1.t1R.len,e1,go_ok,xun_not,go_ok,Bool.not_true,ifV_f,xadd,go_ok,wad (by omega),e2]
theorem eKept {A:Nat→Prop} {h:H} {t:TK} {vi vo:Value} (q:TaskK A h t vi vo) (few:t.bulk≤4000000):∃ h',Grow h h'∧CLM (.f 27) [.agg ⟨kc t vi vo⟩] h = .ok (.bool true) h':=by
 obtain⟨eb,gb,r⟩:=box_row 25 (kc t vi vo) h
 obtain⟨h1,hh1⟩ : ∃ h1,h1=h.alloc (.cells (kc t vi vo) 25 0 false):=⟨_,rfl⟩
 rw[← hh1] at eb gb r
 obtain⟨⟨tl,s⟩,⟨rows,tl2,so,oq⟩,_,_,_,_,_⟩:=q.grow gb
 unfold TK.bulk at few
 have li:=insB_len t.ins
 have lo:=outsB_len t.outs
 have hsl:=sr_len t.ins
 have hrl:=oq.len
 obtain⟨v2,e2,s2,_⟩:=s.cut un22 sz9 co9 (lo:=none) (hi:=some (.int .i64 ((t.ins.length+2:Nat):Int))) (i:=0) (j:=t.ins.length+2) rfl rfl (Nat.zero_le _) (by simp only[List.length_cons]; omega)
 have c1:((sr t.ins++im1::im2::tl).take (t.ins.length+2)).drop 0=sr t.ins++[im1,im2]:=by
  rw[List.drop_zero,show sr t.ins++im1::im2::tl=(sr t.ins++[im1,im2])++tl by simp,List.take_left' (by simp[sr])]
 rw[c1] at s2
 have hl2:(sr t.ins++[im1,im2]).length=t.ins.length+2:=by simp[sr]
 obtain⟨v3,e3,s3,_⟩:=s2.cut un22 sz9 co9 (lo:=some (.int .i64 (t.ins.length:Nat))) (hi:=none) (i:=t.ins.length) (j:=t.ins.length+2) rfl (by rw[hl2]; rfl) (by omega) (by rw[hl2]; omega)
 have c3:(((sr t.ins++[im1,im2])++((sr t.ins++im1::im2::tl).drop (t.ins.length+2))).take (t.ins.length+2)).drop t.ins.length=sr [[47,47,49],[47,47,50]]:=by
  rw[List.take_left' hl2,List.drop_left' hsl]; rfl
 rw[c3] at s3
 have qm:StrR h1 v3 [[47,47,49],[47,47,50]]:=s3.sl
 obtain⟨v4,e4,s4,_⟩:=so.cut un23 sz48 co48 (lo:=none) (hi:=some (.int .i64 ((rows.length+2:Nat):Int))) (i:=0) (j:=rows.length+2) rfl rfl (Nat.zero_le _) (by simp only[List.length_cons]; omega)
 have c4:((rows++om1::om2::tl2).take (rows.length+2)).drop 0=rows++[om1,om2]:=by
  rw[List.drop_zero,show rows++om1::om2::tl2=(rows++[om1,om2])++tl2 by simp,List.take_left' (by simp)]
 rw[c4] at s4
 have hl4:(rows++[om1,om2]).length=rows.length+2:=by simp
 obtain⟨v5,e5,s5,_⟩:=s4.cut un23 sz48 co48 (lo:=some (.int .i64 (rows.length:Nat))) (hi:=none) (i:=rows.length) (j:=rows.length+2) rfl (by rw[hl4]; rfl) (by omega) (by rw[hl4]; omega)
 have c5:(((rows++[om1,om2])++((rows++om1::om2::tl2).drop (rows.length+2))).take (rows.length+2)).drop rows.length=[om1,om2]:=by
  rw[List.take_left' hl4,List.drop_left]
 rw[c5] at s5
 obtain⟨b0,p0,ia0,row0,_⟩:=s5.sl.out (i:=0) (c:=om1) rfl
 obtain⟨b1,p1,ia1,row1,_⟩:=s5.sl.out (i:=1) (c:=om2) rfl
 rw[show ((0:Nat):Int)=0 from rfl] at ia0
 rw[show ((1:Nat):Int)=1 from rfl] at ia1
 have row0t:Row h1 b0 (p0+1) (tc 0 [] 0 0 (.slice none 0 0)):=row0.sub (k:=1) (m:=5) (by show 1+5≤6; omega)
 obtain⟨h2,g2,el⟩:=keptOuts (t:=t) (vi:=vi) (bb:=h.next) (by omega) t.outs 0 so.sl oq (Nat.zero_le _) r (by omega)
 refine⟨h2,gb.trans g2,?_⟩
 have ln1:∀ h',xbuiltin Tryz.prog .len [22] [vi] h' = .ok (.int .i64 (t.ins.length:Nat)) h':=StrR.len (ls:=t.ins) s.sl
 have ln2:∀ h',xbuiltin Tryz.prog .len [23] [vo] h' = .ok (.int .i64 (rows.length:Nat)) h':=so.sl.outsLen
 have lv1:(lenV vi).isSome=true:=by obtain⟨a,c,e⟩:=s.sl.val; rw[e]; rfl
 have lv2:(lenV vo).isSome=true:=by obtain⟨a,c,e⟩:=so.sl.val; rw[e]; rfl
 have w1:IntKind.i64.wrap ((t.ins.length:Int)+2)=((t.ins.length+2:Nat):Int):=by rw[wrap64 (by omega)]; omega
 have w2:IntKind.i64.wrap ((rows.length:Int)+2)=((rows.length+2:Nat):Int):=by rw[wrap64 (by omega)]; omega
 have l0:=qm.ld (i:=0) rfl
 have l1:=qm.ld (i:=1) rfl
 rw[show ((0:Nat):Int)=0 from rfl] at l0
 rw[show ((1:Nat):Int)=1 from rfl] at l1
 rw[cM27,F27.eq,eb,go_ok,fa25_2,Res.ok1_ok,d2 r,Res.ok1_ok,fa25_2,Res.ok1_ok,d2 r,Res.ok1_ok,lv1,cond_true,ln1,Res.ok1_ok,plain2_int,cond_true,xadd,Res.ok1_ok,w1,e2,Res.ok1_ok,fa25_2,Res.ok1_ok,d2 r,Res.ok1_ok,lv1,cond_true,ln1,Res.ok1_ok,e3,Res.ok1_ok]
 rw[fa25_3,Res.ok1_ok,d3 r,Res.ok1_ok,fa25_3,Res.ok1_ok,d3 r,Res.ok1_ok,lv2,cond_true,ln2,Res.ok1_ok,plain2_int,cond_true,xadd,Res.ok1_ok,w2,e4,Res.ok1_ok,fa25_3,Res.ok1_ok,d3 r,Res.ok1_ok,lv2,cond_true,ln2,Res.ok1_ok,e5,Res.ok1_ok]
 rw[l0,xsneq,go_ok,ifV_not,if_pos rfl,l1,xsneq,go_ok,ifV_not,if_pos rfl,ia0,go_ok,o0 row0,xsneq,go_ok,ifV_not,if_pos rfl,ia1,go_ok,o0 row1,xsneq,go_ok,ifV_not,if_pos rfl,ia0,go_ok,fa48_1,go_ok,t0 row0t,xneq,go_ok,ifV_not,if_pos rfl,F27.j5_eq]
 exact el
theorem sameOuts {t t':TK} {vi vo vi' vo':Value} {rows rows':List (List Value)} {b1 b2:Nat} (hrr:rows.length=rows'.length) (fr:rows.length≤4000000):∀ (os os':List (List UInt8 × T1)) (i:Nat) {h:H},Sl 6 h vo rows→Sl 6 h vo' rows'→OutsR h os (rows.drop i)→OutsR h os' (rows'.drop i)→i≤rows.length→Row h b1 0 (kc t vi vo)→Row h b2 0 (kc t' vi' vo')→outsB os≤4000000 →
  ∃ h',Grow h h'∧F22.l4 Tryz.prog CLM nu0 nu0 (ptr b1) (ptr b2) (.int .i64 (i:Nat)) h = .ok (.bool (decide (os=os'))) h':=by
 intro os
 induction os with
 |nil=>
  intro os' i h s s' q q' hi r1 r2 few
  have:=congrArg List.length (show rows.drop i=[] from q)
  rw[List.length_drop,List.length_nil] at this
  have h0:os'=[]:=by
   have:=q'.len
   rw[List.length_drop] at this
   exact List.length_eq_zero_iff.1 (by omega)
  refine⟨h,Grow.refl h,?_⟩
  rw[F22.l4_eq,k3 r1,s.outsLen,go_ok,xlss,go_ok,ifV_dec,if_neg (by omega),F22.j8_eq,h0]; rfl
 |cons x os ih=>
  intro os' i h s s' q q' hi r1 r2 few
  obtain⟨c,rr,e,t1,qr⟩:=q
  obtain⟨hc,hdr,hlt⟩:=drop_cons e
  unfold outsB at few
  cases os' with
  |nil=>
   have:=congrArg List.length (show rows'.drop i=[] from q')
   rw[List.length_drop,List.length_nil] at this
   omega
  |cons y os'=>
   obtain⟨c2,rr2,e2,t2,qr2⟩:=q'
   obtain⟨hc2,hdr2,hlt2⟩:=drop_cons e2
   obtain⟨b,o,ia,row,hl6,ho6⟩:=s.out hc
   obtain⟨b',o',ia',row',hl6',ho6'⟩:=s'.out hc2
   have sub:∀ {b o:Nat} {p:List UInt8} {c:List Value},Row h b o (.string ⟨⟨p⟩⟩::c)→c.length=5→xload Tryz.prog 46 (.pointer (some ⟨b,o+1,none⟩)) h = .ok (.agg ⟨c⟩) h:=by
    intro b o p c row hl
    have:=row.sub (k:=1) (m:=5) (by rw[List.length_cons]; omega)
    rw[show (Value.string ⟨⟨p⟩⟩::c).drop 1=c from rfl,List.take_of_length_le (by omega)] at this
    exact this.get46 hl
   obtain⟨h1,g1,e1⟩:=eSameTerm t1 t2 (by omega)
   have st:F22.l4 Tryz.prog CLM nu0 nu0 (ptr b1) (ptr b2) (.int .i64 (i:Nat)) h=if x.1=y.1 then ifV (.bool (!decide (x.2=y.2))) (.ok (.bool false) h1) (F22.l4 Tryz.prog CLM nu0 nu0 (ptr b1) (ptr b2) (.int .i64 ((i+1:Nat):Int)) h1) else .ok (.bool false) h:=by
    rw[F22.l4_eq,k3 r1,s.outsLen,go_ok,xlss,go_ok,ifV_dec,if_pos (by omega),F22.j6_eq,fa25_3,Res.ok1_ok,d3 r1,Res.ok1_ok,ia,Res.ok1_ok,fa48_0,Res.ok1_ok,po0 row,Res.ok1_ok,fa25_3,Res.ok1_ok,d3 r2,Res.ok1_ok,ia',Res.ok1_ok,fa48_0,Res.ok1_ok,po0 row',Res.ok1_ok,plain2_str,cond_true,xsneq,Res.ok1_ok,ifV_not,bl_mk,bl_mk,fa25_3,Res.ok1_ok,d3 r1,Res.ok1_ok,ia,Res.ok1_ok,fa48_1,Res.ok1_ok,sub row t1.len,Res.ok1_ok,fa25_3,Res.ok1_ok,d3 r2,Res.ok1_ok,ia',Res.ok1_ok,fa48_1,Res.ok1_ok,sub row' t2.len,Res.ok1_ok,e1,go_ok,xun_not,Res.ok1_ok,xadd,go_ok,wad (by omega)]
   rw[st]
   by_cases hp:x.1=y.1
   ·rw[if_pos hp,ifV_not]
    by_cases ht:x.2=y.2
    ·obtain⟨h2,g2,e2'⟩:=ih os' (i+1) (s.grow g1) (s'.grow g1) (by rw[hdr]; exact qr.grow g1) (by rw[hdr2]; exact qr2.grow g1) (by omega) (r1.grow g1) (r2.grow g1) (by omega)
     refine⟨h2,g1.trans g2,?_⟩
     rw[if_pos ht,e2']
     refine ok_bool ?_
     rw[decide_eq_true_iff,decide_eq_true_iff]
     have:x=y:=Prod.ext hp ht
     rw[this]
     exact⟨fun w=>by rw[w],fun w=>(List.cons.inj w).2⟩
    ·refine⟨h1,g1,?_⟩
     rw[if_neg ht]
     refine ok_bool ?_
     rw[decide_eq_true_iff]
     exact⟨fun w=>(by cases w),fun w=>absurd (by rw[(List.cons.inj w).1]) ht⟩
   ·refine⟨h,Grow.refl h,?_⟩
    rw[if_neg hp]
    refine ok_bool ?_
    rw[decide_eq_true_iff]
    exact⟨fun w=>(by cases w),fun w=>absurd (by rw[(List.cons.inj w).1]) hp⟩
def sameT (t t':TK):Bool:=decide (t.name=t'.name∧t.bud=t'.bud∧t.ins=t'.ins∧t.outs=t'.outs)
theorem sameT_self (t:TK):sameT t t=true:=decide_eq_true ⟨rfl,rfl,rfl,rfl⟩
theorem eSameTask {h:H} {t t':TK} {vi vo vi' vo':Value} (q:TaskR h t vi vo) (q':TaskR h t' vi' vo') (few:t.bulk≤4000000):∃ h',Grow h h'∧CLM (.f 22) [.agg ⟨kc t vi vo⟩,.agg ⟨kc t' vi' vo'⟩] h = .ok (.bool (sameT t t')) h':=by
 obtain⟨eb,gb,r⟩:=box_row 25 (kc t vi vo) h
 obtain⟨h1,hh1⟩ : ∃ h1,h1=h.alloc (.cells (kc t vi vo) 25 0 false):=⟨_,rfl⟩
 rw[← hh1] at eb gb r
 obtain⟨eb2,gb2,r2⟩:=box_row 25 (kc t' vi' vo') h1
 obtain⟨h2,hh2⟩ : ∃ h2,h2=h1.alloc (.cells (kc t' vi' vo') 25 0 false):=⟨_,rfl⟩
 rw[← hh2] at eb2 gb2 r2
 have r1:=r.grow gb2
 have g12:=gb.trans gb2
 have q1:=q.grow g12
 have q2:=q'.grow g12
 unfold TK.bulk at few
 have li:=insB_len t.ins
 have lo:=outsB_len t.outs
 obtain⟨rows,s,oq⟩:=q1.outs
 obtain⟨rows',s',oq'⟩:=q2.outs
 have l1:=oq.len
 have l2:=oq'.len
 have no:¬ (t.name=t'.name∧t.bud=t'.bud∧t.ins=t'.ins∧t.outs=t'.outs)→∃ h',Grow h h'∧(Res.ok (Value.bool false) h2) = .ok (.bool (sameT t t')) h':=fun hn=>⟨h2,g12,by unfold sameT; rw[decide_eq_false hn]⟩
 rw[cM22,F22.eq,eb,go_ok,eb2,go_ok,k0 r1,k0 r2,xsneq,go_ok,ifV_not,bl_mk,bl_mk]
 by_cases hn:t.name=t'.name
 ·rw[if_pos hn,k1 r1,k1 r2,xneq,go_ok,ifV_not]
  by_cases hb:t.bud=t'.bud
  ·rw[if_pos hb,k2 r1,k2 r2,eSameS q1.ins.str q2.ins.str (by omega),go_ok,xun_not,go_ok,ifV_not]
   by_cases hi:t.ins=t'.ins
   ·rw[if_pos hi,k3 r1,s.outsLen,go_ok,k3 r2,s'.outsLen,go_ok,xneq,go_ok,ifV_not]
    by_cases hl:t.outs.length=t'.outs.length
    ·obtain⟨h3,g3,e3⟩:=sameOuts (t:=t) (t':=t') (vi:=vi) (vi':=vi') (b1:=h.next) (b2:=h1.next) (by omega) (by omega) t.outs t'.outs 0 s s' oq oq' (Nat.zero_le _) r1 r2 (by omega)
     refine⟨h3,g12.trans g3,?_⟩
     rw[if_pos (by omega),F22.j3_eq]
     refine e3.trans (ok_bool ?_)
     unfold sameT
     rw[decide_eq_true_iff,decide_eq_true_iff]
     exact⟨fun w=>⟨hn,hb,hi,w⟩,fun w=>w.2.2.2⟩
    ·rw[if_neg (by omega)]; exact no fun w=>hl (by rw[w.2.2.2])
   ·rw[if_neg hi]; exact no fun w=>hi w.2.2.1
  ·rw[if_neg hb]; exact no fun w=>hb w.2.1
 ·rw[if_neg hn]; exact no fun w=>hn w.1
end Go.Proofs.YtbfgadekkemlcaaGreatDoor.K
namespace Go.Proofs.YtbfgadekkemlcaaGreatDoor.K
open Go Go.Kx
def Told70 (v:Value) (n:Nat):Prop:=70<n→∃ b o cap,v = .slice (some ⟨b,o,some 0⟩) n cap∧n≤cap
structure RawC (h:H) (t:TK) (vi vo:Value):Prop where
 ins:StrR h vi t.ins
 told:Told70 vi t.ins.length
 outs:∃ rows,Sl 6 h vo rows∧OutsR h t.outs rows
 ex:veq vi vi=true∧veq vo vo=true
theorem RawC.grow {h h':H} (g:Grow h h') {t:TK} {vi vo:Value} (q:RawC h t vi vo):RawC h' t vi vo:=by
 obtain⟨a,b,⟨rows,c,d⟩,e⟩:=q
 exact⟨a.grow g,b,⟨rows,c.grow g,d.grow g⟩,e⟩
theorem RawC.rc {h:H} {t:TK} {vi vo:Value} (q:RawC h t vi vo) (h':H):rc (.ok (.agg ⟨kc t vi vo⟩) h') (some (.agg ⟨kc t vi vo⟩))=true:=by
 unfold Kx.rc
 simp[veq,veqL,q.ex.1,q.ex.2]
def z1:T1:=⟨0,[],0,0,.nil⟩
abbrev zc5:List Value:=tc 0 [] 0 0 (.slice none 0 0)
theorem T1R.zero (h:H):T1R h z1 zc5:=⟨.slice none 0 0,[],rfl,⟨GoodR.nil,.inl ⟨.inl rfl,rfl⟩⟩,rfl⟩
theorem OutsR.app {h:H}:∀ {a b:List (List UInt8 × T1)} {ra rb:List (List Value)},OutsR h a ra→OutsR h b rb→OutsR h (a++b) (ra++rb)
 |[],b,ra,rb,qa,qb=>by rw[show ra=[] from qa]; exact qb
 |x::a,b,ra,rb,⟨c,rr,e,t,q⟩,qb=>⟨c,rr++rb,by rw[e]; rfl,t,q.app qb⟩
theorem spill48g (l:List Value) (hl:l.length=6) (ho:ones l=true) (h:H):∃ h',Grow h h'∧h'.get h.next=some (.cells l 48 0 false)∧∀ K:Value→Value→H→Res Value,((xalloc Tryz.prog 48 h).go .pan fun t h=>((xstore Tryz.prog 48 t (.agg ⟨l⟩) h).go .pan (K t)))=K (.pointer (some ⟨h.next,0,none⟩)) undef h':=by
 obtain⟨h1,hh1⟩ : ∃ h1,h1=h.alloc (.cells zc48 48 0 false):=⟨_,rfl⟩
 have g1:h1.get h.next=some (.cells zc48 48 0 false):=by rw[hh1]; exact H.alloc_self _ _
 obtain⟨h2,hh2⟩ : ∃ h2,h2=h1.put h.next (.cells l 48 0 false):=⟨_,rfl⟩
 have g2:h2.get h.next=some (.cells l 48 0 false):=by rw[hh2]; exact H.put_self g1
 have hw:h1.write ⟨h.next,0,none⟩ l=some h2:=by rw[hh2]; exact H.write_all g1 (by rw[hl,zc48_len]) ho
 refine⟨h2,by rw[hh2]; exact Grow.put (by rw[hh1]; exact (Grow.refl h).alloc _) (Nat.le_refl _) (H.get_lt g1) _,g2,fun K=>?_⟩
 rw[al48,go_ok,← hh1,st48 _ _ _ (by rw[asz,hl]),cells_agg,hw,ofU_some,go_ok]
theorem cutL {h0:H} {vo:Value} {rows:List (List Value)} (s:Sl 6 h0 vo rows) (fr:rows.length≤4000000) {bb:Nat} {nm bu vi:Value} (x2:Value):∀ (os:List (List UInt8 × T1)) (i:Nat) (left:Int) {h:H} {w:Value} {bw:Option Nat} {acc:List (List Value)},OutsR h0 os (rows.drop i)→i≤rows.length→MkL 48 6 h0 h w bw acc→Row h bb 0 [nm,bu,vi,vo]→bw≠some bb→acc.length+os.length≤7000000→outsB os≤4000000 →
  ∃ h' w' bw' new nos,MkL 48 6 h0 h' w' bw' (acc++new)∧OutsR h0 nos new∧outsB nos≤outsB os∧Upd (Own h bw) h h'∧(∀ b,bw'=some b→Own h bw b)∧F19.l6 Tryz.prog CLM nu0 nu0 (ptr bb) x2 (.int .i64 left) w (.int .i64 (i:Nat)) h=F19.j15 Tryz.prog CLM nu0 nu0 (ptr bb) x2 w' h':=by
 intro os
 have f3:∀ {h:H},Row h bb 0 [nm,bu,vi,vo]→xload Tryz.prog 23 (.pointer (some ⟨bb,0+3,none⟩)) h = .ok vo h:=fun r=>by rw[ld23,r.cell (j:=3) rfl,ofO_some]
 induction os with
 |nil=>
  intro i left h w bw acc q hi mk r nb hl few
  have:=congrArg List.length (show rows.drop i=[] from q)
  rw[List.length_drop,List.length_nil] at this
  refine⟨h,w,bw,[],[],by rw[List.append_nil]; exact mk,rfl,Nat.le_refl _,Upd.refl _ _,fun b hb=>.inl hb.symm,?_⟩
  rw[F19.l6_eq,fa25_3,go_ok,f3 r,go_ok,(s.grow mk.g).outsLen,go_ok,xlss,go_ok,ifV_dec,if_neg (by omega)]
 |cons x os ih=>
  intro i left h w bw acc q hi mk r nb hl few
  obtain⟨c,rr,e,t,qr⟩:=q
  obtain⟨hc,hdr,hlt⟩:=drop_cons e
  obtain⟨b,o,ia,row,hl6,ho6⟩:=s.out hc
  have few':=few
  unfold outsB at few
  rw[List.length_cons] at hl
  have row:=row.grow mk.g
  have en:F19.l6 Tryz.prog CLM nu0 nu0 (ptr bb) x2 (.int .i64 left) w (.int .i64 (i:Nat)) h=if (i:Int)<10 then F19.j8 Tryz.prog CLM nu0 nu0 (ptr bb) x2 (.int .i64 left) w (.int .i64 (i:Nat)) (.int .i64 (i:Nat)) (.bool (decide ((i:Int)<10))) h else F19.j15 Tryz.prog CLM nu0 nu0 (ptr bb) x2 w h:=by
   rw[F19.l6_eq,fa25_3,go_ok,f3 r,go_ok,(s.grow mk.g).outsLen,go_ok,xlss,go_ok,ifV_dec,if_pos (by omega),xlss,go_ok,ifV_dec]
  rw[en]
  by_cases h10:(i:Int)<10
  ·obtain⟨h1,g1,hg1,e1⟩:=spill48g _ hl6 ho6 h
   have hbl:=r.lt
   obtain⟨sp,hsp⟩ : ∃ sp,sp=h.next:=⟨_,rfl⟩
   rw[← hsp] at hg1 e1
   have r1:=Row.of hg1
   obtain⟨h2,n,g2,e2⟩:=eNodes (t.grow (mk.g.trans g1)) (by omega) 2001
   have g12:=g1.trans g2
   have hg2:=g2.old _ _ hg1
   have pick:∃ (h3:H) (y:List UInt8 × T1) (c3:List Value) (n3:Int),Upd (fun z=>z=sp) h2 h3∧h3.get sp=some (.cells (.string ⟨⟨y.1⟩⟩::c3) 48 0 false)∧T1R h0 y.2 c3∧1+y.1.length+y.2.bulk≤1+x.1.length+x.2.bulk∧F19.j8 Tryz.prog CLM nu0 nu0 (ptr bb) x2 (.int .i64 left) w (.int .i64 (i:Nat)) (.int .i64 (i:Nat)) (.bool (decide ((i:Int)<10))) h=F19.j13 Tryz.prog CLM nu0 nu0 (ptr bb) x2 (.int .i64 left) w (.int .i64 (i:Nat)) (ptr sp) (.int .i64 n3) (.int .i64 (i:Nat)) (.bool (decide ((i:Int)<10))) h3:=by
    have st:F19.j8 Tryz.prog CLM nu0 nu0 (ptr bb) x2 (.int .i64 left) w (.int .i64 (i:Nat)) (.int .i64 (i:Nat)) (.bool (decide ((i:Int)<10))) h=if left<n then ((xbuild Tryz.prog 46 [] h2).go .pan fun t27 h=>(xfieldAddr Tryz.prog 48 (ptr sp) 1 h).go .pan fun t28 h=>(xstore Tryz.prog 46 t28 t27 h).go .pan fun t29 h=>F19.j13 Tryz.prog CLM nu0 nu0 (ptr bb) x2 (.int .i64 left) w (.int .i64 (i:Nat)) (ptr sp) (.int .i64 1) (.int .i64 (i:Nat)) (.bool (decide ((i:Int)<10))) h) else F19.j13 Tryz.prog CLM nu0 nu0 (ptr bb) x2 (.int .i64 left) w (.int .i64 (i:Nat)) (ptr sp) (.int .i64 n) (.int .i64 (i:Nat)) (.bool (decide ((i:Int)<10))) h2:=by
     rw[F19.j8_eq,fa25_3,go_ok,f3 r,go_ok,ia,go_ok,row.get48 hl6,go_ok,e1,o1 r1 _ t.len,e2,go_ok,xgtr,go_ok,ifV_dec]
    rw[st]
    by_cases hln:left<n
    ·obtain⟨h3,hh3⟩ : ∃ h3,h3=h2.put sp (.cells (.string ⟨⟨x.1⟩⟩::zc5) 48 0 false):=⟨_,rfl⟩
     have hw:h2.write ⟨sp,0+1,none⟩ zc5=some h3:=by
      rw[hh3,H.write_eq hg2 (by show 1+5≤_; rw[hl6]; omega) rfl]
      have:(Value.string ⟨⟨x.1⟩⟩::c).drop (0+1+zc5.length)=[]:=List.drop_of_length_le (by rw[hl6]; show 6≤0+1+5; omega)
      rw[this]; rfl
     have bz:xbuild Tryz.prog 46 [] h2 = .ok (.agg ⟨zc5⟩) h2:=by kernel_rfl
     refine⟨h3,(x.1,z1),zc5,1,by rw[hh3]; exact (Upd.refl (fun z=>z=sp) h2).put (.inl rfl) (H.get_lt hg2) _,by rw[hh3]; exact H.put_self hg2,T1R.zero h0,by show 1+x.1.length+1≤_; unfold T1.bulk; omega,?_⟩
     rw[if_pos hln,bz,go_ok,fa48_1,go_ok,st46 _ _ _ rfl,cells_agg,hw,ofU_some,go_ok]
    ·exact⟨h2,x,c,n,Upd.refl _ _,hg2,t,Nat.le_refl _,by rw[if_neg hln]⟩
   obtain⟨h3,y,c3,n3,u3,hg3,t3,hle,e3⟩:=pick
   have c3l:=t3.len
   have gr3:Grow h h3:=g12.own u3 fun z hz=>by omega
   have r3:Row h3 sp 0 (.string ⟨⟨y.1⟩⟩::c3):=Row.of hg3
   have oc:ones (.string ⟨⟨y.1⟩⟩::c3)=true:=by
    obtain⟨va,ar,ec,sl,_⟩:=t3
    obtain⟨a',cap',ev⟩:=sl.val
    rw[ec,ev]; rfl
   obtain⟨w4,bw4,h4,mk4,u4,o4,e4⟩:=(mk.more gr3).app LOu (rows2:=[.string ⟨⟨y.1⟩⟩::c3]) (n:=1) (es:=[(0,.agg ⟨.string ⟨⟨y.1⟩⟩::c3⟩)]) (by rw[List.length_singleton]; omega) (GoodR.one (by rw[List.length_cons,c3l]) oc) (by
    obtain⟨va,ar,ec,sl,_⟩:=t3
    obtain⟨a',cap',ev⟩:=sl.val
    rw[ec,ev]; kernel_rfl)
   have r4:=(r.grow gr3).upd u4 (fun z=>z.elim (fun y=>nb y.symm) (fun y=>by have:=gr3.next; omega))
   have nb4:bw4≠some bb:=fun z=>(o4 bb z).elim (fun y=>nb y.symm) (fun y=>by have:=gr3.next; omega)
   obtain⟨h5,w5,bw5,new,nos,mk5,q5,le5,u5,o5,e5⟩:=ih (i+1) (IntKind.i64.wrap (left - n3)) (by rw[hdr]; exact qr) (by omega) mk4 r4 nb4 (by rw[List.length_append,List.length_singleton]; omega) (by omega)
   have up:Upd (Own h bw) h h5:=by
    refine (gr3.upd _).trans ((u4.mono fun y _ z=>?_).trans (u5.mono fun y _ z=>?_))
    ·exact z.elim .inl fun w=>.inr (Nat.le_trans gr3.next w)
    ·exact z.elim (fun w=>(o4 y w.symm).elim .inl fun w=>.inr (Nat.le_trans gr3.next w)) (fun w=>.inr (Nat.le_trans gr3.next (Nat.le_trans u4.next w)))
   have own5:∀ b,bw5=some b→Own h bw b:=fun b hb=>(o5 b hb).elim (fun w=>(o4 b w.symm).elim .inl fun w=>.inr (Nat.le_trans gr3.next w)) (fun w=>.inr (Nat.le_trans gr3.next (Nat.le_trans u4.next w)))
   refine⟨h5,w5,bw5,(.string ⟨⟨y.1⟩⟩::c3)::new,y::nos,by rw[List.append_assoc] at mk5; exact mk5,⟨c3,new,rfl,t3,q5⟩,?_,up,own5,?_⟩
   ·unfold outsB; omega
   ·rw[if_pos h10,e3,F19.j13_eq,xsub,go_ok,r3.get48 (by rw[List.length_cons,c3l]),go_ok]
    refine (e4 _).trans ?_
    rw[xadd,go_ok,wad (by omega),e5]
  ·refine⟨h,w,bw,[],[],by rw[List.append_nil]; exact mk,rfl,Nat.zero_le _,Upd.refl _ _,fun b hb=>.inl hb.symm,?_⟩
   rw[if_neg h10]
theorem insB_take:∀ (l:List (List UInt8)) (n:Nat),insB (l.take n)≤insB l
 |[],n=>by simp
 |x::l,0=>by simp[insB]
 |x::l,n+1=>by have:=insB_take l n; rw[List.take_succ_cons]; unfold insB; omega
theorem eCutTask {h:H} {t:TK} {vi vo:Value} (q:RawC h t vi vo) (few:t.bulk≤4000000):∃ h' t' vi' vo',Grow h h'∧t'.bulk≤t.bulk∧TaskK (Btw h h') h' t' vi' vo'∧CLM (.f 19) [.agg ⟨kc t vi vo⟩] h = .ok (.agg ⟨kc t' vi' vo'⟩) h':=by
 obtain⟨eb,gb,r⟩:=box_row 25 (kc t vi vo) h
 obtain⟨h1,hh1⟩ : ∃ h1,h1=h.alloc (.cells (kc t vi vo) 25 0 false):=⟨_,rfl⟩
 obtain⟨bb,hbb⟩ : ∃ bb,bb=h.next:=⟨_,rfl⟩
 have hg1:h1.get bb=some (.cells (kc t vi vo) 25 0 false):=by rw[hh1,hbb]; exact H.alloc_self _ _
 rw[← hh1] at eb gb r
 rw[← hbb] at eb r
 have hn1:h1.next=h.next+1:=by rw[hh1]; rfl
 obtain⟨h2,hh2⟩ : ∃ h2,h2=h1.alloc (.cells zc25 25 0 false):=⟨_,rfl⟩
 obtain⟨rc,hrc⟩ : ∃ rc,rc=h1.next:=⟨_,rfl⟩
 have g2:Grow h1 h2:=by rw[hh2]; exact (Grow.refl h1).alloc _
 have hg2:h2.get rc=some (.cells zc25 25 0 false):=by rw[hh2,hrc]; exact H.alloc_self _ _
 have hb2:h2.get bb=some (.cells (kc t vi vo) 25 0 false):=g2.old _ _ hg1
 have hn2:h2.next=h1.next+1:=by rw[hh2]; rfl
 have r2:=r.grow g2
 have g12:=gb.trans g2
 have q2:=q.grow g12
 have few0:=few
 unfold TK.bulk at few
 have li:=insB_len t.ins
 have lo:=outsB_len t.outs
 have ins:∃ h3 v3 l3,Upd (fun z=>z=bb) h2 h3∧h3.get bb=some (.cells [.string ⟨⟨t.name⟩⟩,.int .i64 t.bud,v3,vo] 25 0 false)∧StrR h v3 l3∧insB l3≤insB t.ins∧CLM (.f 19) [.agg ⟨kc t vi vo⟩] h=F19.j4 Tryz.prog CLM nu0 nu0 (ptr bb) (ptr rc) (.int .i64 2000) h3:=by
  have st:CLM (.f 19) [.agg ⟨kc t vi vo⟩] h=if (70:Int)<(t.ins.length:Nat) then ((xfieldAddr Tryz.prog 25 (ptr bb) 2 h2).go .pan fun t7 h=>(xload Tryz.prog 22 t7 h).go .pan fun t8 h=>(xslice Tryz.prog 22 t8 none (some (.int .i64 70)) none h).go .pan fun t9 h=>(xfieldAddr Tryz.prog 25 (ptr bb) 2 h).go .pan fun t10 h=>(xstore Tryz.prog 22 t10 t9 h).go .pan fun t11 h=>F19.j4 Tryz.prog CLM nu0 nu0 (ptr bb) (ptr rc) (.int .i64 2000) h) else F19.j4 Tryz.prog CLM nu0 nu0 (ptr bb) (ptr rc) (.int .i64 2000) h2:=by
   rw[cM19,F19.eq,eb,go_ok,al25,go_ok,← hh2,← hrc,k2 r2,q2.ins.len,go_ok,xgtr,go_ok,ifV_dec]
  rw[st]
  by_cases h70:70<t.ins.length
  ·obtain⟨b,o,cap,ev,hcap⟩:=q.told h70
   have hsl:=sr_len t.ins
   have s2:Sl 1 h2 (.slice (some ⟨b,o,some 0⟩) (sr t.ins).length cap) (sr t.ins):=by
    have:=q2.ins
    rw[ev,← hsl] at this
    exact this
   obtain⟨v3,e3,s3⟩:=cut0 un22 sz9 co9 s2 (j:=70) (by omega) (by omega) (by omega)
   rw[sr_take] at s3
   have one3:ones [v3]=true∧v3.cells.size=1∧v3.cells.toList=[v3]:=by obtain⟨a,c,e⟩:=s3.val; rw[e]; exact⟨rfl,rfl,rfl⟩
   obtain⟨h3,hh3⟩ : ∃ h3,h3=h2.put bb (.cells [.string ⟨⟨t.name⟩⟩,.int .i64 t.bud,v3,vo] 25 0 false):=⟨_,rfl⟩
   have hw:h2.write ⟨bb,0+2,none⟩ [v3]=some h3:=by rw[hh3,H.write_eq hb2 (by simp) one3.1]; rfl
   have u3:Upd (fun z=>z=bb) h2 h3:=by rw[hh3]; exact (Upd.refl (fun z=>z=bb) h2).put (.inl rfl) (H.get_lt hb2) _
   refine⟨h3,v3,t.ins.take 70,u3,by rw[hh3]; exact H.put_self hb2,?_,insB_take _ _,?_⟩
   ·obtain⟨v3',e3',s3'⟩:=cut0 (h:=h) un22 sz9 co9 (by
     have:=q.ins
     rw[ev,← hsl] at this
     exact this) (j:=70) (by omega) (by omega) (by omega)
    rw[sr_take] at s3'
    have hv:v3'=v3:=by
     unfold xslice at e3 e3'
     have a2:asNat? (some (.int .i64 ((70:Nat):Int))) (sr t.ins).length=some 70:=rfl
     simp only[un22,a2,show asNat? none 0=some 0 from rfl,show asNat? none cap=some cap from rfl,Nat.ble_eq_true_of_le (Nat.zero_le 70),Nat.ble_eq_true_of_le (show 70≤cap by omega),Nat.ble_eq_true_of_le (Nat.le_refl cap),sz9,Bool.and_self,cond_true] at e3 e3'
     rw[Res.ok.injEq] at e3 e3'
     rw[← e3.1,← e3'.1]
    rw[hv] at s3'
    exact s3'
   ·rw[if_pos (by omega),fa25_2,go_ok,d2 r2,go_ok,ev,← hsl,show (.int .i64 70:Value) = .int .i64 ((70:Nat):Int) from rfl,e3,go_ok,fa25_2,go_ok,st22 _ _ _ one3.2.1,one3.2.2,hw,ofU_some,go_ok]
  ·exact⟨h2,vi,t.ins,Upd.refl _ _,hb2,q.ins,Nat.le_refl _,by rw[if_neg (by omega)]⟩
 obtain⟨h3,v3,l3,u3,hb3,qi3,hli,en⟩:=ins
 have gg3:Grow h h3:=g12.own u3 fun z hz=>by omega
 have hr3:h3.get rc=some (.cells zc25 25 0 false):=u3.old _ _ (by omega) hg2
 obtain⟨rows,so,oq⟩:=q.outs
 have hrl:=oq.len
 obtain⟨h6,w6,bw6,new,nos,m6,q6,le6,u6,o6,e6⟩:=cutL (bb:=bb) (nm:=.string ⟨⟨t.name⟩⟩) (bu:=.int .i64 t.bud) (vi:=v3) so (by omega) (ptr rc) t.outs 0 2000 oq (Nat.zero_le _) (⟨gg3,Lst.nil,fun b z=>(by cases z),GoodR.nil⟩ : MkL 48 6 h h3 (.slice none 0 0) none []) (Row.of hb3) (fun z=>by cases z) (by simp; omega) (by omega)
 rw[List.nil_append] at m6
 have n3:h2.next≤h3.next:=u3.next
 have nO:∀ y,y<h3.next→¬ Own h3 none y:=fun y hy z=>z.elim (fun w=>by cases w) (fun w=>by omega)
 have hb6:=u6.old _ _ (nO bb (by omega)) hb3
 have hr6:=u6.old _ _ (nO rc (by omega)) hr3
 obtain⟨tl,s6⟩:=m6.slx LOu
 have in6:∀ b o sp n c,w6 = .slice (some ⟨b,o,sp⟩) n c→h3.next≤b:=fun b o sp n c z=>(o6 b (m6.inb b o sp n c z).1).elim (fun w=>by cases w) id
 have one6:ones [w6]=true∧w6.cells.size=1∧w6.cells.toList=[w6]:=by obtain⟨a,c,e⟩:=s6.sl.val; rw[e]; exact⟨rfl,rfl,rfl⟩
 obtain⟨t',ht'⟩ : ∃ t':TK,t'=⟨t.name,t.bud,l3,nos⟩:=⟨_,rfl⟩
 have hkc:kc t' v3 w6=[.string ⟨⟨t.name⟩⟩,.int .i64 t.bud,v3,w6]:=by rw[ht']
 obtain⟨h7,hh7⟩ : ∃ h7,h7=h6.put bb (.cells (kc t' v3 w6) 25 0 false):=⟨_,rfl⟩
 have hg7:h7.get bb=some (.cells (kc t' v3 w6) 25 0 false):=by rw[hh7]; exact H.put_self hb6
 have hw7:h6.write ⟨bb,0+3,none⟩ [w6]=some h7:=by rw[hh7,H.write_eq hb6 (by simp) one6.1,hkc]; rfl
 have u7:Upd (fun z=>z=bb) h6 h7:=by rw[hh7]; exact (Upd.refl (fun z=>z=bb) h6).put (.inl rfl) (H.get_lt hb6) _
 have hr7:=u7.old _ _ (show ¬ rc=bb by omega) hr6
 have gg6:Grow h h6:=m6.g
 have gg7:Grow h h7:=gg6.own u7 fun z hz=>by omega
 have hbt:t'.bulk≤t.bulk:=by rw[ht']; show t.name.length+insB l3+outsB nos≤t.name.length+insB t.ins+outsB t.outs; omega
 have raw:RawT h7 t' v3 w6:=by
  rw[ht']
  refine⟨qi3.grow gg7,⟨new,(s6.upd u7 fun b o sp n c z=>by have:=in6 b o sp n c z; omega).sl,q6.grow gg7⟩,fun z h'=>rc_told s6 (.inl ?_) h'⟩
  rintro rfl
  have:=q6.len
  exact z (List.length_eq_zero_iff.1 this.symm)
 obtain⟨h8,vi',vo',g8,k8,e8⟩:=eCopyTask raw (by omega)
 have hr8:=g8.old _ _ hr7
 have ok8:ones (kc t' vi' vo')=true:=k8.taskR.ones
 obtain⟨h9,hh9⟩ : ∃ h9,h9=h8.put rc (.cells (kc t' vi' vo') 25 0 false):=⟨_,rfl⟩
 have hg9:h9.get rc=some (.cells (kc t' vi' vo') 25 0 false):=by rw[hh9]; exact H.put_self hr8
 have hw9:h8.write ⟨rc,0,none⟩ (kc t' vi' vo')=some h9:=by rw[hh9]; exact H.write_all hr8 (by rw[zc25_len]; rfl) ok8
 have u9:Upd (fun z=>z=rc) h8 h9:=by rw[hh9]; exact (Upd.refl (fun z=>z=rc) h8).put (.inl rfl) (H.get_lt hr8) _
 have n37:=u6.next
 have n67:=u7.next
 have n89:=u9.next
 refine⟨h9,t',vi',vo',(gg7.trans g8).own u9 fun z hz=>by omega,hbt,(k8.upd u9 fun b hb=>by have:=hb.1; omega).mono fun b hb=>⟨by have:=hb.1; have:=gg7.next; omega,by have:=hb.2; omega⟩,?_⟩
 rw[en,F19.j4_eq]
 refine e6.trans ?_
 rw[F19.j15_eq,fa25_3,go_ok,st23 _ _ _ one6.2.1,one6.2.2,hw7,ofU_some,go_ok,(Row.of hg7).get25 rfl,go_ok,e8,go_ok,st25 _ _ _ rfl,cells_agg,hw9,ofU_some,go_ok]
 exact kfn_cell1 (ty:=25) (by kernel_rfl) ((Row.of hg9).get25 rfl)
theorem ePrints {h:H} {t:TK} {vi vo x1:Value} {ks:List (List UInt8)} (q:TaskR h t vi vo) (vt:t.outs≠[]→∀ h',rc (.ok vo h') (some vo)=true) (kr:KeysR h x1 ks) (pt:PT h) (gt:GT h) (few:t.bulk≤4000000) (fk:ks.length≤1000000) :
  ∃ h',Grow h h'∧CLM (.f 18) [.agg ⟨kc t vi vo⟩,x1] h = .ok (.bool true) h':=by
 obtain⟨eb,gb,r⟩:=box_row 25 (kc t vi vo) h
 obtain⟨h1,hh1⟩ : ∃ h1,h1=h.alloc (.cells (kc t vi vo) 25 0 false):=⟨_,rfl⟩
 rw[← hh1] at eb gb r
 have q1:=q.grow gb
 obtain⟨h2,vi2,vo2,g2,k2',e2⟩:=eCopyTask (⟨q1.ins.str,q1.outs,vt⟩ : RawT h1 t vi vo) few
 have g12:=gb.trans g2
 obtain⟨h3,v3,g3,m3,e3,_,_⟩:=eKlaid (kr.grow g12) fk
 have g13:=g12.trans g3
 have k3':=k2'.grow g3
 obtain⟨h4,g4,r4,e4⟩:=spill25 (kc t vi2 vo2) rfl k3'.taskR.ones h3
 have g14:=g13.trans g4
 have k4:=k3'.grow g4
 have m4:=m3.grow g4
 obtain⟨h5,g5,e5⟩:=eFp k4.taskR m4.keys (pt.grow g14) (gt.grow g14) few fk
 have g15:=g14.trans g5
 have hfk:(fpK t ks).length=32:=by
  unfold fpK
  repeat' split
  ·exact sha_len _
  ·rfl
  ·rfl
 obtain⟨h6,g6,y6,e6⟩:=spill32 (byteVals (fpK t ks)) (by rw[bv_len,hfk]) (bv_ones _) h5
 have g16:=g15.trans g6
 have r6:=r.grow (((((g2.trans g3).trans g4).trans g5).trans g6))
 obtain⟨h7,g7,e7⟩:=eRfp (q.grow g16) (kr.grow g16) few fk
 have g17:=g16.trans g7
 obtain⟨h8,g8,y8,e8⟩:=spill32 (byteVals (fpK t ks)) (by rw[bv_len,hfk]) (bv_ones _) h7
 have g18:=g17.trans g8
 have y6':=(g7.trans g8).old _ _ y6
 have r48:Row h8 h3.next 0 (kc t vi2 vo2):=r4.grow (((g5.trans g6).trans g7).trans g8)
 have r8:=r6.grow (g7.trans g8)
 have g48:=((g5.trans g6).trans g7).trans g8
 have k8:=k4.grow g48
 obtain⟨h9,g9,e9⟩:=eSameTask k8.taskR (q.grow g18) few
 rw[sameT_self] at e9
 have k9:=k8.grow g9
 obtain⟨h10,g10,e10⟩:=eKept k9 few
 have m10:=m4.grow ((g48.trans g9).trans g10)
 have e11:=eIntact m10 (kr.grow ((g18.trans g9).trans g10)) fk
 refine⟨h10,(g18.trans g9).trans g10,?_⟩
 rw[cM18,F18.eq,eb,go_ok,r.get25 rfl,go_ok,e2,go_ok,e3,go_ok,e4,r4.get25 rfl,go_ok,e5,go_ok,xextract_0,go_ok,xextract_1,go_ok,e6,r6.get25 rfl,go_ok,e7,go_ok,xextract_0,go_ok,xextract_1,go_ok,e8,ldKey y6' (by rw[bv_len,hfk]),go_ok,ldKey y8 (by rw[bv_len,hfk]),go_ok,keqK hfk hfk,go_ok,ifV_dec,if_pos rfl,xeql,go_ok,ifV_dec,if_pos rfl,r48.get25 rfl,go_ok,r8.get25 rfl,go_ok,e9,go_ok,ifV_t,(r48.grow g9).get25 rfl,go_ok,e10,go_ok,ifV_t,e11,go_ok]
def oneK:TK:=⟨[97],9,[[120]],[([111],⟨2,[120],0,0,.nil⟩)]⟩
theorem eOne (h:H):∃ h' vi vo,Grow h h'∧TaskR h' oneK vi vo∧(∀ h'',rc (.ok vo h'') (some vo)=true)∧CLM (.f 57) [] h = .ok (.agg ⟨kc oneK vi vo⟩) h':=by
 obtain⟨h1,hh1⟩ : ∃ h1,h1=h.alloc (.cells zc25 25 0 false):=⟨_,rfl⟩
 have g1:Grow h h1:=by rw[hh1]; exact (Grow.refl h).alloc _
 have y1:h1.get h.next=some (.cells zc25 25 0 false):=by rw[hh1]; exact H.alloc_self _ _
 obtain⟨h2,hh2⟩ : ∃ h2,h2=h1.alloc (.cells [.string ⟨⟨[120]⟩⟩] 9 0 false):=⟨_,rfl⟩
 have g2:Grow h1 h2:=by rw[hh2]; exact (Grow.refl h1).alloc _
 have y2:h2.get h1.next=some (.cells [.string ⟨⟨[120]⟩⟩] 9 0 false):=by rw[hh2]; exact H.alloc_self _ _
 have e2:xbuildSlice Tryz.prog 22 1 [(0,.string ⟨#[120]⟩)] h1 = .ok (.slice (some ⟨h1.next,0,none⟩) 1 1) h2:=by rw[hh2]; kernel_rfl
 obtain⟨c,hc⟩ : ∃ c:List Value,c = .string ⟨⟨[111]⟩⟩::tc 2 [120] 0 0 (.slice none 0 0):=⟨_,rfl⟩
 obtain⟨h3,hh3⟩ : ∃ h3,h3=h2.alloc (.cells c 48 0 false):=⟨_,rfl⟩
 have g3:Grow h2 h3:=by rw[hh3]; exact (Grow.refl h2).alloc _
 have y3:h3.get h2.next=some (.cells c 48 0 false):=by rw[hh3]; exact H.alloc_self _ _
 have b1:xbuild Tryz.prog 46 [(0,.int .i64 2),(1,.string ⟨#[120]⟩)] h2 = .ok (.agg ⟨tc 2 [120] 0 0 (.slice none 0 0)⟩) h2:=by kernel_rfl
 have b2:xbuild Tryz.prog 48 [(0,.string ⟨#[111]⟩),(1,.agg ⟨tc 2 [120] 0 0 (.slice none 0 0)⟩)] h2 = .ok (.agg ⟨c⟩) h2:=by rw[hc]; kernel_rfl
 have e3:xbuildSlice Tryz.prog 23 1 [(0,.agg ⟨c⟩)] h2 = .ok (.slice (some ⟨h2.next,0,none⟩) 1 1) h3:=by rw[hh3,hc]; kernel_rfl
 have b3:xbuild Tryz.prog 25 [(0,.string ⟨#[97]⟩),(1,.int .i64 9),(2,.slice (some ⟨h1.next,0,none⟩) 1 1),(3,.slice (some ⟨h2.next,0,none⟩) 1 1)] h3 = .ok (.agg ⟨kc oneK (.slice (some ⟨h1.next,0,none⟩) 1 1) (.slice (some ⟨h2.next,0,none⟩) 1 1)⟩) h3:=by kernel_rfl
 have y13:=(g2.trans g3).old _ _ y1
 obtain⟨h4,hh4⟩ : ∃ h4,h4=h3.put h.next (.cells (kc oneK (.slice (some ⟨h1.next,0,none⟩) 1 1) (.slice (some ⟨h2.next,0,none⟩) 1 1)) 25 0 false):=⟨_,rfl⟩
 have y4:h4.get h.next=some (.cells (kc oneK (.slice (some ⟨h1.next,0,none⟩) 1 1) (.slice (some ⟨h2.next,0,none⟩) 1 1)) 25 0 false):=by rw[hh4]; exact H.put_self y13
 have u4:Upd (fun z=>z=h.next) h3 h4:=by rw[hh4]; exact (Upd.refl (fun z=>z=h.next) h3).put (.inl rfl) (H.get_lt y13) _
 have gg:Grow h h4:=((g1.trans g2).trans g3).own u4 fun z hz=>by omega
 have l1:=H.get_lt y1
 have n12:=g2.next
 have y24:h4.get h1.next=some (.cells [.string ⟨⟨[120]⟩⟩] 9 0 false):=u4.old _ _ (by omega) (g3.old _ _ y2)
 have y34:h4.get h2.next=some (.cells c 48 0 false):=u4.old _ _ (by omega) y3
 have hw:h3.write ⟨h.next,0,none⟩ (kc oneK (.slice (some ⟨h1.next,0,none⟩) 1 1) (.slice (some ⟨h2.next,0,none⟩) 1 1))=some h4:=by rw[hh4]; exact H.write_all y13 (by rw[zc25_len]; rfl) rfl
 refine⟨h4,.slice (some ⟨h1.next,0,none⟩) 1 1,.slice (some ⟨h2.next,0,none⟩) 1 1,gg,⟨⟨[],?_,.inr ⟨h1.next,0,none,rfl,Row.of y24,.inr ⟨rfl,_,_,_,_,y24,fun z=>by cases z⟩⟩⟩,⟨[c],⟨?_,.inr ⟨h2.next,0,none,1,rfl,by rw[List.flatten_cons,List.flatten_nil,List.append_nil]; exact Row.of y34⟩⟩,⟨tc 2 [120] 0 0 (.slice none 0 0),[],by rw[hc],⟨.slice none 0 0,[],rfl,⟨GoodR.nil,.inl ⟨.inl rfl,rfl⟩⟩,rfl⟩,rfl⟩⟩,rfl,rfl⟩,fun h''=>rc_sl0 _ _ _ _,?_⟩
 ·exact GoodR.one rfl rfl
 ·exact GoodR.one (by rw[hc]; rfl) (by rw[hc]; rfl)
 ·rw[cM57,F57.eq,al25,go_ok,← hh1,e2,go_ok,b1,go_ok,b2,go_ok,e3,go_ok,b3,go_ok,st25 _ _ _ rfl,cells_agg,hw,ofU_some,go_ok]
  exact kfn_cell1 (ty:=25) (by kernel_rfl) ((Row.of y4).get25 rfl)
theorem oneK_bulk:oneK.bulk≤4000000:=by decide
def k7:List UInt8:=7::List.replicate 31 0
theorem eTold {h:H} (pt:PT h) (gt:GT h):∃ h',Grow h h'∧CLM (.f 17) [] h = .ok (.bool true) h':=by
 obtain⟨h1,vi,vo,g1,q1,v1,e1⟩:=eOne h
 have b1:xbuild Tryz.prog 32 [(0,.int .u8 7)] h1 = .ok (.agg ⟨byteVals k7⟩) h1:=by kernel_rfl
 obtain⟨h2,hh2⟩ : ∃ h2,h2=h1.alloc (.cells (byteVals k7) 32 0 false):=⟨_,rfl⟩
 have g2:Grow h1 h2:=by rw[hh2]; exact (Grow.refl h1).alloc _
 have y2:h2.get h1.next=some (.cells (byteVals k7) 32 0 false):=by rw[hh2]; exact H.alloc_self _ _
 have e2:xbuildSlice Tryz.prog 26 1 [(0,.agg ⟨byteVals k7⟩)] h1 = .ok (.slice (some ⟨h1.next,0,none⟩) 1 1) h2:=by rw[hh2]; kernel_rfl
 have kr:KeysR h2 (.slice (some ⟨h1.next,0,none⟩) 1 1) [k7]:=⟨⟨GoodR.one rfl rfl,.inr ⟨h1.next,0,none,1,rfl,Row.of y2⟩⟩,fun k hk=>by rw[List.mem_singleton.1 hk]; rfl⟩
 have g12:=g1.trans g2
 obtain⟨h3,g3,e3⟩:=ePrints (q1.grow g2) (fun _=>v1) kr (pt.grow g12) (gt.grow g12) oneK_bulk (by simp)
 have g13:=g12.trans g3
 obtain⟨h4,vi4,vo4,g4,q4,v4,e4⟩:=eOne h3
 have g14:=g13.trans g4
 have kn:KeysR h4 (.slice none 0 0) []:=⟨⟨GoodR.nil,.inl ⟨.inl rfl,rfl⟩⟩,fun k hk=>by cases hk⟩
 obtain⟨h5,g5,e5⟩:=ePrints q4 (fun _=>v4) kn (pt.grow g14) (gt.grow g14) oneK_bulk (by simp)
 refine⟨h5,g14.trans g5,?_⟩
 rw[cM17,F17.eq,e1,go_ok,b1,go_ok,e2,go_ok,e3,go_ok,ifV_t,e4,go_ok,e5,go_ok]
end Go.Proofs.YtbfgadekkemlcaaGreatDoor.K
namespace Go.Proofs.YtbfgadekkemlcaaGreatDoor.K
open Go Go.ChangeShapes Go.WideShapes Go.ChangeAt Go.RowKit
theorem decF_more:∀ (f n:Nat),1≤f→n<10 ^ f→decF (f+1) n=decF f n
 |0,n,h,_=>by omega
 |f+1,n,_,h=>by
  conv=>lhs; unfold decF
  conv=>rhs; unfold decF
  by_cases h10:n<10
  ·rw[if_pos h10,if_pos h10]
  ·rw[if_neg h10,if_neg h10]
   have hf:1≤f:=by
    rcases Nat.eq_zero_or_pos f with rfl|q
    ·simp at h; omega
    ·exact q
   rw[decF_more f (n / 10) hf (by rw[Nat.div_lt_iff_lt_mul (by omega)]; rw[Nat.pow_succ] at h; exact h)]
theorem decF_lenV:∀ f n:Nat,(decF f n).length≤f
 |0,_=>Nat.le_refl _
 |f+1,n=>by
  unfold decF
  split
  ·simp
  ·have:=decF_lenV f (n / 10); rw[List.length_append,List.length_singleton]; omega
theorem decL_lt {n:Nat} (h:n<10):decL n=[UInt8.ofNat (48+n)]:=by
 unfold decL decF; rw[if_pos h]
theorem decL_ge {n:Nat} (h:10≤n) (hn:n≤9223372036854775807):decL n=decL (n / 10)++[UInt8.ofNat (48+n % 10)]:=by
 have h1:decL n=decF 19 (n / 10)++[UInt8.ofNat (48+n % 10)]:=by
  show decF 20 n=_
  conv=>lhs; unfold decF
  rw[if_neg (by omega)]
 rw[h1,← decF_more 19 (n / 10) (by omega) (by omega)]; rfl
structure GrX (w w':World):Prop where
 os:w'.os=w.os
 tape:w'.tape=w.tape
 output:w'.output=w.output
 size:w.heap.size≤w'.heap.size
 old:∀ i,i<w.heap.size→w'.heap[i]? = w.heap[i]?
theorem GrX.refl (w:World):GrX w w:=⟨rfl,rfl,rfl,Nat.le_refl _,fun _ _=>rfl⟩
theorem GrX.alloc {w w':World} (h:GrX w w') (o:Obj):GrX w (w'.alloc o):=by
 refine⟨h.os,h.tape,h.output,?_,fun i hi=>?_⟩
 ·show w.heap.size≤(w'.heap.push o).size
  rw[Array.size_push]; have:=h.size; omega
 ·show (w'.heap.push o)[i]? = _
  rw[Array.getElem?_push,if_neg (by have:=h.size; omega)]
  exact h.old i hi
theorem GrX.drew {w w':World} (h:GrX w w'):GrX w w'.drew:=⟨h.os,h.tape,h.output,h.size,h.old⟩
theorem GrX.trans {a b c:World} (h:GrX a b) (k:GrX b c):GrX a c:=⟨k.os.trans h.os,k.tape.trans h.tape,k.output.trans h.output,Nat.le_trans h.size k.size,fun i hi=>(k.old i (Nat.lt_of_lt_of_le hi h.size)).trans (h.old i hi)⟩
theorem dec_conv (w w':World) (c:Int) (g:GrX (w.alloc (.cells #[.int .u8 c] 5)) w'):(convert 71 9 (.slice (some ⟨w.heap.size,0,none⟩) 1 1)).run Tryz.prog w' = .ok (.string ⟨⟨[UInt8.ofNat c.toNat]⟩⟩) w':=by
 rw[run_convert_bytes_string _ 71 9 5 _ _ _ (by kernel_rfl) (by kernel_rfl) (by kernel_rfl)]
 refine run_bytesToString _ _ 1 1 [c] ?_
 have hb:w'.heap[w.heap.size]? = some (.cells #[.int .u8 c] 5):=by
  rw[g.old _ (by show _<(w.heap.push _).size; rw[Array.size_push]; omega)]
  show (w.heap.push _)[w.heap.size]? = _
  simp
 refine Kx.rLoadCells w.heap.size 0 [.int .u8 c] 1 rfl fun j v hv=>?_
 cases j with
 |zero=>
  cases hv
  unfold World.cell?
  simp[hb]
 |succ j=>simp at hv
theorem dec_byte (n:Nat):UInt8.ofNat (IntKind.u8.wrap (IntKind.i64.wrap (48+(n:Int).tmod 10))).toNat=UInt8.ofNat (48+n % 10):=by
 have h:(n:Int).tmod 10=((n % 10:Nat):Int):=by
  rw[Int.tmod_eq_emod_of_nonneg (by omega)]; omega
 rw[h]
 have h2:IntKind.u8.wrap (IntKind.i64.wrap (48+((n % 10:Nat):Int)))=((48+n % 10:Nat):Int):=by
  simp[IntKind.wrap,IntKind.bits,IntKind.signed]; omega
 rw[h2,Int.toNat_natCast]
theorem dec_join (a b:List UInt8):((⟨⟨a⟩⟩ : ByteArray)++⟨⟨b⟩⟩)=⟨⟨a++b⟩⟩:=by
 apply ByteArray.ext
 rw[ByteArray.data_append]
 apply Array.toList_inj.mp
 rw[Array.toList_append]
theorem dec_calls (n:Nat) (hn:n≤9223372036854775807):∀ w:World,Calls Tryz.prog 121 #[.int .i64 (n:Int)] w fun e w'=>e = .returned (.string ⟨⟨decL n⟩⟩)∧GrX w w':=by
 induction n using Nat.strongRecOn with
 |ind n ih=>
  intro w
  by_cases h:n<10
  ·have conv:∀ (w:World) (c:Int),(convert 71 9 (.slice (some ⟨w.heap.size,0,none⟩) 1 1)).run Tryz.prog (w.alloc (.cells #[.int .u8 c] 5)) = .ok (.string ⟨⟨[UInt8.ofNat c.toNat]⟩⟩) (w.alloc (.cells #[.int .u8 c] 5)):=fun w c=>dec_conv w _ c (GrX.refl _)
   go_enter Tryz.func121,Tryz.ntmps121
   go_wp2
   all_goals go_ret
   exact⟨by rw[decL_lt h]; rfl,(GrX.refl _).alloc _⟩
  ·have conv:=dec_conv
   have conv0:∀ (w:World) (c:Int),(convert 71 9 (.slice (some ⟨w.heap.size,0,none⟩) 1 1)).run Tryz.prog (w.alloc (.cells #[.int .u8 c] 5)) = .ok (.string ⟨⟨[UInt8.ofNat c.toNat]⟩⟩) (w.alloc (.cells #[.int .u8 c] 5)):=fun w c=>dec_conv w _ c (GrX.refl _)
   have conv2:∀ (w:World) (c:Int),(convert 71 9 (.slice (some ⟨w.heap.size,0,none⟩) 1 1)).run Tryz.prog (w.alloc (.cells #[.int .u8 c] 5)).drew = .ok (.string ⟨⟨[UInt8.ofNat c.toNat]⟩⟩) (w.alloc (.cells #[.int .u8 c] 5)).drew:=fun w c=>dec_conv w _ c (GrX.refl _).drew
   have conv1:∀ (w w':World) (c:Int),GrX (w.alloc (.cells #[.int .u8 c] 5)).drew w'→(convert 71 9 (.slice (some ⟨w.heap.size,0,none⟩) 1 1)).run Tryz.prog w' = .ok (.string ⟨⟨[UInt8.ofNat c.toNat]⟩⟩) w':=fun w w' c g=>dec_conv w w' c ⟨g.os,g.tape,g.output,g.size,g.old⟩
   have ih':∀ w:World,Calls Tryz.prog 121 #[.int .i64 (IntKind.i64.wrap ((n:Int) / 10))] w fun e w'=>∃ s:ByteArray,e = .returned (.string s)∧s.size≤20∧s=⟨⟨decL (n / 10)⟩⟩∧GrX w w':=by
    have hq:IntKind.i64.wrap ((n:Int) / 10)=((n / 10:Nat):Int):=by
     simp[IntKind.wrap,IntKind.bits,IntKind.signed]; omega
    rw[hq]
    exact fun w=>(ih (n / 10) (by omega) (by omega) w).mono fun e w' he=>⟨_,he.1,decF_lenV 20 _,rfl,he.2⟩
   have hlen:¬ (9223372036854775807<(decL (n / 10)).length+1):=by have:=decF_lenV 20 (n / 10); unfold decL; omega
   clear ih
   go_enter Tryz.func121,Tryz.ntmps121
   go_wp2_with fail
   go_region_with (first|(go_at_call 121; refine (ih' _).mono ?_; rintro e w' ⟨s,rfl,hs,hd,hg⟩)|(rw[if_neg hlen])|(rw[conv _ _ _ hg]; go_simp)|(rw[conv1 _ _ _ hg]; go_simp))
   all_goals go_wp2
   all_goals go_ret
   all_goals clear ih'
   all_goals subst hd
   all_goals refine⟨Eq.trans (b:=Ending.returned (.string ((⟨⟨decL (n / 10)⟩⟩ : ByteArray)++⟨⟨[UInt8.ofNat (IntKind.u8.wrap (IntKind.i64.wrap (48+(n:Int).tmod 10))).toNat]⟩⟩))) rfl (by rw[decL_ge (by omega) hn,dec_byte,dec_join]),?_⟩
   all_goals first
    |exact hg.alloc _
    |exact ((GrX.refl w).alloc _).drew.trans hg
    |exact ((GrX.refl w).alloc _).trans hg
    |exact GrX.alloc (w:=w) (w':=w') ⟨hg.os,hg.tape,hg.output,hg.size,hg.old⟩ _
end Go.Proofs.YtbfgadekkemlcaaGreatDoor.K
namespace Go.Proofs.YtbfgadekkemlcaaGreatDoor.K
open Go Go.Kx
set_option maxRecDepth 100000
theorem mixed:Tryz.prog.follows .mixedOrders=true:=by kernel_rfl
theorem RL.one' {ι:Io} {v:Value} {l:List Value} (h:RL ι [v] l):∃ v',l=[v']∧R ι v v':=by
 cases h with
 |cons h hl=>cases hl; exact⟨_,rfl,h⟩
theorem RL.two' {ι:Io} {u v:Value} {l:List Value} (h:RL ι [u,v] l):∃ u' v',l=[u',v']∧R ι u u'∧R ι v v':=by
 cases h with
 |cons h hl=>obtain⟨v',rfl,k⟩:=RL.one' hl; exact⟨_,_,rfl,h,k⟩
theorem noEsc_ok (args args':List Value) (ι:Io) (h:H) (w:World) (s:Sim Tryz.prog ι h w) (ha:RL ι args args'):SN Tryz.prog ι w (primM 140 args h) (callFunc 140 ⟨args'⟩):=by
 unfold primM
 simp only
 split
 ·obtain⟨v',rfl,hv⟩:=RL.one' ha
  refine SN.same s ?_ hv
  rw[run_callFunc_extern Tryz.func140 (by kernel_rfl) (by kernel_rfl) (by kernel_rfl) (e:=Extern.AbiNoEscape.same) (by kernel_rfl)]
  rfl
 ·trivial
theorem idxB_ok (args args':List Value) (ι:Io) (h:H) (w:World) (s:Sim Tryz.prog ι h w) (ha:RL ι args args'):SN Tryz.prog ι w (primM 199 args h) (callFunc 199 ⟨args'⟩):=by
 unfold primM
 simp only
 split
 ·obtain⟨u',v',rfl,hu,hv⟩:=RL.two' ha
  rw[hu.flatEq rfl,hv.flatEq rfl]
  refine SN.same s ?_ (.int _ _)
  rw[run_callFunc_extern Tryz.func199 (by kernel_rfl) (by kernel_rfl) (by kernel_rfl) (e:=Extern.BytealgIndexByte.indexByte) (by kernel_rfl),Lib.run_indexByteString]
  rfl
 ·trivial
theorem cntS_ok (args args':List Value) (ι:Io) (h:H) (w:World) (s:Sim Tryz.prog ι h w) (ha:RL ι args args'):SN Tryz.prog ι w (primM 203 args h) (callFunc 203 ⟨args'⟩):=by
 unfold primM
 simp only
 split
 ·obtain⟨u',v',rfl,hu,hv⟩:=RL.two' ha
  rw[hu.flatEq rfl,hv.flatEq rfl]
  refine SN.same s ?_ (.int _ _)
  rw[run_callFunc_extern Tryz.func203 (by kernel_rfl) (by kernel_rfl) (by kernel_rfl) (e:=Extern.BytealgCount.count) (by kernel_rfl),Lib.run_countString]
  rfl
 ·trivial
theorem ones_digits:∀ (n t:Nat) (acc:Array Value),ones acc.toList=true→ones (Extern.BytealgMakeNoZero.digits n t acc).toList=true
 |0,_,_,h=>h
 |n+1,t,acc,h=>by
  rw[Extern.BytealgMakeNoZero.digits]
  refine ones_digits n _ _ ?_
  rw[Array.toList_push]
  have q:∀ l:List Value,ones l=true→ones (l++[.int .u8 (Int.ofNat (t % 256))])=true:=by
   intro l hl
   induction l with
   |nil=>rfl
   |cons v l ih=>simp only[ones,List.cons_append,Bool.and_eq_true] at hl ⊢; exact⟨hl.1,ih hl.2⟩
  exact q _ h
theorem run_mkNZ {P:Program} (w:World) (ps:Array TypeId) (t e:TypeId) (ht:P.underlying t=some (.slice e)) (n:Nat) (hn:n≤281474976710656) :
  ∃ cs:Array Value,(Extern.BytealgMakeNoZero.makeNoZero ps #[t] #[.int .i64 n]).run P w = .ok (.slice (some ⟨w.heap.size,0,none⟩) n cs.size) (w.drew.drew.alloc (.cells cs e))∧ones cs.toList=true:=by
 have hdef:Extern.BytealgMakeNoZero.makeNoZero ps #[t] #[.int .i64 n] =
   (do
    let .slice elem ← underlying t|stuck "bytealg.MakeNoZero: slice type expected"
    if (n:Int)<0||(n:Int) > 2 ^ 48 then runtimePanic (.error "makeslice: len out of range")
    let cap ← choose (.appendCap (n:Int).toNat 0 elem)
    askRoom cap
    let bytes ← choose (.extern "internal/bytealg.MakeNoZero.bytes" 0)
    let a ← newRow elem (Extern.BytealgMakeNoZero.digits cap bytes #[])
    pure (.slice (some a) (n:Int).toNat cap)):=rfl
 refine⟨Extern.BytealgMakeNoZero.digits (grownCap w n 0 e) ((Question.extern "internal/bytealg.MakeNoZero.bytes" 0).cut (w.tape (w.drawn+1) (.extern "internal/bytealg.MakeNoZero.bytes" 0))) #[],?_,ones_digits _ _ _ rfl⟩
 rw[hdef]
 have h1:¬ (n:Int)<0:=by omega
 have h2:¬ (281474976710656:Int)<(n:Int):=by omega
 simp[run_underlying ht,h1,h2,Question.forced,newRow,Lib.size_digits,grownCap]
theorem mkNZ_ok (args args':List Value) (ι:Io) (h:H) (w:World) (s:Sim Tryz.prog ι h w) (ha:RL ι args args'):SN Tryz.prog ι w (primM 171 args h) (callFunc 171 ⟨args'⟩):=by
 unfold primM
 simp only
 split
 ·rename_i n
  cases hb:Nat.ble n 17592186044416 with
  |false=>trivial
  |true=>
   have hn:n≤17592186044416:=Nat.le_of_ble_eq_true hb
   obtain⟨v',rfl,hv⟩:=RL.one' ha
   rw[hv.flatEq rfl]
   obtain⟨cs,hr,ho⟩:=run_mkNZ (P:=Tryz.prog) w #[3] 71 5 (by kernel_rfl) n (by omega)
   have hrun:(callFunc 171 ⟨[.int .i64 (.ofNat n)]⟩).run Tryz.prog w = .ok (.value (.slice (some ⟨w.heap.size,0,none⟩) n cs.size)) (w.drew.drew.alloc (.cells cs 5)):=by
    rw[run_callFunc_extern Tryz.func171 (by kernel_rfl) (by kernel_rfl) (by kernel_rfl) (e:=Extern.BytealgMakeNoZero.makeNoZero #[3] #[71]) (by kernel_rfl)]
    show ((Extern.BytealgMakeNoZero.makeNoZero #[3] #[71] #[.int .i64 (n:Int)]).run Tryz.prog w).andThen _=_
    rw[hr]
    rfl
   have s2:=s.drawn (w.drawn+1+1)
   obtain⟨h1,h2⟩:=s2.alloc (.cells [] 5 0 true) (.cells cs 5 (0,0)) ⟨w.heap.size,0,cs.size,cs.size,1,true⟩ rfl (by
    intro ι' w' hx _ hat
    refine⟨cs.toList,0,0,hat,by simp,by simp,.nil,fun q=>(by cases q),fun _=>(by kernel_rfl),⟨fun _=>Nat.le_refl _,fun _=>.inl (Nat.le_refl _)⟩,rfl,fun _=>by simpa using ho⟩)
   show SN Tryz.prog ι w (.ok (.slice (some ⟨h.next,0,none⟩) n 0) (h.alloc (.cells [] 5 0 true))) _
   unfold SN
   simp only
   rw[hrun]
   refine⟨_,(Step.drawn ι w _).trans h2,h1,?_⟩
   have:=R.slcO (ι:=ι.add h.next ⟨w.heap.size,0,cs.size,cs.size,1,true⟩) (b:=h.next) (o:=0) (n:=n) (c:=0) (Io.add_self _ _ _) (by simp)
   simpa using this
 ·trivial
theorem GrX.step {ι:Io} {w w':World} (g:GrX w w'):Step ι w ι w':=
 ⟨Ext.refl _,fun _ _ h h'=>(by rw[h] at h'; cases h'),g.os,g.tape,g.output,g.size,fun c hc _=>g.old c hc,fun c hc=>.inr (by rw[g.old c hc])⟩
theorem GrX.sim {P:Program} {ι:Io} {h:H} {w w':World} (g:GrX w w') (s:Sim P ι h w):Sim P ι h w':=
 ⟨fun b e he=>⟨(s.dom b e he).1,Nat.lt_of_lt_of_le (s.dom b e he).2 g.size⟩,fun b x hx hl=>let ⟨e,he,hb⟩:=s.blk b x hx hl; ⟨e,he,hb.mono (Ext.refl _) (g.old _ (s.dom b e he).2)⟩,s.inj⟩
theorem dec_enter (args:Array Value) (w:World):(callFunc 121 args).run Tryz.prog w = .ok (.enter 121 args) w:=entersB_ok (by kernel_rfl) args w
theorem dec_ok (args args':List Value) (ι:Io) (h:H) (w:World) (s:Sim Tryz.prog ι h w) (ha:RL ι args args'):SN Tryz.prog ι w (primM 121 args h) (callFunc 121 ⟨args'⟩):=by
 unfold primM
 simp only
 split
 ·rename_i n
  cases hb:Nat.ble n 9223372036854775807 with
  |false=>trivial
  |true=>
   have hn:n≤9223372036854775807:=Nat.le_of_ble_eq_true hb
   obtain⟨v',rfl,hv⟩:=RL.one' ha
   rw[hv.flatEq rfl]
   have hc:=dec_calls n hn w
   show SN Tryz.prog ι w (.ok (.string ⟨⟨decL n⟩⟩) h) _
   unfold SN
   simp only
   have hc':Upon Tryz.prog (fun v' w'=>v' = .string ⟨⟨decL n⟩⟩∧GrX w w') (fun _ _=>False) ((callFunc 121 ⟨[.int .i64 (.ofNat n)]⟩).run Tryz.prog w):=by
    rw[dec_enter]
    exact hc.mono fun e w' he=>by rw[he.1]; exact⟨rfl,he.2⟩
   exact hc'.mono (fun v' w' hv=>⟨ι,hv.2.step,hv.2.sim s,by rw[hv.1]; exact .string _⟩) (fun _ _ q=>q)
 ·trivial
theorem primM_ok:PrOk Tryz.prog 7 primM:=by
 intro f args args' ι h w hg s ha
 by_cases h1:f=140
 ·subst h1; exact noEsc_ok args args' ι h w s ha
 by_cases h2:f=171
 ·subst h2; exact mkNZ_ok args args' ι h w s ha
 by_cases h3:f=199
 ·subst h3; exact idxB_ok args args' ι h w s ha
 by_cases h4:f=203
 ·subst h4; exact cntS_ok args args' ι h w s ha
 by_cases h5:f=121
 ·subst h5; exact dec_ok args args' ι h w s ha
 have e:primM f args h = .bad:=by
  unfold primM
  split<;>first|rfl|contradiction
 rw[e]
 trivial
theorem tabM_ok:∀ f fn an,tabM f=some (fn,an)→fnOk Tryz.prog 7 an f fn:=by
 intro f fn an h
 unfold tabM at h
 split at h
 all_goals first
  |cases h
  |exact tab_ok _ _ _ h
theorem CLM_ok:ClOk Tryz.prog 7 CLM:=clS_ok mixed tabM_ok primM_ok
end Go.Proofs.YtbfgadekkemlcaaGreatDoor.K
namespace Go.Proofs.YtbfgadekkemlcaaGreatDoor.K
open Go Go.Kx Go.ChangeShapes Go.WideShapes Go.ChangeAt Go.RowKit
set_option maxRecDepth 100000
theorem row_of_cellsC {W:World} {base:Nat} {a:Addr} {n:Nat} {cs:List Value} (hn:0<n) (h:W.cells? base a n=some cs) :
  a.spot=none∧lv W a.block=true∧∃ c el f,(hOf W).get a.block=some (.cells c el f false)∧a.off+n≤c.length∧(c.drop a.off).take n=cs.map (cvC (lv W)):=by
 obtain⟨_,hlen,hc⟩:=World.cells?_some h
 have h0:=hc 0 hn
 have a0:a.add 0=a:=by unfold Addr.add; rw[if_pos rfl]
 rw[a0,List.getElem?_eq_getElem (by omega:0<cs.length)] at h0
 unfold World.cell? at h0
 split at h0
 ·rename_i c el lh hb
  have hs:a.spot=none:=by
   cases q:a.spot with
   |none=>rfl
   |some k=>rw[q] at h0; simp at h0
  obtain⟨l⟩:=c
  have hl:lv W a.block=true:=by unfold lv lvO; rw[hb]
  refine⟨hs,hl,l.map (cvC (lv W)),el,_,by rw[hOf_get,hb]; rfl,?_⟩
  have hat:∀ i,i<n→l[a.off+i]? = cs[i]?:=by
   intro i hi
   rw[← hc i hi]
   unfold World.cell?
   have:(a.add i).block=a.block∧(a.add i).off=a.off+i∧(a.add i).spot=none:=by
    unfold Addr.add
    split
    ·rename_i h0; subst h0; exact⟨rfl,rfl,hs⟩
    ·exact⟨rfl,rfl,rfl⟩
   rw[this.1,hb,this.2.1,this.2.2]
   simp
  have hle:a.off+n≤l.length:=by
   have:=hat (n - 1) (by omega)
   rw[List.getElem?_eq_getElem (by omega:n - 1<cs.length)] at this
   have:=(List.getElem?_eq_some_iff.1 this).1
   omega
  refine⟨by rw[List.length_map]; exact hle,?_⟩
  rw[← List.map_drop,← List.map_take]
  congr 1
  apply List.ext_getElem?
  intro i
  rw[List.getElem?_take]
  split
  ·rename_i hi; rw[List.getElem?_drop]; exact hat i hi
  ·rename_i hi; rw[List.getElem?_eq_none (by omega)]
 ·cases h0
theorem flat_rows (c:List Value) (o E:Nat):∀ n,((List.range n).map fun i=>(c.drop (o+i*E)).take E).flatten=(c.drop o).take (n*E)
 |0=>by simp
 |n+1=>by
  rw[List.range_succ,List.map_append,List.flatten_append,flat_rows c o E n,Nat.add_mul,Nat.one_mul,List.take_add,List.drop_drop]
  simp
inductive F3 {α β γ:Type} (p:α→β→γ→Prop):List α→List β→List γ→Prop
 |nil:F3 p [] [] []
 |cons {x:α} {y:β} {z:γ} {l:List α} {m:List β} {n:List γ} (h:p x y z) (t:F3 p l m n):F3 p (x::l) (y::m) (z::n)
theorem F3.choose {α β γ:Type} {p:α→β→γ→Prop}:∀ (l:List α) (m:List β),l.length=m.length→(∀ (i:Nat) (x:α) (y:β),l[i]? = some x→m[i]? = some y→∃ z,p x y z)→∃ n,F3 p l m n
 |[],[],_,_=>⟨[],.nil⟩
 |x::l,y::m,hl,h=>by
  obtain⟨z,hz⟩:=h 0 x y rfl rfl
  obtain⟨n,hn⟩:=F3.choose l m (by simpa using hl) (fun i x y hx hy=>h (i+1) x y (by simpa using hx) (by simpa using hy))
  exact⟨z::n,.cons hz hn⟩
theorem F3.len {α β γ:Type} {p:α→β→γ→Prop} {l:List α} {m:List β} {n:List γ} (q:F3 p l m n):n.length=l.length:=by
 induction q with
 |nil=>rfl
 |cons h t ih=>rw[List.length_cons,List.length_cons,ih]
section
variable {HH:Type} {enc:TypeId × Value→HH} {W:World}
theorem read_sl {t e E fuel:Nat} (hu:Tryz.prog.underlying t=some (.slice e)) (hE:Tryz.prog.cellsOf e=E) (hpos:0<E) {cs:List Value} {x:DataW HH × List MemPlace} (h:DataW.trod enc Tryz.prog W 0 (fun _=>true) true fuel t cs=some x)
  (one:∀ {n cs' x'},n<fuel→DataW.trod enc Tryz.prog W 0 (fun _=>true) true n e cs'=some x'→ones (cs'.map (cvC (lv W)))=true) :
  ∃ v u rows,∃ ds:List (DataW HH),cs=[v]∧v.oneCell'=true∧(∃ a n c,v = .slice a n c)∧cvC (lv W) v=u∧cv (lv W) v=some u∧Sl E (hOf W) u rows∧Told70 u rows.length∧rows.length=ds.length∧Rows.uptoBulkAll ds+1≤Rows.uptoBulk x.1 ∧
   ∀ (i:Nat) (r:List Value) (d:DataW HH),rows[i]? = some r→ds[i]? = some d→∃ n cs' x',n<fuel∧r=cs'.map (cvC (lv W))∧DataW.trod enc Tryz.prog W 0 (fun _=>true) true n e cs'=some x'∧d=x'.1:=by
 rcases DataW.trod_slice hu h with ⟨rfl,rfl⟩|⟨a,len,cap,elems,rest,n,rfl,rfl,rfl,hb,hl,hm,hlen,hel,hsp,hns⟩
 ·exact⟨_,.slice none 0 0,[],[],rfl,rfl,⟨_,_,_,rfl⟩,rfl,rfl,⟨GoodR.nil,.inl ⟨Nul.nil,rfl⟩⟩,fun q=>(by simp at q),rfl,(by simp[Rows.uptoBulk,Rows.uptoBulkAll]),fun i r d hr=>by simp at hr⟩
 ·have bulk:Rows.uptoBulkAll (elems.map (·.1))+1≤Rows.uptoBulk (DataW.slice (elems.map (·.1)) (rest.map (·.1))):=by simp only[Rows.uptoBulk]; omega
  by_cases hc:cap=0
  ·have hl0:len=0:=by omega
   have he:elems=[]:=List.length_eq_zero_iff.1 (by omega)
   subst hc hl0 he
   obtain⟨b,o,sp⟩:=a
   cases sp with
   |none=>exact⟨_,.slice (some ⟨b,o,some 2⟩) 0 0,[],[],rfl,rfl,⟨_,_,_,rfl⟩,rfl,rfl,⟨GoodR.nil,.inl ⟨.inr ⟨b,o,1,rfl⟩,rfl⟩⟩,fun q=>(by simp at q),rfl,bulk,fun i r d hr=>by simp at hr⟩
   |some k=>exact⟨_,.slice (some ⟨b,o,some (k+3)⟩) 0 0,[],[],rfl,rfl,⟨_,_,_,rfl⟩,rfl,rfl,⟨GoodR.nil,.inl ⟨.inr ⟨b,o,k+2,rfl⟩,rfl⟩⟩,fun q=>(by simp at q),rfl,bulk,fun i r d hr=>by simp at hr⟩
  ·have hrow:∀ i,i<cap→∃ cs' x',W.cells? 0 (a.add (i*E)) E=some cs'∧DataW.trod enc Tryz.prog W 0 (fun _=>true) true n e cs'=some x'∧(i<len→elems[i]? = some x'):=by
    intro i hi
    rw[hE] at hel hsp
    by_cases hil:i<len
    ·have key:=hel i hil
     rw[List.getElem?_eq_getElem (by omega)] at key
     obtain⟨cs',h1,h2⟩:=Option.bind_eq_some_iff.1 key
     exact⟨cs',_,h1,h2,fun _=>List.getElem?_eq_getElem (by omega)⟩
    ·obtain⟨hr,hj⟩:=hsp rfl
     have key:=hj (i - len) (by omega)
     rw[show len+(i - len)=i by omega,List.getElem?_eq_getElem (by omega)] at key
     obtain⟨cs',h1,h2⟩:=Option.bind_eq_some_iff.1 key
     exact⟨cs',_,h1,h2,fun q=>absurd q hil⟩
   obtain⟨cs0,x0,z1,z2,_⟩:=hrow 0 (by omega)
   rw[Nat.zero_mul,show a.add 0=a by unfold Addr.add; rw[if_pos rfl]] at z1
   obtain⟨hs,hlv,c,el,f,hg,_⟩:=row_of_cellsC hpos z1
   obtain⟨b,o,sp⟩:=a
   simp only at hs hlv hg
   subst hs
   have at_:∀ i,i<cap→o+i*E+E≤c.length∧∃ cs' x',(c.drop (o+i*E)).take E=cs'.map (cvC (lv W))∧DataW.trod enc Tryz.prog W 0 (fun _=>true) true n e cs'=some x'∧(i<len→elems[i]? = some x'):=by
    intro i hi
    obtain⟨cs',x',y1,y2,y3⟩:=hrow i hi
    have hadd:(Addr.add ⟨b,o,none⟩ (i*E))=⟨b,o+i*E,none⟩:=by
     unfold Addr.add
     split
     ·rename_i h0; rw[h0]; rfl
     ·rfl
    rw[hadd] at y1
    obtain⟨_,_,c',el',f',g1,g2,g3⟩:=row_of_cellsC hpos y1
    simp only at g1 g2 g3
    rw[hg] at g1
    cases g1
    exact⟨g2,cs',x',g3,y2,y3⟩
   have hcap:=at_ (cap - 1) (by omega)
   have hle:o+cap*E≤c.length:=by
    have h1:=hcap.1
    have:cap*E=(cap - 1)*E+E:=by rw[← Nat.succ_mul]; congr 1; omega
    omega
   have hz:(len == 0&&cap == 0)=false:=by
    rw[Bool.and_eq_false_iff]; right; simpa using hc
   have hcv:cv (lv W) (.slice (some ⟨b,o,none⟩) len cap)=some (.slice (some ⟨b,o,some 0⟩) len cap):=by simp only[cv,hz,hlv,cond_false,cond_true]
   refine⟨_,.slice (some ⟨b,o,some 0⟩) len cap,(List.range len).map fun i=>(c.drop (o+i*E)).take E,elems.map (·.1),rfl,rfl,⟨_,_,_,rfl⟩,by unfold cvC; rw[hcv],hcv,⟨?_,.inr ⟨b,o,some 0,cap,by simp,c,el,f,false,hg,?_⟩⟩,fun _=>⟨b,o,cap,by simp,by simp; omega⟩,by simp[hlen],bulk,?_⟩
   ·intro r hr
    obtain⟨i,hi,rfl⟩:=List.mem_map.1 hr
    have hi:=List.mem_range.1 hi
    obtain⟨q1,cs',x',q2,q3,_⟩:=at_ i (by omega)
    refine⟨by rw[List.length_take,List.length_drop]; omega,?_⟩
    rw[q2]
    exact one (Nat.lt_succ_self n) q3
   ·rw[flat_rows]
    have:len*E≤cap*E:=Nat.mul_le_mul_right _ hl
    have hlen:((c.drop o).take (len*E)).length=len*E:=by rw[List.length_take,List.length_drop]; omega
    rw[hlen]
    exact⟨by omega,rfl⟩
   ·intro i r d hr hd
    rw[List.getElem?_map] at hr hd
    by_cases hi:i<len
    ·rw[List.getElem?_range hi] at hr
     simp only[Option.map_some,Option.some.injEq] at hr
     obtain⟨q1,cs',x',q2,q3,q4⟩:=at_ i (by omega)
     rw[q4 hi] at hd
     simp only[Option.map_some,Option.some.injEq] at hd
     exact⟨n,cs',x',Nat.lt_succ_self n,by rw[← hr,q2],q3,hd.symm⟩
    ·rw[List.getElem?_eq_none (by simpa using hi)] at hr; cases hr
variable {n:Nat} {cs:List Value} {x:DataW HH × List MemPlace}
theorem read_string (h:DataW.trod enc Tryz.prog W 0 (fun _=>true) true n 9 cs=some x):∃ l:List UInt8,cs=[.string ⟨⟨l⟩⟩]∧l.length+1=Rows.uptoBulk x.1:=by
 obtain⟨s,e,rfl,_⟩:=DataW.trod_string Tryz.underlying9 h
 exact⟨s.data.toList,e,by simp[Rows.uptoBulk]⟩
theorem read_int (h:DataW.trod enc Tryz.prog W 0 (fun _=>true) true n 3 cs=some x):∃ z,cs=[.int .i64 z]∧(Lit.int .i64 z).wf=true:=by
 obtain⟨z,e,_,w⟩:=DataW.trod_int Tryz.underlying3 h
 exact⟨z,e,w⟩
theorem read_u8 (h:DataW.trod enc Tryz.prog W 0 (fun _=>true) true n 5 cs=some x):∃ b:UInt8,cs=[.int .u8 b.toNat]:=by
 obtain⟨z,e,_,w⟩:=DataW.trod_int Tryz.underlying5 h
 have w':0≤z∧z≤255:=by
  simp only[Lit.wf,IntKind.min,IntKind.max,IntKind.bits,IntKind.signed] at w
  simp at w
  omega
 refine⟨UInt8.ofNat z.toNat,?_⟩
 rw[e]
 congr 2
 rw[UInt8.toNat_ofNat']
 omega
theorem cv_ex {L:Nat→Bool} {v u:Value} (hv:∃ a n c,v = .slice a n c) (h:cv L v=some u):veq u u=true:=by
 obtain⟨a,n,c,rfl⟩:=hv
 cases a with
 |none=>simp only[cv,Option.some.injEq] at h; subst h; simp[veq]
 |some a=>
  obtain⟨b,o,sp⟩:=a
  cases sp with
  |none=>
   simp only[cv] at h
   rcases cv_none h with ⟨rfl,rfl,rfl⟩|h
   ·simp[veq]
   ·cases hb:L b with
    |false=>rw[hb] at h; cases h
    |true=>rw[hb] at h; simp only[cond_true,Option.some.injEq] at h; subst h; simp[veq]
  |some k=>
   simp only[cv] at h
   rcases cv_none h with ⟨rfl,rfl,rfl⟩|h
   ·simp[veq]
   ·cases h
theorem read_strs (h:DataW.trod enc Tryz.prog W 0 (fun _=>true) true n 22 cs=some x):∃ v u l,cs=[v]∧v.oneCell'=true∧cvC (lv W) v=u∧StrR (hOf W) u l∧Told70 u l.length∧insB l+1≤Rows.uptoBulk x.1∧veq u u=true:=by
 obtain⟨v,u,rows,ds,rfl,o,isl,e,ecv,q,tl,hl,hb,f⟩:=read_sl (E:=1) Tryz.underlying22 (by kernel_rfl) (by omega) h (fun _ q=>by
  obtain⟨s,rfl,_⟩:=read_string q
  rfl)
 obtain⟨l,hf⟩:=F3.choose (p:=fun r d (s:List UInt8)=>r=[.string ⟨⟨s⟩⟩]∧s.length+1=Rows.uptoBulk d) rows ds hl (fun i r d hr hd=>by
  obtain⟨n',cs',x',_,rfl,h',rfl⟩:=f i r d hr hd
  obtain⟨s,rfl,hs⟩:=read_string h'
  exact⟨s,rfl,hs⟩)
 have key:rows=sr l∧insB l≤Rows.uptoBulkAll ds:=by
  clear q tl hl hb f
  induction hf with
  |nil=>exact⟨rfl,Nat.le_refl _⟩
  |cons h t ih=>
   obtain⟨rfl,hh⟩:=h
   refine⟨by rw[ih.1]; rfl,?_⟩
   simp only[insB,Rows.uptoBulkAll]; omega
 refine⟨_,u,l,rfl,o,e,?_,?_,by omega,cv_ex isl ecv⟩
 ·unfold StrR; rw[← key.1]; exact q
 ·rw[← hf.len] at tl; exact tl
theorem trod_struct5' {H:Type} {enc:TypeId × Value→H} {P:Program} {w:World} {base:Nat} {spare:Nat→Bool} {held:Bool} {t:TypeId} {f0 f1 f2 f3 f4:Field} {fuel:Nat} {cs:List Value} {x:DataW H × List MemPlace} (ht:P.underlying t=some (.struct #[f0,f1,f2,f3,f4]))
  (h:DataW.trod enc P w base spare held fuel t cs=some x) :
  ∃ y0 y1 y2 y3 y4 n,fuel=n+1∧x.1 = .agg [y0.1,y1.1,y2.1,y3.1,y4.1]∧cs.length=P.cellsOf t∧DataW.trod enc P w base spare held n f0.type ((cs.drop f0.offset).take (P.cellsOf f0.type))=some y0 ∧
   DataW.trod enc P w base spare held n f1.type ((cs.drop f1.offset).take (P.cellsOf f1.type))=some y1∧DataW.trod enc P w base spare held n f2.type ((cs.drop f2.offset).take (P.cellsOf f2.type))=some y2 ∧
   DataW.trod enc P w base spare held n f3.type ((cs.drop f3.offset).take (P.cellsOf f3.type))=some y3∧DataW.trod enc P w base spare held n f4.type ((cs.drop f4.offset).take (P.cellsOf f4.type))=some y4:=by
 obtain⟨xs,n,hn,rfl,hl,hlen,hf⟩:=DataW.trod_struct ht h
 match xs,hlen with
 |[y0,y1,y2,y3,y4],_=>exact⟨y0,y1,y2,y3,y4,n,hn,by simp,hl,by simpa using hf 0 f0 rfl,by simpa using hf 1 f1 rfl,by simpa using hf 2 f2 rfl,by simpa using hf 3 f3 rfl,by simpa using hf 4 f4 rfl⟩
theorem trod_struct4' {H:Type} {enc:TypeId × Value→H} {P:Program} {w:World} {base:Nat} {spare:Nat→Bool} {held:Bool} {t:TypeId} {f0 f1 f2 f3:Field} {fuel:Nat} {cs:List Value} {x:DataW H × List MemPlace} (ht:P.underlying t=some (.struct #[f0,f1,f2,f3]))
  (h:DataW.trod enc P w base spare held fuel t cs=some x) :
  ∃ y0 y1 y2 y3 n,fuel=n+1∧x.1 = .agg [y0.1,y1.1,y2.1,y3.1]∧cs.length=P.cellsOf t∧DataW.trod enc P w base spare held n f0.type ((cs.drop f0.offset).take (P.cellsOf f0.type))=some y0 ∧
   DataW.trod enc P w base spare held n f1.type ((cs.drop f1.offset).take (P.cellsOf f1.type))=some y1∧DataW.trod enc P w base spare held n f2.type ((cs.drop f2.offset).take (P.cellsOf f2.type))=some y2 ∧
   DataW.trod enc P w base spare held n f3.type ((cs.drop f3.offset).take (P.cellsOf f3.type))=some y3:=by
 obtain⟨xs,n,hn,rfl,hl,hlen,hf⟩:=DataW.trod_struct ht h
 match xs,hlen with
 |[y0,y1,y2,y3],_=>exact⟨y0,y1,y2,y3,n,hn,by simp,hl,by simpa using hf 0 f0 rfl,by simpa using hf 1 f1 rfl,by simpa using hf 2 f2 rfl,by simpa using hf 3 f3 rfl⟩
def tsOf:List T1→Ts
 |[]=>.nil
 |t::r=>.cons t.k t.x t.n t.m t.args (tsOf r)
theorem read_term:∀ (n:Nat) {cs:List Value} {x:DataW HH × List MemPlace},DataW.trod enc Tryz.prog W 0 (fun _=>true) true n 46 cs=some x →
  ones (cs.map (cvC (lv W)))=true∧cs.length=5∧∃ t:T1,T1R (hOf W) t (cs.map (cvC (lv W)))∧t.bulk≤Rows.uptoBulk x.1:=by
 intro n
 induction n using Nat.strongRecOn with
 |ind n ih=>
  intro cs x h
  obtain⟨y0,y1,y2,y3,y4,m,hn,hx,hl,h0,h1,h2,h3,h4⟩:=trod_struct5' Tryz.underlying46 h
  rw[show Tryz.prog.cellsOf 46=5 by kernel_rfl] at hl
  simp only[show Tryz.prog.cellsOf 3=1 by kernel_rfl,show Tryz.prog.cellsOf 9=1 by kernel_rfl,show Tryz.prog.cellsOf 44=1 by kernel_rfl] at h0 h1 h2 h3 h4
  obtain⟨z0,e0,_⟩:=read_int h0
  obtain⟨l1,e1,b1⟩:=read_string h1
  obtain⟨z2,e2,_⟩:=read_int h2
  obtain⟨z3,e3,_⟩:=read_int h3
  obtain⟨v,u,rows,ds,e4,o4,_,c4,_,q,tl,hrl,hb,f⟩:=read_sl (E:=5) Tryz.underlying44 (by kernel_rfl) (by omega) h4 (fun hlt q=>(ih _ (by omega) q).1)
  obtain⟨ts,hf⟩:=F3.choose (p:=fun r d (t:T1)=>T1R (hOf W) t r∧t.bulk≤Rows.uptoBulk d) rows ds hrl (fun i r d hr hd=>by
   obtain⟨n',cs',x',hlt,rfl,h',rfl⟩:=f i r d hr hd
   obtain⟨_,_,t,ht⟩:=ih _ (by omega) h'
   exact⟨t,ht⟩)
  have key:TsR (hOf W) (tsOf ts) rows∧(tsOf ts).bulk≤Rows.uptoBulkAll ds:=by
   clear q tl hrl hb f
   induction hf with
   |nil=>exact⟨rfl,Nat.le_refl _⟩
   |cons h t ih2=>
    obtain⟨⟨va,ar,e,s,r⟩,hh⟩:=h
    obtain⟨i1,i2⟩:=ih2
    refine⟨⟨va,ar,_,by rw[e],s,r,i1⟩,?_⟩
    unfold T1.bulk at hh
    simp only[tsOf,Ts.bulk,Rows.uptoBulkAll]; omega
  match cs,hl with
  |[c0,c1,c2,c3,c4'],_=>
   simp at e0 e1 e2 e3 e4
   subst e0 e1 e2 e3 e4
   refine⟨?_,rfl,⟨z0,l1,z2,z3,tsOf ts⟩,⟨u,rows,?_,q,key.1⟩,?_⟩
   ·simp only[List.map_cons,List.map_nil,c4]
    obtain⟨a,cap,hv⟩:=q.val
    rw[hv]; rfl
   ·simp only[List.map_cons,List.map_nil,c4]; rfl
   ·rw[hx]
    have:=key.2
    unfold T1.bulk
    simp only[Rows.uptoBulk,Rows.uptoBulkAll]
    omega
end
end Go.Proofs.YtbfgadekkemlcaaGreatDoor.K
namespace Go.Proofs.YtbfgadekkemlcaaGreatDoor.K
open Go Go.Kx Go.ChangeShapes Go.WideShapes Go.ChangeAt Go.RowKit
set_option maxRecDepth 100000
section
variable {HH:Type} {enc:TypeId × Value→HH} {W:World} {n:Nat} {cs:List Value} {x:DataW HH × List MemPlace}
theorem read_out (h:DataW.trod enc Tryz.prog W 0 (fun _=>true) true n 48 cs=some x) :
  ones (cs.map (cvC (lv W)))=true∧∃ (l:List UInt8) (t:T1) (c:List Value),cs.map (cvC (lv W)) = .string ⟨⟨l⟩⟩::c∧T1R (hOf W) t c∧1+l.length+t.bulk≤Rows.uptoBulk x.1:=by
 obtain⟨y0,y1,m,rfl,hl,h0,h1⟩:=trod_struct2 Tryz.underlying48 h
 rw[show Tryz.prog.cellsOf 48=6 by kernel_rfl] at hl
 simp only[show Tryz.prog.cellsOf 9=1 by kernel_rfl,show Tryz.prog.cellsOf 46=5 by kernel_rfl] at h0 h1
 obtain⟨l,e0,b0⟩:=read_string h0
 obtain⟨o1,_,t,q,hb⟩:=read_term _ h1
 match cs,hl with
 |c::r,hl=>
  have hr:r.length=5:=by simpa using hl
  simp at e0
  subst e0
  rw[show ((Value.string ⟨⟨l⟩⟩::r).drop 1).take 5=r by rw[List.drop_succ_cons,List.drop_zero]; exact List.take_of_length_le (by omega)] at o1 q
  refine⟨?_,l,t,r.map (cvC (lv W)),rfl,q,?_⟩
  ·show (true&&ones (r.map (cvC (lv W))))=true
   rw[o1]; rfl
  ·simp only[Rows.uptoBulk,Rows.uptoBulkAll]; omega
theorem read_outs (h:DataW.trod enc Tryz.prog W 0 (fun _=>true) true n 23 cs=some x):∃ v u,∃ l:List (List UInt8 × T1),cs=[v]∧v.oneCell'=true∧cvC (lv W) v=u∧(∃ rows,Sl 6 (hOf W) u rows∧OutsR (hOf W) l rows)∧outsB l+1≤Rows.uptoBulk x.1∧veq u u=true:=by
 obtain⟨v,u,rows,ds,rfl,o,isl,e,ecv,q,tl,hl,hb,f⟩:=read_sl (E:=6) Tryz.underlying23 (by kernel_rfl) (by omega) h (fun _ q=>(read_out q).1)
 obtain⟨l,hf⟩:=F3.choose (p:=fun r d (s:List UInt8 × T1)=>∃ c,r = .string ⟨⟨s.1⟩⟩::c∧T1R (hOf W) s.2 c∧1+s.1.length+s.2.bulk≤Rows.uptoBulk d) rows ds hl (fun i r d hr hd=>by
  obtain⟨n',cs',x',_,rfl,h',rfl⟩:=f i r d hr hd
  obtain⟨_,l,t,c,hs⟩:=read_out h'
  exact⟨(l,t),c,hs⟩)
 have key:OutsR (hOf W) l rows∧outsB l≤Rows.uptoBulkAll ds:=by
  clear q tl hl hb f
  induction hf with
  |nil=>exact⟨rfl,Nat.le_refl _⟩
  |cons h t ih=>
   obtain⟨c,rfl,q,hh⟩:=h
   refine⟨⟨c,_,rfl,q,ih.1⟩,?_⟩
   simp only[outsB,Rows.uptoBulkAll]; omega
 exact⟨_,u,l,rfl,o,e,⟨rows,q,key.1⟩,by omega,cv_ex isl ecv⟩
theorem read_task (h:DataW.trod enc Tryz.prog W 0 (fun _=>true) true n 25 cs=some x):cs.length=4∧∃ t vi vo,cs.map (cvC (lv W))=kc t vi vo∧RawC (hOf W) t vi vo∧t.bulk≤Rows.uptoBulk x.1:=by
 obtain⟨y0,y1,y2,y3,m,_,hx,hl,h0,h1,h2,h3⟩:=trod_struct4' Tryz.underlying25 h
 rw[show Tryz.prog.cellsOf 25=4 by kernel_rfl] at hl
 simp only[show Tryz.prog.cellsOf 3=1 by kernel_rfl,show Tryz.prog.cellsOf 9=1 by kernel_rfl,show Tryz.prog.cellsOf 22=1 by kernel_rfl,show Tryz.prog.cellsOf 23=1 by kernel_rfl] at h0 h1 h2 h3
 obtain⟨s,e0,b0⟩:=read_string h0
 obtain⟨z,e1,_⟩:=read_int h1
 obtain⟨v2,u2,l2,e2,o2,c2,q2,z2,b2,x2⟩:=read_strs h2
 obtain⟨v3,u3,l3,e3,o3,c3,q3,b3,x3⟩:=read_outs h3
 match cs,hl with
 |[c0,c1,c2',c3'],_=>
  simp at e0 e1 e2 e3
  subst e0 e1 e2 e3
  refine⟨rfl,⟨s,z,l2,l3⟩,u2,u3,?_,⟨q2,z2,q3,x2,x3⟩,?_⟩
  ·simp only[List.map_cons,List.map_nil,c2,c3]
   rfl
  ·rw[hx]
   unfold TK.bulk
   simp only[Rows.uptoBulk,Rows.uptoBulkAll]
   omega
theorem read_key (h:DataW.trod enc Tryz.prog W 0 (fun _=>true) true n 32 cs=some x):∃ k:List UInt8,cs=byteVals k∧k.length=32:=by
 obtain⟨xs,m,_,_,hl,hn,hi⟩:=DataW.trod_array Tryz.underlying32 h
 rw[show Tryz.prog.cellsOf 32=32 by kernel_rfl] at hl
 rw[show Tryz.prog.cellsOf 5=1 by kernel_rfl] at hi
 have each:∀ i,i<32→∃ b:UInt8,cs[i]? = some (.int .u8 b.toNat):=by
  intro i hlt
  have:=hi i hlt
  rw[List.getElem?_eq_getElem (by omega),Nat.mul_one] at this
  obtain⟨b,hb⟩:=read_u8 this
  refine⟨b,?_⟩
  have h0:=congrArg (fun l=>l[0]?) hb
  simpa [List.getElem?_take,List.getElem?_drop] using h0
 have gen:∀ l:List Value,(∀ i,i<l.length→∃ b:UInt8,l[i]? = some (.int .u8 b.toNat))→∃ k:List UInt8,l=byteVals k:=by
  intro l
  induction l with
  |nil=>exact fun _=>⟨[],rfl⟩
  |cons v l ih=>
   intro f
   obtain⟨b,hb⟩:=f 0 (by simp)
   obtain⟨k,hk⟩:=ih fun i hi=>by have:=f (i+1) (by simpa using hi); simpa using this
   simp only[List.getElem?_cons_zero,Option.some.injEq] at hb
   exact⟨b::k,by rw[hb,hk]; rfl⟩
 obtain⟨k,hk⟩:=gen cs (fun i hi=>each i (by omega))
 refine⟨k,hk,?_⟩
 rw[hk] at hl
 simpa [byteVals] using hl
theorem byteVals_flat:∀ k:List UInt8,flatL (byteVals k)=true
 |[]=>rfl
 |b::k=>byteVals_flat k
theorem byteVals_ones:∀ k:List UInt8,ones (byteVals k)=true
 |[]=>rfl
 |b::k=>by show (true&&ones (byteVals k))=true; rw[byteVals_ones k]; rfl
theorem read_taskA {v:Value} {d:DataW HH} {p:List MemPlace} (h:DataW.Trod enc Tryz.prog W 0 (fun _=>true) true 25 v d p) :
  ∃ t vi vo,R (io W) (.agg ⟨kc t vi vo⟩) v∧RawC (hOf W) t vi vo∧t.bulk≤Rows.uptoBulk d:=by
 obtain⟨fuel,h⟩:=h
 obtain⟨hl,t,vi,vo,e,q,b⟩:=read_task h
 refine⟨t,vi,vo,?_,q,b⟩
 have hv:∃ l,v = .agg ⟨l⟩:=by
  cases v with
  |agg a=>obtain⟨l⟩:=a; exact⟨l,rfl⟩
  |_=>cases hl
 obtain⟨l,rfl⟩:=hv
 rw[← e]
 exact .agg (cvC_RL l)
theorem read_keysA {v:Value} {d:DataW HH} {p:List MemPlace} {base:Nat} (hval:Value.okWide Tryz.prog W .any base 26 v) (h:DataW.Trod enc Tryz.prog W 0 (fun _=>true) true 26 v d p) :
  ∃ u ks,R (io W) u v∧KeysR (hOf W) u ks∧Told70 u ks.length:=by
 obtain⟨fuel,h⟩:=h
 have hsl:∃ o l c,v = .slice o l c:=by
  have hv:=hval
  unfold Value.okWide at hv
  rw[Tryz.underlying26] at hv
  cases v<;>first|exact⟨_,_,_,rfl⟩|(simp[Cell.okWide,Tryz.underlying26,Cell.ok] at hv)
 obtain⟨o,l,c,rfl⟩:=hsl
 obtain⟨v',u,rows,ds,e1,_,_,_,e,q,tl,hl,hb,f⟩:=read_sl (E:=32) Tryz.underlying26 (by kernel_rfl) (by omega) h (fun _ q=>by
  obtain⟨k,rfl,_⟩:=read_key q
  rw[cvC_flat _ _ (byteVals_flat k)]; exact byteVals_ones k)
 have hv:v' = .slice o l c:=by
  have : [Value.slice o l c]=[v']:=by simpa [Value.cells] using e1
  simpa using this.symm
 subst hv
 obtain⟨ks,hf⟩:=F3.choose (p:=fun r d (k:List UInt8)=>r=byteVals k∧k.length=32) rows ds hl (fun i r d hr hd=>by
  obtain⟨n',cs',x',_,rfl,h',rfl⟩:=f i r d hr hd
  obtain⟨k,rfl,hk⟩:=read_key h'
  exact⟨k,cvC_flat _ _ (byteVals_flat k),hk⟩)
 have key:rows=ks.map byteVals∧∀ k∈ks,k.length=32:=by
  clear q tl hl hb f
  induction hf with
  |nil=>exact⟨rfl,fun k hk=>by cases hk⟩
  |cons h t ih=>
   obtain⟨rfl,hh⟩:=h
   refine⟨by rw[ih.1]; rfl,fun k hk=>?_⟩
   rcases List.mem_cons.1 hk with rfl|hk
   ·exact hh
   ·exact ih.2 k hk
 refine⟨u,ks,cv_R _ e,⟨by rw[← key.1]; exact q,key.2⟩,?_⟩
 rw[← hf.len] at tl; exact tl
end
end Go.Proofs.YtbfgadekkemlcaaGreatDoor.K
namespace Go.Proofs.YtbfgadekkemlcaaGreatDoor.K
open Go Go.Kx Go.ChangeShapes Go.WideShapes Go.ChangeAt Go.RowKit
set_option maxRecDepth 100000
theorem laidOut':laidOutB Tryz.prog=true:=by kernel_rfl
theorem own':ownKnob Tryz.prog.godebug=none:=by kernel_rfl
theorem gTab:Tryz.prog.globalNamed "kiln/sha.table" = some 0:=by kernel_rfl
theorem gPow:Tryz.prog.globalNamed "internal/strconv.uint64pow10" = some 2:=by kernel_rfl
theorem yTab:(Tryz.prog.globals[0]?).map (·.type)=some 156:=by kernel_rfl
theorem yPow:(Tryz.prog.globals[2]?).map (·.type)=some 221:=by kernel_rfl
theorem glW {W:World} (hs:W.ShapedOpen Tryz.prog):GL 7 (io W):=gl_of_shaped hs (Nat.le_of_ble_eq_true (by kernel_rfl)) (by kernel_rfl)
def powZ:List Int:=(List.range 20).map fun k=>((10 ^ k:Nat):Int)
def tabZ:List Int:=KT.map fun w=>(w.toNat:Int)
theorem pt_of {W:World} (h:Lib.TabIs Tryz.prog W "internal/strconv.uint64pow10" .u64 powZ):PT (hOf W):=by
 obtain⟨el,f,q⟩:=tab_get gPow h
 have:=Row.of q
 rw[powZ,List.map_map] at this
 exact this
theorem gt_of {W:World} (h:Lib.TabIs Tryz.prog W "kiln/sha.table" .u32 tabZ):GT (hOf W):=by
 obtain⟨el,f,q⟩:=tab_get gTab h
 have:=Row.of q
 rw[tabZ,List.map_map] at this
 exact this
theorem tabs_of {W:World} (h:laidMetH Tryz.prog Rows.printTellsUptoRow.laid W):PT (hOf W)∧GT (hOf W):=by
 rw[MakeChecks.laidMetH_plain _ _ _ (by kernel_rfl)] at h
 have h2:=laid_tail (laid_tail h)
 have t0:Lib.TabIs Tryz.prog W "internal/strconv.uint64pow10" .u64 powZ:=Lib.tabIs_of_head gPow yPow Tryz.underlying221 Tryz.underlying154 (by kernel_rfl) (by kernel_rfl) h2
 have h4:=laid_tail (laid_tail h2)
 have t1:Lib.TabIs Tryz.prog W "kiln/sha.table" .u32 tabZ:=Lib.tabIs_of_head gTab yTab Tryz.underlying156 Tryz.underlying145 (by kernel_rfl) (by kernel_rfl) h4
 exact⟨pt_of t0,gt_of t1⟩
noncomputable def laidWorld (os:Os):World:=World.laidAll Tryz.prog os Rows.printTellsUptoRow.laid
theorem laid_met (os:Os) (args:Array Value):laidMetH Tryz.prog Rows.printTellsUptoRow.laid ((laidWorld os).forCall (fun _ _=>0) ⟨#[],args,[]⟩).memory:=by
 rw[MakeChecks.laidMetH_plain _ _ _ (by kernel_rfl)]
 exact laidMet_laidAll _ (by kernel_rfl) (by kernel_rfl)
def zTask:Value:=.agg ⟨[.string ⟨#[]⟩,.int .i64 0,.slice none 0 0,.slice none 0 0]⟩
def zTaskD {H:Type}:DataW H:=.agg [.lit (.string []),.lit (.int .i64 0),.nil,.nil]
end Go.Proofs.YtbfgadekkemlcaaGreatDoor.K
namespace Go.Proofs.YtbfgadekkemlcaaGreatDoor.K
open Go Go.Kx
end Go.Proofs.YtbfgadekkemlcaaGreatDoor.K
namespace Go.Proofs.YtbfgadekkemlcaaGreatDoor.K
open Go Go.Kx
theorem eCutKeysG {h:H} {v:Value} {ks:List (List UInt8)} (q:KeysR h v ks) (told:Told70 v ks.length):∃ v' ks',KeysR h v' ks'∧ks'.length≤70∧∀ h'',CLM (.f 20) [v] h'' = .ok v' h'':=by
 have hml:(ks.map byteVals).length=ks.length:=List.length_map ..
 by_cases h70:70<ks.length
 ·obtain⟨b,o,cap,rfl,hcap⟩:=told h70
  obtain⟨v',e',s'⟩:=cut0 un26 sz32 co32 (rows:=ks.map byteVals) (by rw[hml]; exact q.1) (j:=70) (by omega) (by omega) (by omega)
  rw[hml] at e'
  refine⟨v',ks.take 70,⟨by rw[List.map_take]; exact s',fun k hk=>q.2 k (List.mem_of_mem_take hk)⟩,by rw[List.length_take]; omega,fun h''=>?_⟩
  rw[cM20,F20.eq,q.len,go_ok,xgtr,go_ok,ifV_dec,if_pos (by omega),show (.int .i64 70:Value) = .int .i64 ((70:Nat):Int) from rfl]
  have e'':xslice Tryz.prog 26 (.slice (some ⟨b,o,some 0⟩) ks.length cap) none (some (.int .i64 ((70:Nat):Int))) none h'' = .ok v' h'':=by
   unfold xslice at e' ⊢
   have a2:asNat? (some (.int .i64 ((70:Nat):Int))) ks.length=some 70:=rfl
   simp only[un26,a2,show asNat? none 0=some 0 from rfl,show asNat? none cap=some cap from rfl,Nat.ble_eq_true_of_le (Nat.zero_le 70),Nat.ble_eq_true_of_le (show 70≤cap by omega),Nat.ble_eq_true_of_le (Nat.le_refl cap),sz32,Bool.and_self,cond_true] at e' ⊢
   rw[Res.ok.injEq] at e' ⊢
   exact⟨e'.1,rfl⟩
  rw[e'',go_ok]
 ·exact⟨v,ks,q,by omega,fun h''=>by rw[cM20,F20.eq,q.len,go_ok,xgtr,go_ok,ifV_dec,if_neg (by omega)]⟩
theorem fpK_len (t:TK) (ks:List (List UInt8)):(fpK t ks).length=32:=by
 unfold fpK
 repeat' split
 ·exact sha_len _
 ·rfl
 ·rfl
end Go.Proofs.YtbfgadekkemlcaaGreatDoor.K
namespace Go.Proofs.YtbfgadekkemlcaaGreatDoor.K
open Go Go.Kx
theorem flat_part {E:Nat} {rows:List (List Value)} (g:GoodR E rows) {c:List Value} {o i k:Nat} {r l:List Value} (hr:rows[i]? = some r) (hk:k+l.length≤E) (ho:o+rows.flatten.length≤c.length) (hc:(c.drop o).take rows.flatten.length=rows.flatten) :
  o+i*E+k+l.length≤c.length∧((c.take (o+i*E+k)++(l++c.drop (o+i*E+k+l.length))).drop o).take rows.flatten.length=(rows.set i (r.take k++(l++r.drop (k+l.length)))).flatten∧(c.take (o+i*E+k)++(l++c.drop (o+i*E+k+l.length))).length=c.length∧GoodR E rows:=by
 obtain⟨hi,rfl⟩:=List.getElem?_eq_some_iff.1 hr
 have hrl:=(g _ (List.getElem_mem hi)).1
 have hfl:=flat_len g
 have hle:(i+1)*E≤rows.length*E:=Nat.mul_le_mul_right E (by omega)
 rw[Nat.add_mul,Nat.one_mul] at hle
 have hlen:(c.take (o+i*E+k)++(l++c.drop (o+i*E+k+l.length))).length=c.length:=by
  rw[List.length_append,List.length_append,List.length_take,List.length_drop]; omega
 refine⟨by omega,?_,hlen,g⟩
 have h1:c=c.take o++(rows.flatten++c.drop (o+rows.flatten.length)):=by
  have:c.drop o=rows.flatten++c.drop (o+rows.flatten.length):=by
   rw[← List.take_append_drop rows.flatten.length (c.drop o),hc,List.drop_drop]
  rw[← this,List.take_append_drop]
 have h2:rows=rows.take i++rows[i]::rows.drop (i+1):=by rw[← List.drop_eq_getElem_cons hi,List.take_append_drop]
 obtain⟨A,hA⟩ : ∃ A,A=c.take o:=⟨_,rfl⟩
 obtain⟨B,hB⟩ : ∃ B,B=c.drop (o+rows.flatten.length):=⟨_,rfl⟩
 have hAl:A.length=o:=by rw[hA,List.length_take]; omega
 have gi:(rows.take i).flatten.length=i*E:=by rw[flat_len (g.take i),List.length_take,Nat.min_eq_left (by omega)]
 have h3:rows.flatten=(rows.take i).flatten++(rows[i].take k++(((rows[i].drop k).take l.length)++(rows[i].drop (k+l.length)++(rows.drop (i+1)).flatten))):=by
  have e:rows[i].take k++((rows[i].drop k).take l.length++rows[i].drop (k+l.length))=rows[i]:=by
   rw[show rows[i].drop (k+l.length)=(rows[i].drop k).drop l.length by rw[List.drop_drop],List.take_append_drop,List.take_append_drop]
  conv=>lhs; rw[h2]
  rw[List.flatten_append,List.flatten_cons]
  conv=>lhs; rw[← e]
  simp only[List.append_assoc]
 have h4:c=(A++((rows.take i).flatten++rows[i].take k))++((rows[i].drop k).take l.length++(rows[i].drop (k+l.length)++((rows.drop (i+1)).flatten++B))):=by
  conv=>lhs; rw[h1,← hA,← hB,h3]
  simp only[List.append_assoc]
 have l1:(A++((rows.take i).flatten++rows[i].take k)).length=o+i*E+k:=by
  rw[List.length_append,List.length_append,hAl,gi,List.length_take,hrl]; omega
 have l2:((rows[i].drop k).take l.length).length=l.length:=by rw[List.length_take,List.length_drop,hrl]; omega
 have t1:c.take (o+i*E+k)=A++((rows.take i).flatten++rows[i].take k):=by rw[h4,List.take_left' l1]
 have t2:c.drop (o+i*E+k+l.length)=rows[i].drop (k+l.length)++((rows.drop (i+1)).flatten++B):=by
  rw[← List.drop_drop,h4,List.drop_left' l1,List.drop_left' l2]
 have hset:rows.set i (rows[i].take k++(l++rows[i].drop (k+l.length)))=rows.take i++(rows[i].take k++(l++rows[i].drop (k+l.length)))::rows.drop (i+1):=List.set_eq_take_append_cons_drop ▸ (by rw[if_pos hi])
 have hnew:(rows.set i (rows[i].take k++(l++rows[i].drop (k+l.length)))).flatten=(rows.take i).flatten++(rows[i].take k++(l++(rows[i].drop (k+l.length)++(rows.drop (i+1)).flatten))):=by
  rw[hset,List.flatten_append,List.flatten_cons]; simp only[List.append_assoc]
 have hnl:(rows.set i (rows[i].take k++(l++rows[i].drop (k+l.length)))).flatten.length=rows.flatten.length:=by
  rw[hnew,h3]
  simp only[List.length_append,l2]
 rw[t1,t2,List.append_assoc,List.drop_left' hAl,← hnl,hnew]
 rw[show (rows.take i).flatten++rows[i].take k++(l++(rows[i].drop (k+l.length)++((rows.drop (i+1)).flatten++B)))=((rows.take i).flatten++(rows[i].take k++(l++(rows[i].drop (k+l.length)++(rows.drop (i+1)).flatten))))++B by simp only[List.append_assoc],List.take_left]
theorem ones_app' {a b:List Value} (h1:ones a=true) (h2:ones b=true):ones (a++b)=true:=by
 induction a with
 |nil=>exact h2
 |cons v a ih=>
  simp only[List.cons_append,ones,Bool.and_eq_true] at h1 ⊢
  exact⟨h1.1,ih h1.2⟩
theorem SlX.part {E:Nat} {h:H} {v:Value} {rows tail:List (List Value)} (s:SlX E h v rows tail) (w:Wr0 h v) {i:Nat} {r:List Value} (hr:rows[i]? = some r) :
  ∃ b o sp,v = .slice (some ⟨b,o,sp⟩) rows.length (rows.length+tail.length)∧∀ (k:Nat) (l:List Value),k+l.length≤E→ones l=true →
   ∃ h',h.write ⟨b,o+i*E+k,none⟩ l=some h'∧Upd (fun x=>x=b) h h'∧SlX E h' v (rows.set i (r.take k++(l++r.drop (k+l.length)))) tail∧Wr0 h' v:=by
 obtain⟨g,s⟩:=s
 have hi:=(List.getElem?_eq_some_iff.1 hr).1
 rcases s with ⟨_,z,_⟩|⟨b,o,sp,rfl,row,ok⟩
 ·rw[z] at hi; simp at hi
 ·refine⟨b,o,sp,rfl,fun k l hk hl=>?_⟩
  obtain⟨c,el,op,hg⟩:=w _ _ _ _ _ rfl
  obtain⟨c',el',f',op',hg',h1,h2⟩:=row
  rw[hg] at hg'; cases hg'
  have hr':(rows++tail)[i]? = some r:=by rw[List.getElem?_append_left hi]; exact hr
  obtain⟨k1,k2,k3,_⟩:=flat_part g (l:=l) hr' hk h1 h2
  have hs:(rows++tail).set i (r.take k++(l++r.drop (k+l.length)))=rows.set i (r.take k++(l++r.drop (k+l.length)))++tail:=by rw[List.set_append_left _ _ hi]
  have hrl:=g r (List.mem_of_getElem? hr')
  have g':GoodR E (rows.set i (r.take k++(l++r.drop (k+l.length)))++tail):=by
   rw[← hs]
   exact g.set (by rw[List.length_append,List.length_append,List.length_take,List.length_drop,hrl.1]; omega) (ones_app' (ones_take hrl.2 _) (ones_app' hl (ones_drop hrl.2 _))) i
  refine⟨_,H.write_eq hg k1 hl,(Upd.refl (fun x=>x=b) h).put (.inl rfl) (H.get_lt hg) _,⟨g',.inr ⟨b,o,sp,by rw[List.length_set],⟨_,_,_,_,H.put_self hg,?_,?_⟩,?_⟩⟩,fun b' o' sp' n' c' z=>?_⟩
  ·rw[flat_len g',List.length_append,List.length_set,k3]
   rw[flat_len g,List.length_append] at h1; exact h1
  ·rw[← hs]
   have hfl:((rows++tail).set i (r.take k++(l++r.drop (k+l.length)))).flatten.length=(rows++tail).flatten.length:=by
    rw[hs,flat_len g',flat_len g,List.length_append,List.length_append,List.length_set]
   rw[hfl]; exact k2
  ·rcases ok with z|⟨z,c'',el'',f'',op'',hg'',y⟩
   ·exact .inl z
   ·rw[hg] at hg''; cases hg''
    exact .inr ⟨z,_,_,_,_,H.put_self hg,y⟩
  ·cases z; exact⟨_,_,_,H.put_self hg⟩
theorem OutsK.set {A:Nat→Prop} {h:H}:∀ {os:List (List UInt8 × T1)} {rows:List (List Value)} (i:Nat) (x:List UInt8) (t:T1) (c:List Value),OutsK A h os rows→T1K A h t c→OutsK A h (os.set i (x,t)) (rows.set i (.string ⟨⟨x⟩⟩::c))
 |[],rows,i,x,t,c,q,k=>by rw[show rows=[] from q]; cases i<;>rfl
 |o::os,rows,0,x,t,c,⟨c',rr,e,t',q⟩,k=>by rw[e]; exact⟨c,rr,rfl,k,q⟩
 |o::os,rows,i+1,x,t,c,⟨c',rr,e,t',q⟩,k=>by rw[e]; exact⟨c',rr.set i (.string ⟨⟨x⟩⟩::c),rfl,t',OutsK.set i x t c q k⟩
theorem OutsK.at_ {A:Nat→Prop} {h:H}:∀ {os:List (List UInt8 × T1)} {rows:List (List Value)} {i:Nat} {o:List UInt8 × T1},OutsK A h os rows→os[i]? = some o→∃ c,rows[i]? = some (.string ⟨⟨o.1⟩⟩::c)∧T1K A h o.2 c
 |o::os,rows,0,o',⟨c,rr,e,t,q⟩,hi=>by
  simp only[List.getElem?_cons_zero,Option.some.injEq] at hi
  subst hi
  exact⟨c,by rw[e]; rfl,t⟩
 |o::os,rows,i+1,o',⟨c,rr,e,t,q⟩,hi=>by
  simp only[List.getElem?_cons_succ] at hi
  obtain⟨c',h1,h2⟩:=OutsK.at_ q hi
  exact⟨c',by rw[e]; exact h1,h2⟩
theorem TaskK.setIn {A:Nat→Prop} {h:H} {t:TK} {vi vo:Value} (q:TaskK A h t vi vo) {i:Nat} (hi:i<t.ins.length) (s:List UInt8) :
  ∃ b o sp cap h',A b∧vi = .slice (some ⟨b,o,sp⟩) t.ins.length cap∧h.write ⟨b,o+i*1,none⟩ [.string ⟨⟨s⟩⟩]=some h'∧Upd (fun x=>x=b) h h'∧TaskK A h' ⟨t.name,t.bud,t.ins.set i s,t.outs⟩ vi vo:=by
 obtain⟨⟨tl,a⟩,⟨rows,tl2,bo,c⟩,d,e,f,wi,wo⟩:=q
 have hsl:=sr_len t.ins
 obtain⟨x,hx⟩ : ∃ x,t.ins[i]? = some x:=⟨_,List.getElem?_eq_getElem hi⟩
 have hr:(sr t.ins)[i]? = some [.string ⟨⟨x⟩⟩]:=by unfold sr; rw[List.getElem?_map,hx]; rfl
 obtain⟨b,o,sp,ev,hw⟩:=a.part wi hr
 obtain⟨h',w1,u1,s1,w2⟩:=hw 0 [.string ⟨⟨s⟩⟩] (by simp) rfl
 have hb:A b:=d b o sp _ _ ev
 have nvo:∀ b' o sp n c,vo = .slice (some ⟨b',o,sp⟩) n c→¬ b'=b:=fun b' o' sp' n c z y=>by
  subst y
  exact f b' o sp _ _ ev o' sp' n c z
 refine⟨b,o,sp,_,h',hb,by rw[← hsl]; exact ev,w1,u1,⟨⟨tl,?_⟩,⟨rows,tl2,bo.upd u1 nvo,c.upd u1 fun b' hb' y=>by subst y; exact hb'.2.1 o sp _ _ ev⟩,d,e,f,w2,wo.upd u1 nvo⟩⟩
 have:(sr t.ins).set i ([Value.string ⟨⟨x⟩⟩].take 0++([.string ⟨⟨s⟩⟩]++[Value.string ⟨⟨x⟩⟩].drop (0+[Value.string ⟨⟨s⟩⟩].length)))=sr (t.ins.set i s):=by
  unfold sr
  rw[List.map_set]; rfl
 rw[this] at s1
 exact s1
theorem TaskK.setOut {A:Nat→Prop} {h:H} {t:TK} {vi vo:Value} (q:TaskK A h t vi vo) {i:Nat} (hi:i<t.outs.length) :
  ∃ b o sp cap p tm,A b∧vo = .slice (some ⟨b,o,sp⟩) t.outs.length cap∧t.outs[i]? = some (p,tm)∧∀ s:List UInt8,
   (∃ h',h.write ⟨b,o+i*6,none⟩ [.string ⟨⟨s⟩⟩]=some h'∧Upd (fun x=>x=b) h h'∧TaskK A h' ⟨t.name,t.bud,t.ins,t.outs.set i (s,tm)⟩ vi vo) ∧
   (∃ h',h.write ⟨b,o+i*6+2,none⟩ [.string ⟨⟨s⟩⟩]=some h'∧Upd (fun x=>x=b) h h'∧TaskK A h' ⟨t.name,t.bud,t.ins,t.outs.set i (p,⟨tm.k,s,tm.n,tm.m,tm.args⟩)⟩ vi vo):=by
 obtain⟨⟨tl,a⟩,⟨rows,tl2,bo,c⟩,d,e,f,wi,wo⟩:=q
 have hol:=c.len
 obtain⟨⟨p,tm⟩,hx⟩ : ∃ x,t.outs[i]? = some x:=⟨_,List.getElem?_eq_getElem hi⟩
 obtain⟨cc,hr,tk⟩:=c.at_ hx
 obtain⟨b,o,sp,ev,hw⟩:=bo.part wo hr
 have hb:A b:=e b o sp _ _ ev
 have nvi:∀ b' o sp n c,vi = .slice (some ⟨b',o,sp⟩) n c→¬ b'=b:=fun b' o' sp' n c z y=>by
  subst y
  exact f b' o' sp' n c z o sp _ _ ev
 have nA:∀ b',(A b'∧NB vi b'∧NB vo b')→¬ b'=b:=fun b' hb' y=>by subst y; exact hb'.2.2 o sp _ _ ev
 have tk':=tk
 obtain⟨va,ar,tl3,ec,sc,ic,rc'⟩:=tk'
 refine⟨b,o,sp,_,p,tm,hb,by rw[← hol]; exact ev,hx,fun s=>⟨?_,?_⟩⟩
 ·obtain⟨h',w1,u1,s1,w2⟩:=hw 0 [.string ⟨⟨s⟩⟩] (by simp) rfl
  refine⟨h',w1,u1,⟨⟨tl,a.upd u1 nvi⟩,⟨rows.set i (.string ⟨⟨s⟩⟩::cc),tl2,s1,(c.upd u1 nA).set i s tm cc (tk.upd u1 nA)⟩,d,e,f,wi.upd u1 nvi,w2⟩⟩
 ·obtain⟨h',w1,u1,s1,w2⟩:=hw 2 [.string ⟨⟨s⟩⟩] (by simp) rfl
  have tk2:T1K (fun b=>A b∧NB vi b∧NB vo b) h' ⟨tm.k,s,tm.n,tm.m,tm.args⟩ (tc tm.k s tm.n tm.m va):=⟨va,ar,tl3,rfl,sc.upd u1 (fun b' o' sp' n' c' z=>nA b' (ic b' o' sp' n' c' z)),ic,rc'.upd u1 nA⟩
  refine⟨h',w1,u1,⟨⟨tl,a.upd u1 nvi⟩,⟨rows.set i (.string ⟨⟨p⟩⟩::tc tm.k s tm.n tm.m va),tl2,?_,(c.upd u1 nA).set i p _ _ tk2⟩,d,e,f,wi.upd u1 nvi,w2⟩⟩
  rw[ec] at s1
  exact s1
theorem KeysM.setAt {h:H} {v:Value} {ks:List (List UInt8)} (q:KeysM h v ks) (w:Wr0 h v) {i j:Nat} {k:List UInt8} (hk:ks[i]? = some k) (hj:j<32) (x:UInt8) :
  ∃ b o sp cap h',v = .slice (some ⟨b,o,sp⟩) ks.length cap∧h.write ⟨b,o+i*32+j,none⟩ [.int .u8 (x.toNat:Int)]=some h'∧Upd (fun y=>y=b) h h'∧KeysM h' v (ks.set i (k.set j x))∧Wr0 h' v:=by
 obtain⟨⟨tl,s⟩,hl⟩:=q
 have hml:(ks.map byteVals).length=ks.length:=List.length_map ..
 have hkl:=hl k (List.mem_of_getElem? hk)
 have hr:(ks.map byteVals)[i]? = some (byteVals k):=by rw[List.getElem?_map,hk]; rfl
 obtain⟨b,o,sp,ev,hw⟩:=s.part w hr
 obtain⟨h',w1,u1,s1,w2⟩:=hw j [.int .u8 (x.toNat:Int)] (by simp; omega) rfl
 refine⟨b,o,sp,_,h',by rw[← hml]; exact ev,w1,u1,⟨⟨tl,?_⟩,fun y hy=>?_⟩,w2⟩
 ·have e1:(byteVals k).take j++([Value.int .u8 (x.toNat:Int)]++(byteVals k).drop (j+[Value.int .u8 (x.toNat:Int)].length))=byteVals (k.set j x):=by
   have:byteVals (k.set j x)=(byteVals k).set j (.int .u8 (x.toNat:Int)):=by unfold byteVals; rw[List.map_set]
   rw[this,List.set_eq_take_append_cons_drop,if_pos (by rw[bv_len,hkl]; exact hj)]
   rfl
  rw[e1,← List.map_set] at s1
  exact s1
 ·rcases List.mem_or_eq_of_mem_set hy with z|z
  ·exact hl y z
  ·rw[z,List.length_set]; exact hkl
end Go.Proofs.YtbfgadekkemlcaaGreatDoor.K
namespace Go.Proofs.YtbfgadekkemlcaaGreatDoor.K
open Go Go.Kx
theorem KeysM.upd {S:Nat→Prop} {h h':H} (u:Upd S h h') {v:Value} {ks:List (List UInt8)} (q:KeysM h v ks) (hS:∀ b o sp n c,v = .slice (some ⟨b,o,sp⟩) n c→¬ S b):KeysM h' v ks:=by
 obtain⟨⟨tl,s⟩,k⟩:=q
 exact⟨⟨tl,s.upd u hS⟩,k⟩
structure St (hG h:H) (p:Nat) (A:Nat→Prop) (t:TK) (vi vo vl:Value) (ks:List (List UInt8)):Prop where
 g:Grow hG h
 row:h.get p=some (.cells (kc t vi vo) 25 0 false)
 k:TaskK A h t vi vo
 m:KeysM h vl ks
 w:Wr0 h vl
 hp:hG.next≤p
 hA:∀ b,A b→hG.next≤b∧b≠p
 hl:InB (fun b=>hG.next≤b∧b≠p∧¬ A b) vl
theorem St.grow {hG h h':H} {p:Nat} {A:Nat→Prop} {t:TK} {vi vo vl:Value} {ks:List (List UInt8)} (s:St hG h p A t vi vo vl ks) (g:Grow h h'):St hG h' p A t vi vo vl ks:=
 ⟨s.g.trans g,g.old _ _ s.row,s.k.grow g,s.m.grow g,s.w.grow g,s.hp,s.hA,s.hl⟩
theorem insB_set:∀ (l:List (List UInt8)) (i:Nat) (s:List UInt8),insB (l.set i s)≤insB l+s.length
 |[],i,s=>by cases i<;>simp[insB]
 |x::l,0,s=>by rw[List.set_cons_zero]; unfold insB; omega
 |x::l,i+1,s=>by have:=insB_set l i s; rw[List.set_cons_succ]; unfold insB; omega
theorem outsB_set1:∀ (l:List (List UInt8 × T1)) (i:Nat) (s:List UInt8) {p:List UInt8} {t:T1},l[i]? = some (p,t)→outsB (l.set i (s,t))≤outsB l+s.length
 |x::l,0,s,p,t,h=>by
  simp only[List.getElem?_cons_zero,Option.some.injEq] at h
  subst h
  rw[List.set_cons_zero]; simp only[outsB]; omega
 |x::l,i+1,s,p,t,h=>by
  simp only[List.getElem?_cons_succ] at h
  have:=outsB_set1 l i s h
  rw[List.set_cons_succ]; simp only[outsB]; omega
theorem outsB_set2:∀ (l:List (List UInt8 × T1)) (i:Nat) (s:List UInt8) {p:List UInt8} {t:T1},l[i]? = some (p,t)→outsB (l.set i (p,⟨t.k,s,t.n,t.m,t.args⟩))≤outsB l+s.length
 |x::l,0,s,p,t,h=>by
  simp only[List.getElem?_cons_zero,Option.some.injEq] at h
  subst h
  rw[List.set_cons_zero]; simp only[outsB,T1.bulk]; omega
 |x::l,i+1,s,p,t,h=>by
  simp only[List.getElem?_cons_succ] at h
  have:=outsB_set2 l i s h
  rw[List.set_cons_succ]; simp only[outsB]; omega
theorem xandN (z:Int) (m:Nat) (hm:m<4294967296):∃ n:Nat,n≤m∧∀ t h,xbin Tryz.prog .and t (.int .i64 z) (.int .i64 (m:Int)) h = .ok (.int .i64 (n:Int)) h:=by
 obtain⟨n,hn⟩ : ∃ n,n=(BitVec.ofInt 64 z &&& BitVec.ofInt 64 (m:Int)).toNat:=⟨_,rfl⟩
 have hm':(BitVec.ofInt 64 (m:Int)).toNat=m:=by simp; omega
 have hle:n≤m:=by
  rw[hn,BitVec.toNat_and,hm']
  exact Nat.and_le_right
 refine⟨n,hle,fun t h=>?_⟩
 have e:prun Tryz.prog (Op.intBits .and .i64 z (m:Int))=some (.ok (.int .i64 (n:Int))):=by
  show some (Except.ok (Value.int .i64 (IntKind.i64.wrap ((BitVec.ofInt 64 z &&& BitVec.ofInt 64 (m:Int)).toNat:Int))))=_
  rw[← hn,wrap64 (by omega)]
 show xflat (P:=Tryz.prog) (prun Tryz.prog (Op.intBits .and .i64 z (m:Int))) h=_
 rw[e]; rfl
theorem andI7 (z:Int):∃ n:Nat,n≤7∧∀ t h,xbin Tryz.prog .and t (.int .i64 z) (.int .i64 7) h = .ok (.int .i64 (n:Int)) h:=xandN z 7 (by omega)
theorem andI31 (z:Int):∃ n:Nat,n≤31∧∀ t h,xbin Tryz.prog .and t (.int .i64 z) (.int .i64 31) h = .ok (.int .i64 (n:Int)) h:=xandN z 31 (by omega)
theorem andI1023 (z:Int):∃ n:Nat,n≤1023∧∀ t h,xbin Tryz.prog .and t (.int .i64 z) (.int .i64 1023) h = .ok (.int .i64 (n:Int)) h:=xandN z 1023 (by omega)
section
variable {hG h:H} {p q:Nat} {A:Nat→Prop} {t:TK} {vi vo vl:Value} {ks:List (List UInt8)} {a b c:Int} {s:List UInt8}
def Stp (hG h:H) (p:Nat) (A:Nat→Prop) (t:TK) (vi vo vl:Value) (ks:List (List UInt8)) (x2 x3:Value) (ix:Nat) (r:Res Value):Prop:=
 ∃ h' t' ks',St hG h' p A t' vi vo vl ks'∧t'.bulk≤t.bulk+300∧ks'.length=ks.length∧r=F5.l5 Tryz.prog CLM nu0 nu0 x2 x3 (ptr p) vl (.int .i64 ((ix+1:Nat):Int)) h'
theorem t3_i (h':H) {n:Nat} (hn:n<3):xindexAddr Tryz.prog 43 (ptr q) (.int .i64 (n:Int)) h' = .ok (.pointer (some ⟨q,0+n*1,none⟩)) h':=ia43 q 0 n .i64 h' hn
theorem t3_0 (h':H):xindexAddr Tryz.prog 43 (ptr q) (.int .i64 0) h' = .ok (.pointer (some ⟨q,0+0*1,none⟩)) h':=t3_i h' (n:=0) (by omega)
theorem t3_1 (h':H):xindexAddr Tryz.prog 43 (ptr q) (.int .i64 1) h' = .ok (.pointer (some ⟨q,0+1*1,none⟩)) h':=t3_i h' (n:=1) (by omega)
theorem t3_2 (h':H):xindexAddr Tryz.prog 43 (ptr q) (.int .i64 2) h' = .ok (.pointer (some ⟨q,0+2*1,none⟩)) h':=t3_i h' (n:=2) (by omega)
theorem t3_l (hq:h.get q=some (.cells [.int .i64 a,.int .i64 b,.int .i64 c] 43 0 false)) {n:Nat} {z:Int} (hz : [a,b,c][n]? = some z):xload Tryz.prog 3 (.pointer (some ⟨q,0+n*1,none⟩)) h = .ok (.int .i64 z) h:=by
 have r:=Row.of hq
 have hz':([.int .i64 a,.int .i64 b,.int .i64 c]:List Value)[n]? = some (.int .i64 z):=by
  have:([.int .i64 a,.int .i64 b,.int .i64 c]:List Value)=[a,b,c].map (Value.int .i64):=rfl
  rw[this,List.getElem?_map,hz]; rfl
 rw[ld3,Nat.mul_one,r.cell hz',ofO_some]
theorem pl2 (a b:Int):plain2 (.int .i64 a) (.int .i64 b)=true:=rfl
theorem pl2' (a b:Int):plain2 (.int .u8 a) (.int .u8 b)=true:=rfl
theorem lenV_some {v:Value} {n:Nat} (h:∃ x cap,v = .slice x n cap):(lenV v).isSome=true:=by obtain⟨x,cap,rfl⟩:=h; rfl
theorem stpKey (st:St hG h p A t vi vo vl ks) (hq:h.get q=some (.cells [.int .i64 a,.int .i64 b,.int .i64 c] 43 0 false)) {ix:Nat} (hix:ix≤16)
  (fk:ks.length≤1000000) (x2 x3 x19:Value) (x32 x33 x57 x58 x59 x62 x63 x64 x65 x68 x69 x70 x73 x74 x75 x76 x91 x92 x93 x94 x95 x96 x116 x117 x118 x119 x138 x139 x140 x141 x161 x162 x163 x164:Value) :
  Stp hG h p A t vi vo vl ks x2 x3 ix (F5.j25 Tryz.prog CLM nu0 nu0 x2 x3 (ptr p) vl (.int .i64 (ix:Nat)) (ptr q) x19 x32 x33 x57 x58 x59 x62 x63 x64 x65 x68 x69 x70 x73 x74 x75 x76 x91 x92 x93 x94 x95 x96 x116 x117 x118 x119 x138 x139 x140 x141 (.bool false) x161 x162 x163 x164 h):=by
 have mk:=st.m.keys
 obtain⟨m,hm,em⟩:=andI1023 b
 obtain⟨u,hu,eu⟩:=andI31 c
 have i1:=t3_1 (q:=q) h
 have i2:=t3_2 (q:=q) h
 have l1:=t3_l hq (n:=1) (z:=b) rfl
 have l2:=t3_l hq (n:=2) (z:=c) rfl
 have sl:∃ x cap,vl = .slice x ks.length cap:=by
  obtain⟨x,cap,e⟩:=mk.1.val
  exact⟨x,cap,by rw[e,List.length_map]⟩
 by_cases hk:0<ks.length
 ·obtain⟨i,hi⟩ : ∃ i,i=m % ks.length:=⟨_,rfl⟩
  have hil:i<ks.length:=by rw[hi]; exact Nat.mod_lt _ hk
  obtain⟨key,hkey⟩ : ∃ key,ks[i]? = some key:=⟨_,List.getElem?_eq_getElem hil⟩
  have hkl:=mk.2 key (List.mem_of_getElem? hkey)
  have hu32:u<32:=by omega
  obtain⟨x,hx⟩ : ∃ x,key[u]? = some x:=⟨_,List.getElem?_eq_getElem (by omega)⟩
  obtain⟨y,hy⟩ : ∃ y:UInt8,y=UInt8.ofNat ((x.toNat+1) % 256):=⟨_,rfl⟩
  obtain⟨bl,o,sp,cap,h',ev,w1,u1,m1,w2⟩:=st.m.setAt st.w hkey hu32 y
  have hb:=st.hl bl o sp _ _ ev
  have g':Grow hG h':=st.g.own u1 fun z hz=>by subst hz; exact hb.1
  obtain⟨kb,ko,kia,krow,_⟩:=mk.at_ hkey
  have e0:=kia h
  rw[ev,ia26 _ _ _ _ _ _ _ _ hil,Res.ok.injEq,Value.pointer.injEq,Option.some.injEq,Addr.mk.injEq] at e0
  obtain⟨⟨e1,e2,_⟩,_⟩:=e0
  subst e1 e2
  have lx:xload Tryz.prog 5 (.pointer (some ⟨bl,o+i*32+u*1,none⟩)) h = .ok (.int .u8 (x.toNat:Int)) h:=by
   have hz:(byteVals key)[u]? = some (.int .u8 (x.toNat:Int)):=by unfold byteVals; rw[List.getElem?_map,hx]; rfl
   rw[ld5,Nat.mul_one,krow.cell hz,ofO_some]
  have hw:h.write ⟨bl,o+i*32+u*1,none⟩ [.int .u8 (y.toNat:Int)]=some h':=by rw[Nat.mul_one]; exact w1
  have ad:IntKind.u8.wrap ((x.toNat:Int)+1)=(y.toNat:Int):=by
   have:y.toNat=(x.toNat+1) % 256:=by rw[hy,UInt8.toNat_ofNat']; omega
   rw[this]
   simp[IntKind.wrap,IntKind.bits,IntKind.signed]
  refine⟨h',t,ks.set i (key.set u y),⟨g',u1.old _ _ (fun z=>hb.2.1 z.symm) st.row,st.k.upd u1 (fun z hz e=>by subst e; exact hb.2.2 hz),m1,w2,st.hp,st.hA,st.hl⟩,by omega,List.length_set ..,?_⟩
  have ix':∀ h',xindexAddr Tryz.prog 26 vl (.int .i64 (i:Nat)) h' = .ok (.pointer (some ⟨bl,o+i*32,none⟩)) h':=fun h'=>by rw[ev]; exact ia26 _ _ _ _ _ _ _ _ hil
  rw[F5.j25_eq,ifV_bool,cond_false,mk.len,go_ok,xgtr,go_ok,ifV_dec,if_pos (by omega),i1,Res.ok1_ok,l1,Res.ok1_ok,pl2,cond_true,em,Res.ok1_ok,lenV_some sl,cond_true,mk.len,Res.ok1_ok,pl2,cond_true,xremN _ _ _ m ks.length rfl _ hk,Res.ok1_ok,← hi,i2,Res.ok1_ok,l2,Res.ok1_ok,pl2,cond_true,eu,Res.ok1_ok,ix',Res.ok1_ok,ia32 _ _ _ _ _ hu32,Res.ok1_ok,lx,Res.ok1_ok,pl2',cond_true,xadd,Res.ok1_ok,ad,ix',Res.ok1_ok,ia32 _ _ _ _ _ hu32,Res.ok1_ok,st5 _ _ _ rfl,cells_int,hw,ofU_some,go_ok,xadd,go_ok,wad (by omega)]
 ·refine⟨h,t,ks,st,by omega,rfl,?_⟩
  rw[F5.j25_eq,ifV_bool,cond_false,mk.len,go_ok,xgtr,go_ok,ifV_dec,if_neg (by omega),xadd,go_ok,wad (by omega)]
theorem St.outs (st:St hG h p A t vi vo vl ks):∃ x cap,vo = .slice x t.outs.length cap:=by
 obtain⟨rows,tl,s,o⟩:=st.k.outs
 obtain⟨x,cap,e⟩:=s.sl.val
 exact⟨x,cap,by rw[e,o.len]⟩
theorem St.ins (st:St hG h p A t vi vo vl ks):∃ x cap,vi = .slice x t.ins.length cap:=by
 obtain⟨tl,s⟩:=st.k.ins
 obtain⟨x,cap,e⟩:=s.sl.val
 exact⟨x,cap,by rw[e,sr_len]⟩
theorem ln_outs (st:St hG h p A t vi vo vl ks) (h':H):xbuiltin Tryz.prog .len [23] [vo] h' = .ok (.int .i64 (t.outs.length:Nat)) h':=by
 obtain⟨x,cap,e⟩:=st.outs
 rw[e]; exact ln23 _ _ _ _
theorem ln_ins (st:St hG h p A t vi vo vl ks) (h':H):xbuiltin Tryz.prog .len [22] [vi] h' = .ok (.int .i64 (t.ins.length:Nat)) h':=by
 obtain⟨x,cap,e⟩:=st.ins
 rw[e]; exact ln22 _ _ _ _
theorem St.own (st:St hG h p A t vi vo vl ks) {h':H} {t':TK} {b:Nat} (hb:A b) (u:Upd (fun x=>x=b) h h') (k':TaskK A h' t' vi vo) (e:kc t' vi vo=kc t vi vo):St hG h' p A t' vi vo vl ks:=by
 have hb':=st.hA b hb
 have nl:∀ b' o sp n c,vl = .slice (some ⟨b',o,sp⟩) n c→¬ b'=b:=fun b' o sp n c z y=>by subst y; exact (st.hl _ _ _ _ _ z).2.2 hb
 exact⟨st.g.own u fun z hz=>by subst hz; exact hb'.1,by rw[e]; exact u.old _ _ (fun z=>hb'.2 z.symm) st.row,k',st.m.upd u nl,st.w.upd u nl,st.hp,st.hA,st.hl⟩
theorem stpText (st:St hG h p A t vi vo vl ks) (hq:h.get q=some (.cells [.int .i64 a,.int .i64 b,.int .i64 c] 43 0 false)) {ix:Nat} (hix:ix≤16) (fk:ks.length≤1000000) (fb:t.bulk≤4000000) (hs:s.length≤300) (x2 x3:Value) (hl:0<t.outs.length) (x32 x33 x57 x58 x59 x62 x63 x64 x65 x68 x69 x70 x73 x74 x75 x76 x91 x92 x93 x94 x95 x96 x116 x117 x118 x119 x138 x139 x140 x141 x161 x162 x163 x164:Value) :
  Stp hG h p A t vi vo vl ks x2 x3 ix (F5.j25 Tryz.prog CLM nu0 nu0 x2 x3 (ptr p) vl (.int .i64 (ix:Nat)) (ptr q) (.string ⟨⟨s⟩⟩) x32 x33 x57 x58 x59 x62 x63 x64 x65 x68 x69 x70 x73 x74 x75 x76 x91 x92 x93 x94 x95 x96 x116 x117 x118 x119 x138 x139 x140 x141 (.bool true) x161 x162 x163 x164 h):=by
 obtain⟨m,hm,em⟩:=andI1023 b
 have i1:=t3_1 (q:=q) h
 have l1:=t3_l hq (n:=1) (z:=b) rfl
 have row:=Row.of st.row
 obtain⟨i,hi⟩ : ∃ i,i=m % t.outs.length:=⟨_,rfl⟩
 have hil:i<t.outs.length:=by rw[hi]; exact Nat.mod_lt _ hl
 obtain⟨bo,o,sp,cap,pp,tm,hA,ev,hx,hw⟩:=st.k.setOut hil
 obtain⟨h',w1,u1,k1⟩:=(hw s).2
 have hbk:=outsB_set2 t.outs i s hx
 refine⟨h',_,ks,st.own hA u1 k1 rfl,by unfold TK.bulk; simp only; omega,rfl,?_⟩
 have io:∀ h',xindexAddr Tryz.prog 23 vo (.int .i64 (i:Nat)) h' = .ok (.pointer (some ⟨bo,o+i*6,none⟩)) h':=fun h'=>by rw[ev]; exact ia23 _ _ _ _ _ _ _ _ hil
 have w1':h.write ⟨bo,o+i*6+1+1,none⟩ [.string ⟨⟨s⟩⟩]=some h':=w1
 rw[F5.j25_eq,ifV_bool,cond_true,fa25_3,Res.ok1_ok,d3 row,Res.ok1_ok,i1,Res.ok1_ok,l1,Res.ok1_ok,pl2,cond_true,em,Res.ok1_ok,fa25_3,Res.ok1_ok,d3 row,Res.ok1_ok,lenV_some st.outs,cond_true,ln_outs st,Res.ok1_ok,pl2,cond_true,xremN _ _ _ m t.outs.length rfl _ hl,Res.ok1_ok,← hi,io,Res.ok1_ok,fa48_1,Res.ok1_ok,fa46_1,Res.ok1_ok,st9 _ _ _ rfl,cells_str,w1',ofU_some,go_ok,xadd,go_ok,wad (by omega)]
theorem stp23f (st:St hG h p A t vi vo vl ks) (hq:h.get q=some (.cells [.int .i64 a,.int .i64 b,.int .i64 c] 43 0 false)) {ix:Nat} (hix:ix≤16) (fk:ks.length≤1000000) (fb:t.bulk≤4000000) (hs:s.length≤300) (x2 x3:Value) {n:Nat} (en:∀ t h,xbin Tryz.prog .and t (.int .i64 a) (.int .i64 7) h = .ok (.int .i64 (n:Int)) h) (x32 x33 x57 x58 x59 x62 x63 x64 x65 x68 x69 x70 x73 x74 x75 x76 x91 x92 x93 x94 x95 x96 x116 x117 x118 x119 x138 x139 x140 x141:Value) :
  Stp hG h p A t vi vo vl ks x2 x3 ix (F5.j23 Tryz.prog CLM nu0 nu0 x2 x3 (ptr p) vl (.int .i64 (ix:Nat)) (ptr q) (.string ⟨⟨s⟩⟩) x32 x33 x57 x58 x59 x62 x63 x64 x65 x68 x69 x70 x73 x74 x75 x76 x91 x92 x93 x94 x95 x96 x116 x117 x118 x119 (.bool false) x138 x139 x140 x141 h):=by
 have i0:=t3_0 (q:=q) h
 have l0:=t3_l hq (n:=0) (z:=a) rfl
 have row:=Row.of st.row
 rw[F5.j23_eq,ifV_bool,cond_false,i0,go_ok,l0,go_ok,en,go_ok,xeql,go_ok,ifV_dec]
 by_cases h7:(n:Int)=7
 ·rw[if_pos h7,fa25_3,go_ok,d3 row,go_ok,ln_outs st,go_ok,xgtr,go_ok]
  by_cases hl:0<t.outs.length
  ·rw[decide_eq_true (by omega:(0:Int)<(t.outs.length:Nat))]
   exact stpText st hq hix fk fb hs x2 x3 hl ..
  ·rw[decide_eq_false (by omega:¬ (0:Int)<(t.outs.length:Nat))]
   exact stpKey st hq hix fk x2 x3 ..
 ·rw[if_neg h7]
  exact stpKey st hq hix fk x2 x3 ..
theorem stpPath (st:St hG h p A t vi vo vl ks) (hq:h.get q=some (.cells [.int .i64 a,.int .i64 b,.int .i64 c] 43 0 false)) {ix:Nat} (hix:ix≤16) (fk:ks.length≤1000000) (fb:t.bulk≤4000000) (hs:s.length≤300) (x2 x3:Value) (hl:0<t.outs.length) (x32 x33 x57 x58 x59 x62 x63 x64 x65 x68 x69 x70 x73 x74 x75 x76 x91 x92 x93 x94 x95 x96 x116 x117 x118 x119 x138 x139 x140 x141:Value) :
  Stp hG h p A t vi vo vl ks x2 x3 ix (F5.j23 Tryz.prog CLM nu0 nu0 x2 x3 (ptr p) vl (.int .i64 (ix:Nat)) (ptr q) (.string ⟨⟨s⟩⟩) x32 x33 x57 x58 x59 x62 x63 x64 x65 x68 x69 x70 x73 x74 x75 x76 x91 x92 x93 x94 x95 x96 x116 x117 x118 x119 (.bool true) x138 x139 x140 x141 h):=by
 obtain⟨m,hm,em⟩:=andI1023 b
 have i1:=t3_1 (q:=q) h
 have l1:=t3_l hq (n:=1) (z:=b) rfl
 have row:=Row.of st.row
 obtain⟨i,hi⟩ : ∃ i,i=m % t.outs.length:=⟨_,rfl⟩
 have hil:i<t.outs.length:=by rw[hi]; exact Nat.mod_lt _ hl
 obtain⟨bo,o,sp,cap,pp,tm,hA,ev,hx,hw⟩:=st.k.setOut hil
 obtain⟨h',w1,u1,k1⟩:=(hw s).1
 have hbk:=outsB_set1 t.outs i s hx
 refine⟨h',_,ks,st.own hA u1 k1 rfl,by unfold TK.bulk; simp only; omega,rfl,?_⟩
 have io:∀ h',xindexAddr Tryz.prog 23 vo (.int .i64 (i:Nat)) h' = .ok (.pointer (some ⟨bo,o+i*6,none⟩)) h':=fun h'=>by rw[ev]; exact ia23 _ _ _ _ _ _ _ _ hil
 rw[F5.j23_eq,ifV_bool,cond_true,fa25_3,Res.ok1_ok,d3 row,Res.ok1_ok,i1,Res.ok1_ok,l1,Res.ok1_ok,pl2,cond_true,em,Res.ok1_ok,fa25_3,Res.ok1_ok,d3 row,Res.ok1_ok,lenV_some st.outs,cond_true,ln_outs st,Res.ok1_ok,pl2,cond_true,xremN _ _ _ m t.outs.length rfl _ hl,Res.ok1_ok,← hi,io,Res.ok1_ok,fa48_0,Res.ok1_ok,st9 _ _ _ rfl,cells_str,w1,ofU_some,go_ok,xadd,go_ok,wad (by omega)]
theorem stp21f (st:St hG h p A t vi vo vl ks) (hq:h.get q=some (.cells [.int .i64 a,.int .i64 b,.int .i64 c] 43 0 false)) {ix:Nat} (hix:ix≤16) (fk:ks.length≤1000000) (fb:t.bulk≤4000000) (hs:s.length≤300) (x2 x3:Value) {n:Nat} (en:∀ t h,xbin Tryz.prog .and t (.int .i64 a) (.int .i64 7) h = .ok (.int .i64 (n:Int)) h) (x32 x33 x57 x58 x59 x62 x63 x64 x65 x68 x69 x70 x73 x74 x75 x76 x91 x92 x93 x94 x95 x96 x116 x117 x118 x119:Value) :
  Stp hG h p A t vi vo vl ks x2 x3 ix (F5.j21 Tryz.prog CLM nu0 nu0 x2 x3 (ptr p) vl (.int .i64 (ix:Nat)) (ptr q) (.string ⟨⟨s⟩⟩) x32 x33 x57 x58 x59 x62 x63 x64 x65 x68 x69 x70 x73 x74 x75 x76 x91 x92 x93 x94 x95 x96 (.bool false) x116 x117 x118 x119 h):=by
 have i0:=t3_0 (q:=q) h
 have l0:=t3_l hq (n:=0) (z:=a) rfl
 have row:=Row.of st.row
 rw[F5.j21_eq,ifV_bool,cond_false,i0,go_ok,l0,go_ok,en,go_ok,xeql,go_ok,ifV_dec]
 by_cases h5:(n:Int)=5
 ·rw[if_pos h5,fa25_3,go_ok,d3 row,go_ok,ln_outs st,go_ok,xgtr,go_ok]
  by_cases hl:0<t.outs.length
  ·rw[decide_eq_true (by omega:(0:Int)<(t.outs.length:Nat))]
   exact stpPath st hq hix fk fb hs x2 x3 hl ..
  ·rw[decide_eq_false (by omega:¬ (0:Int)<(t.outs.length:Nat))]
   exact stp23f st hq hix fk fb hs x2 x3 en ..
 ·rw[if_neg h5]
  exact stp23f st hq hix fk fb hs x2 x3 en ..
theorem stpIn (st:St hG h p A t vi vo vl ks) (hq:h.get q=some (.cells [.int .i64 a,.int .i64 b,.int .i64 c] 43 0 false)) {ix:Nat} (hix:ix≤16) (fk:ks.length≤1000000) (fb:t.bulk≤4000000) (hs:s.length≤300) (x2 x3:Value) (hl:0<t.ins.length) (x32 x33 x57 x58 x59 x62 x63 x64 x65 x68 x69 x70 x73 x74 x75 x76 x91 x92 x93 x94 x95 x96 x116 x117 x118 x119:Value) :
  Stp hG h p A t vi vo vl ks x2 x3 ix (F5.j21 Tryz.prog CLM nu0 nu0 x2 x3 (ptr p) vl (.int .i64 (ix:Nat)) (ptr q) (.string ⟨⟨s⟩⟩) x32 x33 x57 x58 x59 x62 x63 x64 x65 x68 x69 x70 x73 x74 x75 x76 x91 x92 x93 x94 x95 x96 (.bool true) x116 x117 x118 x119 h):=by
 obtain⟨m,hm,em⟩:=andI1023 b
 have i1:=t3_1 (q:=q) h
 have l1:=t3_l hq (n:=1) (z:=b) rfl
 have row:=Row.of st.row
 obtain⟨i,hi⟩ : ∃ i,i=m % t.ins.length:=⟨_,rfl⟩
 have hil:i<t.ins.length:=by rw[hi]; exact Nat.mod_lt _ hl
 obtain⟨bo,o,sp,cap,h',hA,ev,w1,u1,k1⟩:=st.k.setIn hil s
 have hbk:=insB_set t.ins i s
 refine⟨h',_,ks,st.own hA u1 k1 rfl,by unfold TK.bulk; simp only; omega,rfl,?_⟩
 have io:∀ h',xindexAddr Tryz.prog 22 vi (.int .i64 (i:Nat)) h' = .ok (.pointer (some ⟨bo,o+i*1,none⟩)) h':=fun h'=>by rw[ev]; exact ia22 _ _ _ _ _ _ _ _ hil
 rw[F5.j21_eq,ifV_bool,cond_true,fa25_2,Res.ok1_ok,d2 row,Res.ok1_ok,i1,Res.ok1_ok,l1,Res.ok1_ok,pl2,cond_true,em,Res.ok1_ok,fa25_2,Res.ok1_ok,d2 row,Res.ok1_ok,lenV_some st.ins,cond_true,ln_ins st,Res.ok1_ok,pl2,cond_true,xremN _ _ _ m t.ins.length rfl _ hl,Res.ok1_ok,← hi,io,Res.ok1_ok,st9 _ _ _ rfl,cells_str,w1,ofU_some,go_ok,xadd,go_ok,wad (by omega)]
theorem stp18 (st:St hG h p A t vi vo vl ks) (hq:h.get q=some (.cells [.int .i64 a,.int .i64 b,.int .i64 c] 43 0 false)) {ix:Nat} (hix:ix≤16) (fk:ks.length≤1000000) (fb:t.bulk≤4000000) (hs:s.length≤300) (x2 x3:Value) (x32 x33 x57 x58 x59 x62 x63 x64 x65 x68 x69 x70 x73 x74 x75 x76 x91 x92 x93 x94 x95 x96:Value) :
  Stp hG h p A t vi vo vl ks x2 x3 ix (F5.j18 Tryz.prog CLM nu0 nu0 x2 x3 (ptr p) vl (.int .i64 (ix:Nat)) (ptr q) (.string ⟨⟨s⟩⟩) x32 x33 x57 x58 x59 x62 x63 x64 x65 x68 x69 x70 x73 x74 x75 x76 x91 x92 x93 x94 x95 x96  h):=by
 obtain⟨n,hn,en⟩:=andI7 a
 have i0:=t3_0 (q:=q) h
 have l0:=t3_l hq (n:=0) (z:=a) rfl
 have row:=Row.of st.row
 rw[F5.j18_eq,i0,go_ok,l0,go_ok,en,go_ok,xeql,go_ok,ifV_dec]
 by_cases h1:(n:Int)=1
 ·obtain⟨h',hh'⟩ : ∃ h',h'=h.put p (.cells (kc ⟨t.name,c,t.ins,t.outs⟩ vi vo) 25 0 false):=⟨_,rfl⟩
  have hg:h'.get p=some (.cells (kc ⟨t.name,c,t.ins,t.outs⟩ vi vo) 25 0 false):=by rw[hh']; exact H.put_self st.row
  have hw:h.write ⟨p,0+1,none⟩ [.int .i64 c]=some h':=by rw[hh',H.write_eq st.row (by simp) rfl]; rfl
  have u:Upd (fun y=>y=p) h h':=by rw[hh']; exact (Upd.refl (fun y=>y=p) h).put (.inl rfl) (H.get_lt st.row) _
  have nl:∀ b' o sp n c,vl = .slice (some ⟨b',o,sp⟩) n c→¬ b'=p:=fun b' o sp n c z=>(st.hl _ _ _ _ _ z).2.1
  have k1:=st.k.upd u (fun b' hb=>(st.hA b' hb).2)
  obtain⟨k2,k3,k4,k5,k6,k7,k8⟩:=k1
  refine⟨h',⟨t.name,c,t.ins,t.outs⟩,ks,⟨st.g.own u fun z hz=>by subst hz; exact st.hp,hg,⟨k2,k3,k4,k5,k6,k7,k8⟩,st.m.upd u nl,st.w.upd u nl,st.hp,st.hA,st.hl⟩,by unfold TK.bulk; simp only; omega,rfl,?_⟩
  rw[if_pos h1,t3_2,go_ok,t3_l hq (n:=2) (z:=c) rfl,go_ok,fa25_1,go_ok,st3 _ _ _ rfl,cells_int,hw,ofU_some,go_ok,xadd,go_ok,wad (by omega)]
 ·rw[if_neg h1,i0,go_ok,l0,go_ok,en,go_ok,xeql,go_ok,ifV_dec]
  by_cases h3:(n:Int)=3
  ·rw[if_pos h3,fa25_2,go_ok,d2 row,go_ok,ln_ins st,go_ok,xgtr,go_ok]
   by_cases hl:0<t.ins.length
   ·rw[decide_eq_true (by omega:(0:Int)<(t.ins.length:Nat))]
    exact stpIn st hq hix fk fb hs x2 x3 hl ..
   ·rw[decide_eq_false (by omega:¬ (0:Int)<(t.ins.length:Nat))]
    exact stp21f st hq hix fk fb hs x2 x3 en ..
  ·rw[if_neg h3]
   exact stp21f st hq hix fk fb hs x2 x3 en ..
end
end Go.Proofs.YtbfgadekkemlcaaGreatDoor.K
namespace Go.Proofs.YtbfgadekkemlcaaGreatDoor.K
open Go Go.Kx
theorem spill25g (l:List Value) (hl:l.length=4) (ho:ones l=true) (h:H):∃ h',Grow h h'∧h'.get h.next=some (.cells l 25 0 false)∧∀ K:Value→Value→H→Res Value,((xalloc Tryz.prog 25 h).go .pan fun t h=>((xstore Tryz.prog 25 t (.agg ⟨l⟩) h).go .pan (K t)))=K (.pointer (some ⟨h.next,0,none⟩)) undef h':=by
 obtain⟨h1,hh1⟩ : ∃ h1,h1=h.alloc (.cells zc25 25 0 false):=⟨_,rfl⟩
 have g1:h1.get h.next=some (.cells zc25 25 0 false):=by rw[hh1]; exact H.alloc_self _ _
 obtain⟨h2,hh2⟩ : ∃ h2,h2=h1.put h.next (.cells l 25 0 false):=⟨_,rfl⟩
 have g2:h2.get h.next=some (.cells l 25 0 false):=by rw[hh2]; exact H.put_self g1
 have hw:h1.write ⟨h.next,0,none⟩ l=some h2:=by rw[hh2]; exact H.write_all g1 (by rw[hl,zc25_len]) ho
 refine⟨h2,by rw[hh2]; exact Grow.put (by rw[hh1]; exact (Grow.refl h).alloc _) (Nat.le_refl _) (H.get_lt g1) _,g2,fun K=>?_⟩
 rw[al25,go_ok,← hh1,st25 _ _ _ (by rw[asz,hl]),cells_agg,hw,ofU_some,go_ok]
theorem spill43 (l:List Value) (hl:l.length=3) (ho:ones l=true) (h:H):∃ h',Grow h h'∧h'.get h.next=some (.cells l 43 0 false)∧∀ K:Value→Value→H→Res Value,((xalloc Tryz.prog 43 h).go .pan fun t h=>((xstore Tryz.prog 43 t (.agg ⟨l⟩) h).go .pan (K t)))=K (.pointer (some ⟨h.next,0,none⟩)) undef h':=by
 obtain⟨h1,hh1⟩ : ∃ h1,h1=h.alloc (.cells zc43 43 0 false):=⟨_,rfl⟩
 have g1:h1.get h.next=some (.cells zc43 43 0 false):=by rw[hh1]; exact H.alloc_self _ _
 obtain⟨h2,hh2⟩ : ∃ h2,h2=h1.put h.next (.cells l 43 0 false):=⟨_,rfl⟩
 have g2:h2.get h.next=some (.cells l 43 0 false):=by rw[hh2]; exact H.put_self g1
 have hw:h1.write ⟨h.next,0,none⟩ l=some h2:=by rw[hh2]; exact H.write_all g1 (by rw[hl,zc43_len]) ho
 refine⟨h2,by rw[hh2]; exact Grow.put (by rw[hh1]; exact (Grow.refl h).alloc _) (Nat.le_refl _) (H.get_lt g1) _,g2,fun K=>?_⟩
 rw[al43,go_ok,← hh1,st43 _ _ _ (by rw[asz,hl]),cells_agg,hw,ofU_some,go_ok]
def tv (x:Int × Int × Int):List Value:=[.int .i64 x.1,.int .i64 x.2.1,.int .i64 x.2.2]
def TurnsR (h:H) (v:Value) (ts:List (Int × Int × Int)):Prop:=Sl 3 h v (ts.map tv)
theorem TurnsR.len {h:H} {v:Value} {ts:List (Int × Int × Int)} (q:TurnsR h v ts) (h':H):xbuiltin Tryz.prog .len [38] [v] h' = .ok (.int .i64 (ts.length:Nat)) h':=by
 obtain⟨a,cap,e⟩:=Sl.val q
 rw[e,List.length_map]; exact ln38 _ _ _ _
theorem TurnsR.at_ {h:H} {v:Value} {ts:List (Int × Int × Int)} (q:TurnsR h v ts) {i:Nat} {x:Int × Int × Int} (hx:ts[i]? = some x) :
  ∃ a,(∀ h',xindexAddr Tryz.prog 38 v (.int .i64 (i:Nat)) h' = .ok (.pointer (some a)) h')∧∀ h',Grow h h'→xload Tryz.prog 43 (.pointer (some a)) h' = .ok (.agg ⟨tv x⟩) h':=by
 have hr:(ts.map tv)[i]? = some (tv x):=by rw[List.getElem?_map,hx]; rfl
 obtain⟨b,o,sp,cap,rfl,row,_⟩:=Sl.at_ q hr
 have hi:i<(ts.map tv).length:=(List.getElem?_eq_some_iff.1 hr).1
 exact⟨_,fun h'=>ia38 _ _ _ _ _ _ _ _ hi,fun h' g=>by rw[ld43,(row.grow g).row (show (tv x).length=3 from rfl),ofA_some]⟩
theorem turnOk {hG h:H} {p:Nat} {A:Nat→Prop} {t:TK} {vi vo vl:Value} {ks:List (List UInt8)} (st:St hG h p A t vi vo vl ks) (pt:PT hG) (gt:GT hG) (few:t.bulk≤4000000) (fk:ks.length≤1000000) (x2 x3 x11 x32 x33:Value) :
  ∃ h',Grow h h'∧∃ a1 a2 a3 a4 a5 a6 a7 a8 a9 a10 a11 a12 a13 a14,F5.j7 Tryz.prog CLM nu0 nu0 x2 x3 (ptr p) vl x11 x32 x33 h=F5.j13 Tryz.prog CLM nu0 nu0 x2 x3 (ptr p) vl x11 x32 x33 a1 a2 a3 a4 a5 a6 a7 a8 a9 a10 a11 a12 a13 a14 h':=by
 have r:=Row.of st.row
 have pt:=pt.grow st.g
 have gt:=gt.grow st.g
 have kr:=st.m.keys
 have hml:(ks.map byteVals).length=ks.length:=List.length_map ..
 obtain⟨h1,vi1,vo1,g1,k1,e1⟩:=eCopyTask st.k.raw few
 obtain⟨h2,g2,r2,e2⟩:=spill25 (kc t vi1 vo1) rfl k1.taskR.ones h1
 have g02:=g1.trans g2
 obtain⟨w3,bw3,h3,m3,e3⟩:=appNil LKe (kr.grow g02).1 (by omega)
 have g23:=m3.g
 have g03:=g02.trans g23
 obtain⟨tl3,s3⟩:=m3.slx LKe
 have kh:KeysR h3 w3 ks:=⟨s3.sl,kr.2⟩
 obtain⟨h4,g4,e4⟩:=eFp (st.k.grow g03).taskR (kr.grow g03) (pt.grow g03) (gt.grow g03) few fk
 have lf:=fpK_len t ks
 obtain⟨h5,g5,y5,e5⟩:=spill32 (byteVals (fpK t ks)) (by rw[bv_len,lf]) (bv_ones _) h4
 have g35:=g4.trans g5
 have k15:=k1.grow (g2.trans (g23.trans g35))
 obtain⟨h6,g6,e6⟩:=eRfp k15.taskR (kh.grow g35) few fk
 obtain⟨h7,g7,y7,e7⟩:=spill32 (byteVals (fpK t ks)) (by rw[bv_len,lf]) (bv_ones _) h6
 have g57:=g6.trans g7
 have g37:=g35.trans g57
 have g07:=g03.trans g37
 have y57:=g57.old _ _ y5
 have k17:=k15.grow g57
 obtain⟨h8,g8,e8⟩:=eSameTask (st.k.grow g07).taskR k17.taskR few
 rw[sameT_self] at e8
 have g08:=g07.trans g8
 obtain⟨h9,g9,e9⟩:=eKept (st.k.grow g08) few
 have g09:=g08.trans g9
 have e10:=eIntact (st.m.grow g09) (kh.grow ((g37.trans g8).trans g9)) fk
 have r25:Row h5 h1.next 0 (kc t vi1 vo1):=r2.grow (g23.trans g35)
 have r27:=r25.grow g57
 refine⟨h9,g09,?_⟩
 rw[F5.j7_eq,r.get25 rfl,go_ok,e1,go_ok,e2,e3,go_ok,(r.grow g03).get25 rfl,go_ok,e4,go_ok,xextract_0,go_ok,xextract_1,go_ok,e5,r25.get25 rfl,go_ok,e6,go_ok,xextract_0,go_ok,xextract_1,go_ok,e7,ldKey y57 (by rw[bv_len,lf]),go_ok,ldKey y7 (by rw[bv_len,lf]),go_ok,kneK lf lf,go_ok,ifV_not,if_pos rfl,xneq,go_ok,ifV_not,if_pos rfl,(r.grow g07).get25 rfl,go_ok,r27.get25 rfl,go_ok,e8,go_ok,xun_not,go_ok,ifV_bool,Bool.not_true,cond_false,(r.grow g08).get25 rfl,go_ok,e9,go_ok,xun_not,go_ok,ifV_bool,Bool.not_true,cond_false,e10,go_ok,xun_not,go_ok,ifV_bool,Bool.not_true,cond_false]
 exact⟨_,_,_,_,_,_,_,_,_,_,_,_,_,_,rfl⟩
theorem againL {hG:H} {p:Nat} {A:Nat→Prop} {vi vo vl x2 x3:Value} {ts:List (Int × Int × Int)} {ps:List (List UInt8)} (pt:PT hG) (gt:GT hG) (qt:TurnsR hG x2 ts) (qp:StrR hG x3 ps) :
  ∀ (d ix:Nat) {h:H} {t:TK} {ks:List (List UInt8)},17 - ix≤d→ix≤17→ix≤ts.length→St hG h p A t vi vo vl ks→t.bulk+300*(17 - ix)≤4000000→ks.length≤70 →
   ∃ h',Grow hG h'∧F5.l5 Tryz.prog CLM nu0 nu0 x2 x3 (ptr p) vl (.int .i64 (ix:Nat)) h = .ok (.bool true) h':=by
 intro d
 have head:∀ (ix:Nat) (h:H),ix≤ts.length→F5.l5 Tryz.prog CLM nu0 nu0 x2 x3 (ptr p) vl (.int .i64 (ix:Nat)) h=if ((ix:Nat):Int)≤16 then F5.j7 Tryz.prog CLM nu0 nu0 x2 x3 (ptr p) vl (.int .i64 (ix:Nat)) (.int .i64 (ix:Nat)) (.bool (decide (((ix:Nat):Int)≤16))) h else .ok (.bool true) h:=by
  intro ix h hi
  rw[F5.l5_eq,qt.len,go_ok,xleq,go_ok,ifV_dec,if_pos (by omega),xleq,go_ok,ifV_dec,F5.j28_eq]
 induction d with
 |zero=>
  intro ix h t ks hd h17 hi st few fk
  refine⟨h,st.g,?_⟩
  rw[head ix h hi,if_neg (by omega)]
 |succ d ih=>
  intro ix h t ks hd h17 hi st few fk
  by_cases h16:ix≤16
  ·obtain⟨h1,g1,a1,a2,a3,a4,a5,a6,a7,a8,a9,a10,a11,a12,a13,a14,e1⟩:=turnOk st pt gt (by omega) (by omega) x2 x3 (.int .i64 (ix:Nat)) (.int .i64 (ix:Nat)) (.bool (decide (((ix:Nat):Int)≤16)))
   have st1:=st.grow g1
   rw[head ix h hi,if_pos (by omega),e1,F5.j13_eq,qt.len,go_ok,xeql,go_ok,ifV_dec]
   by_cases hie:ix=ts.length
   ·refine⟨h1,st1.g,?_⟩
    rw[if_pos (by omega),F5.j28_eq]
   ·rw[if_neg (by omega)]
    obtain⟨x,hx⟩ : ∃ x,ts[ix]? = some x:=⟨_,List.getElem?_eq_getElem (by omega)⟩
    obtain⟨a,b,c⟩:=x
    obtain⟨q0,iq,lq⟩:=qt.at_ hx
    obtain⟨h2,g2,y2,e2⟩:=spill43 (tv (a,b,c)) rfl rfl h1
    have st2:=st1.grow g2
    have key:∃ (s:List UInt8),s.length≤300∧∃ (b1 b2 b3 b4 b5 b6:Value),F5.j14 Tryz.prog CLM nu0 nu0 x2 x3 (ptr p) vl (.int .i64 (ix:Nat)) (.int .i64 (ix:Nat)) (.bool (decide (((ix:Nat):Int)≤16))) a1 a2 a3 a4 a5 a6 a7 a8 a9 a10 a11 a12 a13 a14 h1 =
      F5.j18 Tryz.prog CLM nu0 nu0 x2 x3 (ptr p) vl (.int .i64 (ix:Nat)) (ptr h1.next) (.string ⟨⟨s⟩⟩) (.int .i64 (ix:Nat)) (.bool (decide (((ix:Nat):Int)≤16))) a1 a2 a3 a4 a5 a6 a7 a8 a9 a10 a11 a12 a13 a14 b1 b2 b3 b4 b5 b6 h2:=by
     by_cases hp:ix<ps.length
     ·obtain⟨l,hl⟩ : ∃ l,ps[ix]? = some l:=⟨_,List.getElem?_eq_getElem hp⟩
      obtain⟨ap,ia,ca⟩:=qp.at_ hl
      obtain⟨ap2,ia2,ca2⟩:=(qp.grow st2.g).at_ hl
      have same:ap2=ap:=by
       have:=(ia2 h2).symm.trans (ia h2)
       rw[Res.ok.injEq,Value.pointer.injEq,Option.some.injEq] at this
       exact this.1
      subst same
      by_cases h300:l.length<300
      ·refine⟨l,by omega,?_⟩
       rw[F5.j14_eq,iq,go_ok,lq _ st1.g,go_ok,e2,qp.len,go_ok,xlss,go_ok,ifV_dec,if_pos (by omega),ia,go_ok,ld9,ca2,ofO_some,go_ok,lnS,go_ok,xlss,go_ok,ifV_dec,if_pos (by rw[bl_mk]; omega),ia,go_ok,ld9,ca2,ofO_some,go_ok]
       exact⟨_,_,_,_,_,_,rfl⟩
      ·refine⟨[],by simp,?_⟩
       rw[F5.j14_eq,iq,go_ok,lq _ st1.g,go_ok,e2,qp.len,go_ok,xlss,go_ok,ifV_dec,if_pos (by omega),ia,go_ok,ld9,ca2,ofO_some,go_ok,lnS,go_ok,xlss,go_ok,ifV_dec,if_neg (by rw[bl_mk]; omega)]
       exact⟨_,_,_,_,_,_,rfl⟩
     ·refine⟨[],by simp,?_⟩
      rw[F5.j14_eq,iq,go_ok,lq _ st1.g,go_ok,e2,qp.len,go_ok,xlss,go_ok,ifV_dec,if_neg (by omega)]
      exact⟨_,_,_,_,_,_,rfl⟩
    obtain⟨s,hs,b1,b2,b3,b4,b5,b6,e3⟩:=key
    obtain⟨h3,t',ks',st3,hb3,hk3,e4⟩:=stp18 st2 y2 h16 (by omega) (by omega) hs x2 x3 (.int .i64 (ix:Nat)) (.bool (decide (((ix:Nat):Int)≤16))) a1 a2 a3 a4 a5 a6 a7 a8 a9 a10 a11 a12 a13 a14 b1 b2 b3 b4 b5 b6
    rw[e3,e4]
    exact ih (ix+1) (by omega) (by omega) (by omega) st3 (by omega) (by omega)
  ·refine⟨h,st.g,?_⟩
   rw[head ix h hi,if_neg (by omega)]
theorem eAgain {h:H} {t:TK} {vi vo x1 x2 x3:Value} {ks:List (List UInt8)} {ts:List (Int × Int × Int)} {ps:List (List UInt8)} (q:RawC h t vi vo) (kr:KeysR h x1 ks) (tk:Told70 x1 ks.length) (qt:TurnsR h x2 ts) (qp:StrR h x3 ps) (pt:PT h) (gt:GT h) (few:t.bulk≤2000000) :
  ∃ h',Grow h h'∧CLM (.f 5) [.agg ⟨kc t vi vo⟩,x1,x2,x3] h = .ok (.bool true) h':=by
 obtain⟨eb,gb,r⟩:=box_row 25 (kc t vi vo) h
 obtain⟨h1,hh1⟩ : ∃ h1,h1=h.alloc (.cells (kc t vi vo) 25 0 false):=⟨_,rfl⟩
 rw[← hh1] at eb gb r
 obtain⟨h2,g2,e2⟩:=eTold (pt.grow gb) (gt.grow gb)
 have g02:=gb.trans g2
 obtain⟨h3,t',vi',vo',g3,hb,k3,e3⟩:=eCutTask (q.grow g02) (by omega)
 have g03:=g02.trans g3
 obtain⟨vj,ks',kj,lj,ej⟩:=eCutKeysG kr tk
 obtain⟨h4,vl,g4,m4,e4,w4,in4⟩:=eKlaid (kj.grow g03) (by omega)
 have g04:=g03.trans g4
 obtain⟨h5,g5,y5,e5⟩:=spill25g (kc t' vi' vo') rfl (k3.grow g4).taskR.ones h4
 have n3:=g02.next
 have n34:=g4.next
 have n23:=g3.next
 have st:St h h5 h4.next (Btw h2 h3) t' vi' vo' vl ks':=⟨g04.trans g5,y5,k3.grow (g4.trans g5),m4.grow g5,w4.grow g5,g04.next,fun b hb=>⟨by have:=hb.1; omega,by have:=hb.2; omega⟩,fun b o sp n c z=>by
  have:=in4 b o sp n c z
  exact⟨by have:=this.1; omega,by have:=this.2; omega,fun y=>by have:=this.1; have:=y.2; omega⟩⟩
 obtain⟨h6,g6,e6⟩:=againL pt gt qt qp 17 0 (by omega) (by omega) (Nat.zero_le _) st (by omega) lj
 refine⟨h6,g6,?_⟩
 rw[cM5,F5.eq,eb,go_ok,e2,go_ok,xun_not,go_ok,ifV_bool,Bool.not_true,cond_false,F5.j3_eq,(r.grow g2).get25 rfl,go_ok,e3,go_ok,ej,go_ok,e4,go_ok,e5]
 exact e6
end Go.Proofs.YtbfgadekkemlcaaGreatDoor.K
