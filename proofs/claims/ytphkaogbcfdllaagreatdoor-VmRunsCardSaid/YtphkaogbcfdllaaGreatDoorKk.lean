import Derived.Test.YtphkaogbcfdllaaGreatDoorKh
import Derived.Test.YtphkaogbcfdllaaGreatDoorKd
import Derived.Test.YtphkaogbcfdllaaGreatDoorKg
import Derived.Test.YtphkaogbcfdllaaGreatDoorKf
import Derived.Test.YtphkaogbcfdllaaGreatDoorKe
import Derived.Test.YtphkaogbcfdllaaGreatDoorKi
import Derived.Test.YtphkaogbcfdllaaGreatDoorKj
set_option linter.unusedVariables false
set_option linter.unusedSimpArgs false
set_option maxRecDepth 100000
/- Law 18: what its statements lean on: light inputs, small scripts, trees of files. -/
namespace Go.Proofs.YtphkaogbcfdllaaGreatDoor
open Go Go.Vc Go.Scr Go.Pth Go.Tre
theorem ext_tt {A B C:Heap} {b mb:Nat} (h:Ext A B) (k:ButT b mb B C) (hb:A.size≤b) (hm:A.size≤mb):Ext A C:=Only.trans h k fun x hx e=>by rcases e with rfl|rfl<;>omega
theorem ext_rr {A B C:Heap} {b:Nat} (h:Ext A B) (k:But b B C) (hb:A.size≤b):Ext A C:=h.but k hb
def addF (A:Tr) (f:Txt×Tre.Node):Tr:=if f.2.1=true then(mkdirF A f.1).1 else(writeF A f.1 f.2.2).1
def treesF (L:Tr):Tr:=L.foldl addF []
theorem addF_okay {A:Tr} (h:Okay A) (f:Txt×Tre.Node):Okay (addF A f):=by
 unfold addF
 split
 ·exact Okay.mkdirF h _
 ·exact Okay.writeF h _ _
theorem treesF_take {L:Tr} {i:Nat} {f:Txt×Tre.Node} (h:L[i]? =some f):treesF (L.take (i+1))=addF (treesF (L.take i)) f:=by
 rw[List.take_add_one,h]
 unfold treesF
 rw[Option.toList_some,List.foldl_append];rfl
theorem treesF_okay (L:Tr):Okay (treesF L):=by
 have: ∀ (l A:Tr),Okay A→Okay (l.foldl addF A):=fun l=>by
  induction l with
  |nil=>intro A h;exact h
  |cons f l ih=>intro A h;exact ih _ (addF_okay h f)
 exact this L [] Okay.nil
set_option maxHeartbeats 4000000 in
theorem trees18_any (L:Tr) (a:Option Addr) (n cap:Nat) (H:Heap) (hr:RowF H a L) (hn:L.length=n) (hn1:n≤1000) (hl: ∀ f∈L,f.1.length≤1000∧f.2.2.length≤1000):CallH Tryz.prog 27 [.slice a n cap] H fun v H'=>
  (∃ b mb w,v= .tuple #[.pointer (some ⟨b,0,none⟩),.pointer (some ⟨w,0,none⟩)]∧TreeO no H' b mb (treesF L)∧RTree H' w (treesF L)∧H.size≤b∧H.size≤mb∧H.size≤w)∧Ext H H':=by
 refine Vc.CallH.body Tryz.func27 Tryz.call27 rfl (by decide+kernel) rfl ?_
 ((conv=>whnf);repeat(any_goals((first|(refine(new_any _).mono ?_;rintro _ H2 ⟨⟨b,mb,rfl,ht2,hb,hm⟩,hx2⟩;have hz2:=hx2.size)|(refine PureH.build #[.slice none 0 0] (by kernel_rfl) ?_)|refine Vc.stp ?_)<;>(intros;(conv=>whnf)))))
 rename_i H3 z3 b3 x3
 have hx13:Ext H H3:=hx2.trans x3
 have hw:H.size≤H2.size:=by omega
 refine LoopH.intro (fun(i:Nat)=>[(6,.int .i64 i)]) (fun i H'=>i≤n∧TreeO no H' b mb (treesF (L.take i))∧RTree H' H2.size (treesF (L.take i))∧Ext H H') (fun i=>n-i) 0 ⟨rfl,trivial⟩ ⟨Nat.zero_le _,ht2.ext x3,RTree.of (n:=0) (cap:=0) (a:=none) b3 rfl (Nat.le_refl _) (RowF.nil _ _),hx13⟩ ?_
 rintro i H4 ⟨hi,ht4,hr4,hx4⟩
 have hz4:=hx4.size
 have hA:=treesF_okay (L.take i)
 by_cases hlt:i<n
 ·obtain⟨f,hf⟩: ∃ f,L[i]? =some f:=⟨_,List.getElem?_eq_getElem (by omega)⟩
  obtain⟨hpl,hbl⟩:=hl f (List.mem_of_getElem? hf)
  cases hd:f.2.1 with
  |true=>
   have e:addF (treesF (L.take i)) f=(mkdirF (treesF (L.take i)) f.1).1:=by unfold addF;rw[if_pos hd]
   ((conv=>whnf);repeat(any_goals((first|(refine IdxA.file (hr.ext hx5) hn i f (by omega) hf ?_;intro bi oi ai ci hri hci;have hc0:=hci 0 _ rfl;have hc1:=hci 1 _ rfl;have hc2:=hci 2 _ rfl)|(refine IdxA.file (hr.ext hx4) hn i f (by omega) hf ?_;intro bi oi ai ci hri hci;have hc0:=hci 0 _ rfl;have hc1:=hci 1 _ rfl;have hc2:=hci 2 _ rfl)|(refine(mkdir_any ht4 hA f.1).mono ?_;rintro _ H5 hd5;obtain rfl:=hd5.code;have hr5:=hr4.other ht4 hd5.only;have ht5:=hd5.tree;have hx5:=ext_tt hx4 hd5.only hb hm;have hz5:=hx5.size;clear hd5)|(refine(rmkdir_any hr5 hA f.1 (by omega)).mono ?_;rintro _ H6 hd6;obtain rfl:=hd6.code;have ht6:=ht5.otherR hr5 hd6.only;have hr6:=hd6.tree;have hx6:=ext_rr hx5 hd6.only hw;have hz6:=hx6.size;clear hd6)|refine Vc.stp ?_)<;>(intros;(conv=>whnf)))))
   exact⟨i+1,⟨rfl,trivial⟩,⟨by omega,by rw[treesF_take hf,e];exact ht6,by rw[treesF_take hf,e];exact hr6,hx6⟩,by omega⟩
  |false=>
   have e:addF (treesF (L.take i)) f=(writeF (treesF (L.take i)) f.1 f.2.2).1:=by unfold addF;rw[if_neg (by rw[hd];decide)]
   ((conv=>whnf);repeat(any_goals((first|(refine IdxA.file (hr.ext hx5) hn i f (by omega) hf ?_;intro bi oi ai ci hri hci;have hc0:=hci 0 _ rfl;have hc1:=hci 1 _ rfl;have hc2:=hci 2 _ rfl)|(refine IdxA.file (hr.ext hx4) hn i f (by omega) hf ?_;intro bi oi ai ci hri hci;have hc0:=hci 0 _ rfl;have hc1:=hci 1 _ rfl;have hc2:=hci 2 _ rfl)|(refine(write_any ht4 hA f.1 f.2.2 ai _ ci hri rfl (by omega)).mono ?_;rintro _ H5 hd5;obtain rfl:=hd5.code;have hr5:=hr4.other ht4 hd5.only;have ht5:=hd5.tree;have hx5:=ext_tt hx4 hd5.only hb hm;have hz5:=hx5.size;clear hd5)|(refine(rwrite_any hr5 hA f.1 f.2.2 (by omega) ai _ ci hri rfl (by omega)).mono ?_;rintro _ H6 hd6;obtain rfl:=hd6.code;have ht6:=ht5.otherR hr5 hd6.only;have hr6:=hd6.tree;have hx6:=ext_rr hx5 hd6.only hw;have hz6:=hx6.size;clear hd6)|refine Vc.stp ?_)<;>(intros;(conv=>whnf)))))
   exact⟨i+1,⟨rfl,trivial⟩,⟨by omega,by rw[treesF_take hf,e];exact ht6,by rw[treesF_take hf,e];exact hr6,hx6⟩,by omega⟩
 ·obtain rfl:i=n:=by omega
  rw[List.take_of_length_le (by omega)]at ht4 hr4
  ((conv=>whnf);repeat(any_goals((first|refine Vc.stp ?_)<;>(intros;(conv=>whnf)))))
  exact⟨⟨b,mb,H2.size,rfl,ht4,hr4,hb,hm,hw⟩,hx4⟩
theorem light18_any (s:Bs) (L:Tr) (a:Option Addr) (n cap:Nat) (H:Heap) (hr:RowF H a L) (hn:L.length=n) (hsl:s.length≤9223372036854775807):CallH Tryz.prog 25 [.string (mkS s),.slice a n cap] H fun v H'=>v= .bool (decide (s.length<2000)&&lightF L)∧H=H':=by
 have hlc:=fun H1 (k:Ext H H1)=>hlight_any L a n cap H1 (hr.ext k) hn
 have hsz:(mkS s).size=s.length:=rfl
 refine Vc.CallH.body Tryz.func25 Tryz.call25 rfl (by decide+kernel) rfl ?_
 by_cases h:s.length<2000
 ·rw[decide_eq_true h,Bool.true_and]
  ((conv=>whnf);repeat(any_goals((first|(refine(hlc _ (by exact Vc.xt)).mono ?_;rintro _ _ ⟨rfl,rfl⟩)|refine Vc.stp ?_)<;>(intros;(conv=>whnf)))))
  exact⟨rfl,rfl⟩
 ·rw[decide_eq_false h,Bool.false_and]
  ((conv=>whnf);repeat(any_goals((first|refine Vc.stp ?_)<;>(intros;(conv=>whnf)))))
  exact⟨rfl,rfl⟩
structure SmS where
 k:Nat
 q:Nat
set_option maxHeartbeats 4000000 in
theorem small18_any {H:Heap} {al:Option Addr} {cl n:Nat} {L:List Ln} (hr:Row H al (lnsV L)) (hl:L.length=n) (hn:n≤1000000) (hlens: ∀ x∈L,x.a.length≤1000000∧x.b.length≤1000000∧x.tx.length≤1000000):CallH Tryz.prog 26 [.slice al n cl] H fun v H'=>(∃ B,v= .bool B∧(B=true→ ∀ x∈L,x.a.length≤250∧x.b.length≤250))∧H=H':=by
 refine Vc.CallH.body Tryz.func26 Tryz.call26 rfl (by decide+kernel) rfl ?_
 ((conv=>whnf);repeat(any_goals((first|refine Vc.stp ?_)<;>(intros;(conv=>whnf)))))
 refine LoopH.intro (fun(i:Nat)=>[(3,.int .i64 i)]) (fun i H'=>H=H'∧i≤n∧ ∀ x∈L.take i,x.a.length≤250∧x.b.length≤250) (fun i=>n-i) 0 ⟨rfl,trivial⟩ ⟨rfl,Nat.zero_le _,(by rw[List.take_zero];intro x hx;cases hx)⟩ ?_
 rintro i _ ⟨rfl,hi,hall⟩
 by_cases hlt:i<n
 ·obtain⟨x,hx⟩: ∃ x,L[i]? =some x:=⟨_,List.getElem?_eq_getElem (by omega)⟩
  obtain⟨hla,hlb,hlx⟩:=hlens x (List.mem_of_getElem? hx)
  have hsa:(mkS x.a).size=x.a.length:=rfl
  have hsb:(mkS x.b).size=x.b.length:=rfl
  have hst:(mkS x.tx).size=x.tx.length:=rfl
  ((conv=>whnf);repeat(any_goals((first|refine Vc.stp ?_)<;>(intros;(conv=>whnf)))))
  refine LoopH.intro (fun(y:SmS)=>[(5,.int .i64 y.k),(4,.int .i64 y.q)]) (fun y H'=>H=H'∧y.k≤x.tx.length∧y.q≤y.k) (fun y=>x.tx.length-y.k) ⟨0,0⟩ ⟨rfl,rfl,trivial⟩ ⟨rfl,Nat.zero_le _,Nat.le_refl _⟩ ?_
  rintro⟨k,q⟩ _ ⟨rfl,hk,hq⟩
  dsimp only at hk hq ⊢
  by_cases hkl:k<x.tx.length
  ·obtain⟨c,hc,hd⟩:=drop_get hkl
   by_cases h36:c=36
   ·have n36:c.toNat=36:=by rw[h36];rfl
    ((conv=>whnf);repeat(any_goals((first|(refine IdxA.ln hr hl i x rfl hx ?_;intro _ _ hci;have hc1:=hci 1 _ rfl;have hc2:=hci 2 _ rfl;have hc3:=hci 3 _ rfl)|(refine IdxH.nat k rfl (by omega) ?_;(conv=>whnf);rw[hc])|refine Vc.stp ?_)<;>(intros;(conv=>whnf)))))
    exact⟨⟨k+1,q+1⟩,⟨rfl,rfl,trivial⟩,⟨rfl,by show k+1≤_;omega,by show q+1≤k+1;omega⟩,by show x.tx.length-(k+1)<x.tx.length-k;omega⟩
   ·have n36:=ne_nat 36 (by decide) h36
    ((conv=>whnf);repeat(any_goals((first|(refine IdxA.ln hr hl i x rfl hx ?_;intro _ _ hci;have hc1:=hci 1 _ rfl;have hc2:=hci 2 _ rfl;have hc3:=hci 3 _ rfl)|(refine IdxH.nat k rfl (by omega) ?_;(conv=>whnf);rw[hc])|refine Vc.stp ?_)<;>(intros;(conv=>whnf)))))
    exact⟨⟨k+1,q⟩,⟨rfl,rfl,trivial⟩,⟨rfl,by show k+1≤_;omega,by show q≤k+1;omega⟩,by show x.tx.length-(k+1)<x.tx.length-k;omega⟩
  ·by_cases h1:3<q
   ·((conv=>whnf);repeat(any_goals((first|(refine IdxA.ln hr hl i x rfl hx ?_;intro _ _ hci;have hc1:=hci 1 _ rfl;have hc2:=hci 2 _ rfl;have hc3:=hci 3 _ rfl)|refine Vc.stp ?_)<;>(intros;(conv=>whnf)))))
    exact⟨⟨false,rfl,fun h=>by cases h⟩,rfl⟩
   by_cases h2:250<x.a.length
   ·((conv=>whnf);repeat(any_goals((first|(refine IdxA.ln hr hl i x rfl hx ?_;intro _ _ hci;have hc1:=hci 1 _ rfl;have hc2:=hci 2 _ rfl;have hc3:=hci 3 _ rfl)|refine Vc.stp ?_)<;>(intros;(conv=>whnf)))))
    exact⟨⟨false,rfl,fun h=>by cases h⟩,rfl⟩
   by_cases h3:250<x.b.length
   ·((conv=>whnf);repeat(any_goals((first|(refine IdxA.ln hr hl i x rfl hx ?_;intro _ _ hci;have hc1:=hci 1 _ rfl;have hc2:=hci 2 _ rfl;have hc3:=hci 3 _ rfl)|refine Vc.stp ?_)<;>(intros;(conv=>whnf)))))
    exact⟨⟨false,rfl,fun h=>by cases h⟩,rfl⟩
   ((conv=>whnf);repeat(any_goals((first|(refine IdxA.ln hr hl i x rfl hx ?_;intro _ _ hci;have hc1:=hci 1 _ rfl;have hc2:=hci 2 _ rfl;have hc3:=hci 3 _ rfl)|refine Vc.stp ?_)<;>(intros;(conv=>whnf)))))
   refine⟨i+1,⟨rfl,trivial⟩,⟨rfl,by omega,?_⟩,by omega⟩
   rw[List.take_add_one,hx]
   intro y hy
   rcases List.mem_append.1 hy with hy|hy
   ·exact hall y hy
   ·rw[show y=x by simpa using hy]
    exact⟨by omega,by omega⟩
 ·obtain rfl:i=n:=by omega
  ((conv=>whnf);repeat(any_goals((first|refine Vc.stp ?_)<;>(intros;(conv=>whnf)))))
  exact⟨⟨true,rfl,fun _=>by rw[List.take_of_length_le (by omega)]at hall;exact hall⟩,rfl⟩
end Go.Proofs.YtphkaogbcfdllaaGreatDoor
namespace Go.Proofs.YtphkaogbcfdllaaGreatDoor
open Go Go.Vc Go.Scr Go.Pth Go.Tre Go.Blk Go.Run
theorem ErV.keepN {F:Nat→Prop} {H H':Heap} {n:Int} (k:Only F H H') (hF: ∀ b c,F b→ ¬Blk H b c 210): ∀ {ws:Chain} {v:Value},ErV H ws (.num n) v→ErV H' ws (.num n) v
 |[],v,h=>h
 |x::ws,v,⟨g,v',h1,h2,h3⟩=>⟨g,v',h1,h2.keep k fun e=>hF g _ e h2,ErV.keepN k hF h3⟩
def EndV (H:Heap) (e at_:Nat) (v:Value):Prop:=if e=0 then v= .nilIface else ErV H [([108,105,110,101],Lib.itoa (at_:Int))] (.num e) v
theorem EndV.ext {H H':Heap} {e at_:Nat} {v:Value} (h:EndV H e at_ v) (k:Ext H H'):EndV H' e at_ v:=by
 unfold EndV at h ⊢
 split
 ·rename_i he;rw[if_pos he]at h;exact h
 ·rename_i he;rw[if_neg he]at h;exact ErV.ext h k
theorem EndV.keep {F:Nat→Prop} {H H':Heap} {e at_:Nat} {v:Value} (h:EndV H e at_ v) (k:Only F H H') (hF: ∀ b c,F b→ ¬Blk H b c 210):EndV H' e at_ v:=by
 unfold EndV at h ⊢
 split
 ·rename_i he;rw[if_pos he]at h;exact h
 ·rename_i he;rw[if_neg he]at h;exact ErV.keepN k hF h
theorem line_small (n:Nat) (hn:n≤1000000):Small [([108,105,110,101],Lib.itoa (n:Int))]:=⟨Nat.le_of_ble_eq_true rfl,fun x hx=>by
 rw[List.mem_singleton]at hx
 subst hx
 have:=itoa_len (n:Int) ⟨by omega,by omega⟩
 exact⟨Nat.le_of_ble_eq_true rfl,by show(Lib.itoa (n:Int)).length≤100;omega⟩⟩
theorem tree_nofault {H:Heap} {b mb:Nat} {A:Tr} (h:TreeO no H b mb A): ∀ x c,(x=b∨x=mb)→ ¬Blk H x c 210:=fun x c e k=>by
 rcases e with rfl|rfl
 ·exact absurd (blk_one k h.blk).1 (by decide)
 ·exact h.map.ne k rfl
theorem code_end {H:Heap} (hg:Glb H) {e at_:Nat} {v:Value} (h:EndV H e at_ v) (ha:at_≤1000000) (he:e≤80):CallH Tryz.prog 24 [v] H fun u H'=>u= .int .i64 e∧Ext H H':=by
 unfold EndV at h
 split at h
 ·rename_i h0
  subst h0;subst h
  exact code_nil H
 ·have:=code_any hg (line_small at_ ha) (b:= .num (e:Int)) (show I64 (e:Int)from⟨by omega,by omega⟩) h
  exact this
end Go.Proofs.YtphkaogbcfdllaaGreatDoor
namespace Go.Proofs.YtphkaogbcfdllaaGreatDoor
open Go Go.Vc Go.Scr Go.Pth Go.Tre Go.Blk Go.Run
theorem tv_oth {H:Heap} {b mb:Nat} {vm:Option Nat} {A:Tr} {V:Option Vars} (ht:TreeO no H b mb A) (hv:VarsO H vm V): ∀ x,(x=b∨x=mb∨vm=some x)→Oth H x:=fun x e=>by
 rcases e with rfl|rfl|e
 ·exact ht.oth
 ·exact ht.map.oth
 ·obtain⟨W,_,hW⟩:=vars_map hv e
  exact .map hW
theorem RTree.keepTV {H H':Heap} {b mb w:Nat} {vm:Option Nat} {A B:Tr} {V:Option Vars} (h:RTree H w B) (ht:TreeO no H b mb A) (hv:VarsO H vm V) (k:Only (fun x=>x=b∨x=mb∨vm=some x) H H'):RTree H' w B:=by
 obtain⟨c,hc⟩:=rtree_blk h
 refine h.keep k (fun e=> ?_) fun x e _=>(tv_oth ht hv x e).dumb
 rcases e with rfl|rfl|e
 ·exact absurd (blk_one hc ht.blk).1 (by decide)
 ·exact ht.map.ne hc rfl
 ·obtain⟨W,_,hW⟩:=vars_map hv e
  exact hW.ne hc rfl
theorem VarsO.keepTV {H H':Heap} {b mb:Nat} {vm vm':Option Nat} {A:Tr} {V':Option Vars} (h:VarsO H vm' V') (ht:TreeO no H b mb A) (hd: ∀ v,vm'=some v→v≠mb∧vm≠some v) (k:Only (fun x=>x=b∨x=mb∨vm=some x) H H'):VarsO H' vm' V':=h.keep k fun v e e'=>by
 obtain⟨W,_,hW⟩:=vars_map h e
 rcases e' with e'|e'|e'
 ·exact hW.ne ht.blk e'
 ·exact(hd v e).1 e'
 ·exact(hd v e).2 e'
theorem TreeO.keepRV {H H':Heap} {b mb w:Nat} {vm:Option Nat} {A B:Tr} {V:Option Vars} (h:TreeO no H b mb A) (hr:RTree H w B) (hv:VarsO H vm V) (hd:vm≠some mb) (k:Only (fun x=>x=w∨vm=some x) H H'):TreeO no H' b mb A:=by
 obtain⟨c,hc⟩:=rtree_blk hr
 refine h.keep k (fun e=> ?_) (fun e=> ?_) fun x e _=> .inl ?_
 ·rcases e with rfl|e
  ·exact absurd (blk_one hc h.blk).1 (by decide)
  ·obtain⟨W,_,hW⟩:=vars_map hv e
   exact hW.ne h.blk rfl
 ·rcases e with rfl|e
  ·exact h.map.ne hc rfl
  ·exact hd e
 ·rcases e with rfl|e
  ·exact hr.oth
  ·obtain⟨W,_,hW⟩:=vars_map hv e
   exact .map hW
theorem VarsO.keepRV {H H':Heap} {w:Nat} {vm vm':Option Nat} {B:Tr} {V':Option Vars} (h:VarsO H vm' V') (hr:RTree H w B) (hd: ∀ v,vm'=some v→vm≠some v) (k:Only (fun x=>x=w∨vm=some x) H H'):VarsO H' vm' V':=h.keep k fun v e e'=>by
 obtain⟨W,_,hW⟩:=vars_map h e
 obtain⟨c,hc⟩:=rtree_blk hr
 rcases e' with e'|e'
 ·subst e';exact hW.ne hc rfl
 ·exact hd v e e'
theorem EndV.keepRV {H H':Heap} {w e at_:Nat} {vm:Option Nat} {B:Tr} {V:Option Vars} {v:Value} (h:EndV H e at_ v) (hr:RTree H w B) (hv:VarsO H vm V) (k:Only (fun x=>x=w∨vm=some x) H H'):EndV H' e at_ v:=h.keep k fun x c e' hb=>by
 obtain⟨d,hd⟩:=rtree_blk hr
 rcases e' with rfl|e'
 ·exact absurd (blk_one hd hb).1 (by decide)
 ·obtain⟨W,_,hW⟩:=vars_map hv e'
  exact hW.ne hb rfl
theorem run_endsV {L:List Ln} {F:Nat} {A:Tr} {V:Option Vars} (hne:Nested (kindsL L)):(runP L F 0 ⟨0,A,V,[]⟩).2.at_≤L.length∧(runP L F 0 ⟨0,A,V,[]⟩).1.2≤73:=by
 have key: ∀ (f u:Nat) (s:St),s.at_≤L.length→(∀ p∈s.S,p.1<L.length)→(runP L f u s).2.at_≤L.length∧(runP L f u s).1.2≤73:=by
  intro f
  induction f with
  |zero=>
   intro u s h1 h2
   rw[runP]
   split
   ·exact⟨h1,Nat.le_refl _⟩
   ·exact⟨h1,Nat.zero_le _⟩
  |succ f ih=>
   intro u s h1 h2
   rw[runP]
   split
   ·exact⟨h1,Nat.zero_le _⟩
   ·rename_i x hx
    split
    ·obtain⟨g1,g2⟩:=step_at hne hx h2
     exact ih _ _ g1 g2
    ·exact⟨h1,Nat.le_succ_of_le (step_code _ _ _)⟩
 exact key F 0 _ (Nat.zero_le _) fun p hp=>by cases hp
theorem run_some {L:List Ln} {F u:Nat} {s:St} (h:s.V.isSome=true):(runP L F u s).2.V.isSome=true:=by
 have key: ∀ (f u:Nat) (s:St),s.V.isSome=true→(runP L f u s).2.V.isSome=true:=by
  intro f
  induction f with
  |zero=>
   intro u s h
   rw[runP]
   split<;>exact h
  |succ f ih=>
   intro u s h
   have hs: ∀ x,(stepP (kindsL L) x s).1.V.isSome=true:=fun x=>by
    rcases step_cases (kindsL L) x s with ⟨r,e,_⟩|⟨_,_,e|⟨e,_⟩⟩
    ·rw[e];exact h
    ·rw[e];exact h
    ·rw[e,Option.isSome_map];exact h
   rw[runP]
   split
   ·exact h
   ·rename_i x hx
    split
    ·exact ih _ _ (hs x)
    ·exact hs x
 exact key F u s h
theorem Fit.nil:Fit (some []):=fun k=>Nat.zero_le _
end Go.Proofs.YtphkaogbcfdllaaGreatDoor
