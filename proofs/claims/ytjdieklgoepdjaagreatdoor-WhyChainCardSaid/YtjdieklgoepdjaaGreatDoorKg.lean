import Derived.Test.YtjdieklgoepdjaaGreatDoorKd
import Derived.Test.YtjdieklgoepdjaaGreatDoorKc
import Derived.Test.YtjdieklgoepdjaaGreatDoorKb
import Derived.Test.YtjdieklgoepdjaaGreatDoorKp
import Derived.Test.YtjdieklgoepdjaaGreatDoorKe
import Derived.RangeFuncIn
import Derived.RangeFuncLeaves
import Derived.TacticsIn
import Derived.Shelf.Sort.Plain
import Derived.Test.YtjdieklgoepdjaaGreatDoorProg
set_option linter.unusedVariables false
set_option linter.unusedSimpArgs false
set_option maxRecDepth 100000
/- The code's order of versions. -/
namespace Go.Proofs.YtjdieklgoepdjaaGreatDoor
open Go Go.Vc Go.Scr Go.Slv
theorem listC_nil (m:List Bs):listC markC [] m=if m=[]then 0 else-1:=by cases m<;>simp[listC]
theorem listC_right (x:Bs) (l:List Bs):listC markC (x::l) []=1:=rfl
theorem listC_cons (x y:Bs) (l m:List Bs):listC markC (x::l) (y::m)=if markC x y=0 then listC markC l m else markC x y:=rfl
set_option maxHeartbeats 4000000 in
theorem cmpfunc_any (l m:List Bs) (hl: ∀ s∈l,s.length≤1000000000) (hm: ∀ s∈m,s.length≤1000000000) (a b:Option Addr) (n k ca cb:Nat) (H0 H:Heap) (k0:Ext H0 H) (hr:Row H0 a (strs l)) (hs:Row H0 b (strs m)) (hn:l.length=n) (hk:m.length=k) (hnl:n≤1000000000):
  CallH Tryz.prog 136 [.slice a n ca,.slice b k cb,.func (.func 137) #[] #[]] H fun v H'=>v= .int .i64 (listC markC l m)∧Ext H H':=by
 obtain⟨Z,hZ⟩: ∃ Z,listC markC l m=Z:=⟨_,rfl⟩
 rw[hZ]
 refine Vc.CallH.body Tryz.func136 Tryz.call136 rfl (by decide+kernel) rfl ?_
 ((conv=>whnf);repeat(any_goals((first|refine Vc.stp ?_)<;>(intros;(conv=>whnf)))))
 refine LoopH.intro (fun(i:Nat)=>[(13,.int .i64 i)]) (fun i H'=>i≤n∧i≤k∧Z=listC markC (l.drop i) (m.drop i)∧Ext H H') (fun i=>n-i) 0 ⟨rfl,trivial⟩ ⟨Nat.zero_le _,Nat.zero_le _,hZ.symm,Ext.refl _⟩ ?_
 rintro i H1 ⟨hi,hik,hinv,hx1⟩
 have hz1:=hx1.size
 by_cases hlt:i<n
 ·obtain⟨x,hx⟩: ∃ x,l[i]? =some x:=⟨_,List.getElem?_eq_getElem (by omega)⟩
  have hdx:l.drop i=x::l.drop (i+1):=by rw[List.drop_eq_getElem_cons (by omega)];rw[List.getElem?_eq_getElem (by omega)]at hx;injection hx with hx;rw[hx]
  by_cases hlk:i<k
  ·obtain⟨y,hy⟩: ∃ y,m[i]? =some y:=⟨_,List.getElem?_eq_getElem (by omega)⟩
   have hdy:m.drop i=y::m.drop (i+1):=by rw[List.drop_eq_getElem_cons (by omega)];rw[List.getElem?_eq_getElem (by omega)]at hy;injection hy with hy;rw[hy]
   rw[hdx,hdy,listC_cons]at hinv
   have hmk:=fun H=>marks_any x y (hl x (List.mem_of_getElem? hx)) (hm y (List.mem_of_getElem? hy)) H
   obtain⟨M,hM⟩: ∃ M,markC x y=M:=⟨_,rfl⟩
   rw[hM]at hmk hinv
   by_cases h0:M=0
   ·rw[if_pos h0]at hinv
    ((conv=>whnf);repeat(any_goals((first|(refine IdxA.strv hr hn i x rfl hx ?_;intro _ _ _ _ _)|(refine IdxA.strv hs hk i y rfl hy ?_;intro _ _ _ _ _)|(refine(hmk _).mono ?_;rintro _ H2 ⟨rfl,hx2⟩;have hz2:=hx2.size)|refine Vc.stp ?_)<;>(intros;(conv=>whnf)))))
    exact⟨i+1,⟨rfl,trivial⟩,⟨by omega,by omega,hinv,hx1.trans hx2⟩,by omega⟩
   ·rw[if_neg h0]at hinv
    ((conv=>whnf);repeat(any_goals((first|(refine IdxA.strv hr hn i x rfl hx ?_;intro _ _ _ _ _)|(refine IdxA.strv hs hk i y rfl hy ?_;intro _ _ _ _ _)|(refine(hmk _).mono ?_;rintro _ H2 ⟨rfl,hx2⟩;have hz2:=hx2.size)|refine Vc.stp ?_)<;>(intros;(conv=>whnf)))))
    exact⟨by rw[hinv];rfl,hx1.trans hx2⟩
  ·rw[hdx,List.drop_of_length_le (show m.length≤i by omega),listC_right]at hinv
   ((conv=>whnf);repeat(any_goals((first|(refine IdxA.strv hr hn i x rfl hx ?_;intro _ _ _ _ _)|refine Vc.stp ?_)<;>(intros;(conv=>whnf)))))
   exact⟨by rw[hinv];rfl,hx1⟩
 ·obtain rfl:i=n:=by omega
  rw[List.drop_of_length_le (show l.length≤i by omega),listC_nil]at hinv
  by_cases hlk:i<k
  ·rw[if_neg (fun e=>by have:=congrArg List.length e;rw[List.length_drop]at this;simp at this;omega)]at hinv
   ((conv=>whnf);repeat(any_goals((first|refine Vc.stp ?_)<;>(intros;(conv=>whnf)))))
   exact⟨by rw[hinv];rfl,hx1⟩
  ·rw[if_pos (List.drop_of_length_le (by omega))]at hinv
   ((conv=>whnf);repeat(any_goals((first|refine Vc.stp ?_)<;>(intros;(conv=>whnf)))))
   exact⟨by rw[hinv];rfl,hx1⟩
theorem cmpI_rng (a b:Int): -1≤cmpI a b∧cmpI a b≤1:=by rcases lin_int.rng a b with h|h|h<;>omega
theorem or_three (x y z:Int):orI [x,y,z]=if x=0 then(if y=0 then z else y)else x:=by
 rw[orI_cons,or_two]
theorem cmpV_or (a b:VerP) (N:Int) (hN:orI [cmpI a.ma b.ma,cmpI a.mi b.mi,cmpI a.pa b.pa]=N):cmpV a b=if N≠0 then N else if a.pre=[]∨b.pre=[]then cmpI b.pre.length 0-cmpI a.pre.length 0 else listC markC a.pre b.pre:=by
 rw[cmpV_parts,←hN,or_three]
 by_cases h1:cmpI a.ma b.ma=0
 ·by_cases h2:cmpI a.mi b.mi=0
  ·by_cases h3:cmpI a.pa b.pa=0
   ·simp[h1,h2,h3]
   ·simp[h1,h2,h3]
  ·simp[h1,h2]
 ·simp[h1]
theorem SemH.load_verB {H:Heap} {g:Nat} {v:VerP} {a:Option Addr} {c:Nat} {T:TypeId} {K:Value→Heap→Prop} (hb:Blk H g #[.int .i64 v.ma,.int .i64 v.mi,.int .i64 v.pa,.slice a v.pre.length c] T) (hk:K (verC v a c) H):SemH Tryz.prog (Instr.loadAt 48 (.pointer (some ⟨g,0,none⟩))) H K:=
 SemH.load_ver (H0:=H) (fun k u hu=>by
  rw[hb.cell,Nat.zero_add]
  match k,hu with
  |0,hu=>exact hu
  |1,hu=>exact hu
  |2,hu=>exact hu
  |3,hu=>exact hu) (Ext.refl _) hk
set_option maxHeartbeats 4000000 in
theorem vcmp_any (u v:VerP) (hu:VerB u) (hv:VerB v) (x y:Value) (H:Heap) (hx:VerO H u x) (hy:VerO H v y):CallH Tryz.prog 92 [x,y] H fun r H'=>r= .int .i64 (cmpV u v)∧Ext H H':=by
 obtain⟨xa,xc,ex,hxl,hxr⟩:=hx.out
 obtain⟨ya,yc,ey,hyl,hyr⟩:=hy.out
 subst ex ey
 obtain⟨N,hN⟩: ∃ N,orI [cmpI u.ma v.ma,cmpI u.mi v.mi,cmpI u.pa v.pa]=N:=⟨_,rfl⟩
 have hul:=hu.len
 have hvl:=hv.len
 rw[cmpV_or u v N hN]
 refine Vc.CallH.body Tryz.func92 Tryz.call92 rfl (by decide+kernel) rfl ?_
 unfold verC
 by_cases h0:N=0
 ·rw[if_neg (fun h=>h h0)]
  by_cases hpu:u.pre=[]
  ·have hul0:u.pre.length=0:=by rw[hpu];rfl
   rw[if_pos (.inl hpu)]
   have hr1:=cmpI_rng (v.pre.length:Int) 0
   have hr2:=cmpI_rng (u.pre.length:Int) 0
   ((conv=>whnf);repeat(any_goals((first|(refine(cmpi_any _ _ _).mono ?_;rintro _ _ ⟨rfl,rfl⟩)|(rename_i Hm zm bm xm;refine(or_any [cmpI u.ma v.ma,cmpI u.mi v.mi,cmpI u.pa v.pa] _ 3 3 _ (Blk.row (c:=[.int .i64 (cmpI u.ma v.ma),.int .i64 (cmpI u.mi v.mi),.int .i64 (cmpI u.pa v.pa)]) bm) rfl (by decide)).mono ?_;rintro _ _ ⟨rfl,rfl⟩;rw[hN])|((with_reducible refine Vc.DrawH.held [0,1,2,3,5,6,7,8,10,11,12,13,4,9,14,15,16,17] [(4,[6,8,11,13]),(9,[11,13])] mixed (by decide+kernel) ?_))|((with_reducible refine Vc.DrawH.held [0,1,2,4,5,6,3,7,8,9] [(3,[5])] mixed (by decide+kernel) ?_))|refine Vc.stp ?_)<;>(intros;(conv=>whnf)))))
   all_goals exact⟨rfl,by exact Vc.xt⟩
  ·by_cases hpv:v.pre=[]
   ·have hvl0:v.pre.length=0:=by rw[hpv];rfl
    have hul0:0<u.pre.length:=List.length_pos_iff.2 hpu
    rw[if_pos (.inr hpv)]
    have hr1:=cmpI_rng (v.pre.length:Int) 0
    have hr2:=cmpI_rng (u.pre.length:Int) 0
    ((conv=>whnf);repeat(any_goals((first|(refine(cmpi_any _ _ _).mono ?_;rintro _ _ ⟨rfl,rfl⟩)|(rename_i Hm zm bm xm;refine(or_any [cmpI u.ma v.ma,cmpI u.mi v.mi,cmpI u.pa v.pa] _ 3 3 _ (Blk.row (c:=[.int .i64 (cmpI u.ma v.ma),.int .i64 (cmpI u.mi v.mi),.int .i64 (cmpI u.pa v.pa)]) bm) rfl (by decide)).mono ?_;rintro _ _ ⟨rfl,rfl⟩;rw[hN])|((with_reducible refine Vc.DrawH.held [0,1,2,3,5,6,7,8,10,11,12,13,4,9,14,15,16,17] [(4,[6,8,11,13]),(9,[11,13])] mixed (by decide+kernel) ?_))|((with_reducible refine Vc.DrawH.held [0,1,2,4,5,6,3,7,8,9] [(3,[5])] mixed (by decide+kernel) ?_))|refine Vc.stp ?_)<;>(intros;(conv=>whnf)))))
    all_goals exact⟨rfl,by exact Vc.xt⟩
   ·have hul0:0<u.pre.length:=List.length_pos_iff.2 hpu
    have hvl0:0<v.pre.length:=List.length_pos_iff.2 hpv
    rw[if_neg (fun h=>h.elim hpu hpv)]
    ((conv=>whnf);repeat(any_goals((first|(refine(cmpi_any _ _ _).mono ?_;rintro _ _ ⟨rfl,rfl⟩)|(rename_i Hm zm bm xm;refine(or_any [cmpI u.ma v.ma,cmpI u.mi v.mi,cmpI u.pa v.pa] _ 3 3 _ (Blk.row (c:=[.int .i64 (cmpI u.ma v.ma),.int .i64 (cmpI u.mi v.mi),.int .i64 (cmpI u.pa v.pa)]) bm) rfl (by decide)).mono ?_;rintro _ _ ⟨rfl,rfl⟩;rw[hN])|(refine(cmpfunc_any u.pre v.pre hu.pre hv.pre xa ya _ _ xc yc H _ (by exact Vc.xt) hxr hyr rfl rfl hul).mono ?_;rintro _ H9 ⟨rfl,hx9⟩;have hz9:=hx9.size)|((with_reducible refine Vc.DrawH.held [0,1,2,3,5,6,7,8,10,11,12,13,4,9,14,15,16,17] [(4,[6,8,11,13]),(9,[11,13])] mixed (by decide+kernel) ?_))|((with_reducible refine Vc.DrawH.held [0,1,2,4,5,6,3,7,8,9] [(3,[5])] mixed (by decide+kernel) ?_))|refine Vc.stp ?_)<;>(intros;(conv=>whnf)))))
    all_goals exact⟨rfl,by exact Vc.xt⟩
 ·rw[if_pos h0]
  ((conv=>whnf);repeat(any_goals((first|(refine(cmpi_any _ _ _).mono ?_;rintro _ _ ⟨rfl,rfl⟩)|(rename_i Hm zm bm xm;refine(or_any [cmpI u.ma v.ma,cmpI u.mi v.mi,cmpI u.pa v.pa] _ 3 3 _ (Blk.row (c:=[.int .i64 (cmpI u.ma v.ma),.int .i64 (cmpI u.mi v.mi),.int .i64 (cmpI u.pa v.pa)]) bm) rfl (by decide)).mono ?_;rintro _ _ ⟨rfl,rfl⟩;rw[hN])|((with_reducible refine Vc.DrawH.held [0,1,2,3,5,6,7,8,10,11,12,13,4,9,14,15,16,17] [(4,[6,8,11,13]),(9,[11,13])] mixed (by decide+kernel) ?_))|((with_reducible refine Vc.DrawH.held [0,1,2,4,5,6,3,7,8,9] [(3,[5])] mixed (by decide+kernel) ?_))|refine Vc.stp ?_)<;>(intros;(conv=>whnf)))))
  all_goals exact⟨rfl,by exact Vc.xt⟩
def spnE (H:Heap) (s:SpnP) (c:List Value):Prop:=∃ a cap,c=[.bool s.any,.slice a s.or_.length cap]∧s.or_.length≤cap∧RowE bndsE H a s.or_
theorem spn_okE:EncOk spnE 2:=⟨fun⟨_,_,e,_⟩=>by rw[e];rfl,fun k ⟨a,cap,e,h,r⟩=>⟨a,cap,e,h,r.ext bnds_ok k⟩,fun⟨_,_,e,_⟩ u hu=>by
 rw[e]at hu
 simp at hu
 rcases hu with rfl|rfl<;>rfl⟩
abbrev sliceZ:Value:= .slice none 0 0
end Go.Proofs.YtjdieklgoepdjaaGreatDoor
namespace Go.Vc
open Go.Scr
variable {α:Type}
abbrev SlcV (E:Heap→α→List Value→Prop) (s:Nat) (t:TypeId) (base:Nat) (H:Heap) (v:Value) (l:List α):Prop:=∃ a cap,v= .slice a l.length cap∧OwnE E s H base t a l cap
structure SlcL (E:Heap→α→List Value→Prop) (s:Nat) (t:TypeId) (base:Nat) (H:Heap) (b:Nat) (l:List (Bs×Value)) (g:Txt→List α):Prop where
 map:MapO H b l
 val: ∀ k,SlcV E s t base H ((mget l k).getD (.slice none 0 0)) (g k)
 apart: ∀ k k' p q n m c d,mget l k=some (.slice (some p) n c)→mget l k'=some (.slice (some q) m d)→p.block=q.block→k=k'
theorem OwnE.not_map {E:Heap→α→List Value→Prop} {s:Nat} {H:Heap} {base:Nat} {e:TypeId} {a:Option Addr} {l:List α} {cap b:Nat} {m:List (Bs×Value)} (h:OwnE E s H base e a l cap) (hm:MapO H b m): ∀ p,a=some p→p.block≠b:=fun p hp e=>by
 obtain⟨c,hc⟩:=h.typ p hp
 exact hm.ne hc e.symm
theorem SlcV.keep {E:Heap→α→List Value→Prop} {s:Nat} {t:TypeId} (ok:EncT E s (fun _=>False)) {H H':Heap} {base:Nat} {F:Nat→Prop} {v:Value} {l:List α} (h:SlcV E s t base H v l) (k:Only F H H') (hF: ∀ p n c,v= .slice (some p) n c→ ¬F p.block):SlcV E s t base H' v l:=by
 obtain⟨a,cap,e,ho⟩:=h
 exact⟨a,cap,e,ho.keep ok k (fun _ _ _ _ _ h=>h) fun p hp=>hF p _ _ (by rw[e,hp])⟩
theorem SlcL.keep {E:Heap→α→List Value→Prop} {s:Nat} {t:TypeId} (ok:EncT E s (fun _=>False)) {H H':Heap} {base b:Nat} {F:Nat→Prop} {l:List (Bs×Value)} {g:Txt→List α} (h:SlcL E s t base H b l g) (k:Only F H H') (hb: ¬F b) (hF: ∀ x c,F x→base≤x→Blk H x c t→False):SlcL E s t base H' b l g:=by
 refine⟨h.map.keep k hb,fun j=>(h.val j).keep ok k fun p n c e hf=> ?_,h.apart⟩
 obtain⟨a,cap,e',ho⟩:=h.val j
 rw[e]at e'
 cases e'
 obtain⟨c,hc⟩:=ho.typ p rfl
 exact hF _ c hf (ho.block p rfl).1 hc
theorem SlcL.ext {E:Heap→α→List Value→Prop} {s:Nat} {t:TypeId} (ok:EncT E s (fun _=>False)) {H H':Heap} {base b:Nat} {l:List (Bs×Value)} {g:Txt→List α} (h:SlcL E s t base H b l g) (k:Ext H H'):SlcL E s t base H' b l g:=h.keep ok k id fun _ _ h=>h.elim
theorem SlcL.lt {E:Heap→α→List Value→Prop} {s:Nat} {t:TypeId} {H:Heap} {base b:Nat} {l:List (Bs×Value)} {g:Txt→List α} (h:SlcL E s t base H b l g) {k:Bs} {p:Addr} {n c:Nat} (hv:(mget l k).getD (.slice none 0 0)= .slice (some p) n c):p.block<H.size∧base≤p.block∧ ∃ c,Blk H p.block c t:=by
 obtain⟨a,cap,e',ho⟩:=h.val k
 rw[hv]at e'
 cases e'
 have:=ho.block p rfl
 exact⟨this.2,this.1,ho.typ p rfl⟩
theorem mget_getD {l:List (Bs×Value)} {k:Bs} {p:Addr} {n c:Nat} (h:(mget l k).getD (.slice none 0 0)= .slice (some p) n c):mget l k=some (.slice (some p) n c):=by
 cases e:mget l k with
 |none=>rw[e]at h;cases h
 |some v=>rw[e]at h;rw[←h];rfl
def putA (g:Txt→List α) (k:Txt) (l:List α):Txt→List α:=fun j=>if j=k then l else g j
theorem SlcL.put {E:Heap→α→List Value→Prop} {s:Nat} {t:TypeId} (ok:EncT E s (fun _=>False)) {H H1 H2:Heap} {base b:Nat} {l:List (Bs×Value)} {g:Txt→List α} (h:SlcL E s t base H b l g) {k:Bs} {a:Option Addr} {n cap:Nat} (hv:(mget l k).getD (.slice none 0 0)= .slice a n cap) (hw:Wr a H H1)
  {a':Option Addr} {cap':Nat} {L:List α} (ho:OwnE E s H1 base t a' L cap') (hf: ∀ p,a'=some p→a'=a∨H.size≤p.block)
  (hm:MapO H2 b (mput l k (.slice a' L.length cap'))) (hb:But b H1 H2):SlcL E s t base H2 b (mput l k (.slice a' L.length cap')) (putA g k L):=by
 have hm1:MapO H1 b l:=h.map.keep hw fun⟨p,hp,e⟩=>by
  obtain⟨_,_,c,hc⟩:=h.lt (by rw[hv,hp])
  exact h.map.ne hc e.symm
 have hval: ∀ j,j≠k→SlcV E s t base H2 ((mget l j).getD (.slice none 0 0)) (g j):=fun j hj=>by
  have h1:SlcV E s t base H1 ((mget l j).getD (.slice none 0 0)) (g j):=(h.val j).keep ok hw fun p n' c' e ⟨q,hq,e2⟩=>by
   rw[hq]at hv
   exact hj (h.apart j k p q _ _ _ _ (mget_getD e) (mget_getD hv) e2.symm)
  refine h1.keep ok hb fun p n' c' e e2=> ?_
  obtain⟨a2,c2,e3,ho2⟩:=h1
  rw[e]at e3
  cases e3
  exact(OwnE.not_map ho2 hm1) p rfl e2
 refine⟨hm,fun j=> ?_,fun j j' p q n' m' c' d' h1 h2 e=> ?_⟩
 ·rw[mget_put]
  unfold putA
  by_cases hj:j=k
  ·rw[if_pos hj,if_pos hj]
   refine⟨a',cap',rfl,ho.keep ok hb (fun _ _ _ _ _ h=>h) ?_⟩
   exact OwnE.not_map ho hm1
  ·rw[if_neg hj,if_neg hj]
   exact hval j hj
 ·have fresh: ∀ i p q n' c',i≠k→mget l i=some (.slice (some p) n' c')→a'=some q→p.block=q.block→False:=fun i p q n' c' hi hl hq he=>by
   have hl':(mget l i).getD (.slice none 0 0)= .slice (some p) n' c':=by rw[hl];rfl
   rcases hf q hq with g1|g1
   ·rw[hq]at g1
    rw[←g1]at hv
    exact hi (h.apart i k p q _ _ _ _ hl (mget_getD hv) he)
   ·have:=(h.lt hl').1
    omega
  rw[mget_put]at h1 h2
  by_cases hj:j=k
  ·by_cases hj':j'=k
   ·rw[hj,hj']
   ·rw[if_neg hj']at h2
    rw[if_pos hj]at h1
    injection h1 with h1
    injection h1 with h1 _ _
    exact(fresh j' q p _ _ hj' h2 h1 e.symm).elim
  ·rw[if_neg hj]at h1
   by_cases hj':j'=k
   ·rw[if_pos hj']at h2
    injection h2 with h2
    injection h2 with h2 _ _
    exact(fresh j p q _ _ hj h1 h2 e).elim
   ·rw[if_neg hj']at h2
    exact h.apart j j' p q _ _ _ _ h1 h2 e
theorem SlcL.wr {E:Heap→α→List Value→Prop} {s:Nat} {t:TypeId} (ok:EncT E s (fun _=>False)) {H H1:Heap} {base b:Nat} {l:List (Bs×Value)} {g:Txt→List α} (h:SlcL E s t base H b l g) {k:Bs} {a:Option Addr} {cap:Nat} {L:List α} (hv:(mget l k).getD (.slice none 0 0)= .slice a L.length cap) (hw:Wr a H H1)
  (ho:OwnE E s H1 base t a L cap):SlcL E s t base H1 b l (putA g k L):=by
 have hm1:MapO H1 b l:=h.map.keep hw fun⟨p,hp,e⟩=>by
  obtain⟨_,_,c,hc⟩:=h.lt (by rw[hv,hp])
  exact h.map.ne hc e.symm
 refine⟨hm1,fun j=> ?_,h.apart⟩
 unfold putA
 by_cases hj:j=k
 ·subst hj
  rw[if_pos rfl]
  exact⟨a,cap,hv,ho⟩
 ·rw[if_neg hj]
  refine(h.val j).keep ok hw fun p n' c' e ⟨q,hq,e2⟩=> ?_
  rw[hq]at hv
  exact hj (h.apart j k p q _ _ _ _ (mget_getD e) (mget_getD hv) e2.symm)
theorem SlcL.nil {E:Heap→α→List Value→Prop} {s:Nat} {t:TypeId} {H:Heap} {base b:Nat} (h:MapO H b []):SlcL E s t base H b [] (fun _=>[]):=⟨h,fun k=>⟨none,0,rfl,OwnE.nil _ _ _ _ _⟩,fun k k' p q n m c d h1=>by cases h1⟩
variable {P:Program} {H:Heap}
theorem SemH.lookSome {t kt et:TypeId} {i:TypeInfo} {z v:Value} {b:Nat} {l:List (Bs×Value)} {k:Bs} {K:Value→Heap→Prop} (hm:MapO H b l) (e:mget l k=some v) (ht:P.underlying t=some (.map kt et)) (hk:P.underlying kt=some .string)
  (hi:P.info? et=some i) (hz:i.zero=some z) (h:K (.tuple #[v,.bool true]) H):SemH P (Instr.lookup t (.map (some b)) (.string (mkS k)) true) H K:=
 SemH.lookupOk hm ht hk hi hz (by rw[e];exact h)
theorem SemH.lookNone {t kt et:TypeId} {i:TypeInfo} {z:Value} {b:Nat} {l:List (Bs×Value)} {k:Bs} {K:Value→Heap→Prop} (hm:MapO H b l) (e:mget l k=none) (ht:P.underlying t=some (.map kt et)) (hk:P.underlying kt=some .string)
  (hi:P.info? et=some i) (hz:i.zero=some z) (h:K (.tuple #[z,.bool false]) H):SemH P (Instr.lookup t (.map (some b)) (.string (mkS k)) true) H K:=
 SemH.lookupOk hm ht hk hi hz (by rw[e];exact h)
theorem SemH.lookV {t kt et:TypeId} {i:TypeInfo} {z v:Value} {b:Nat} {l:List (Bs×Value)} {k:Bs} {K:Value→Heap→Prop} (hm:MapO H b l) (ht:P.underlying t=some (.map kt et)) (hk:P.underlying kt=some .string)
  (hi:P.info? et=some i) (hz:i.zero=some z) (e:(mget l k).getD z=v) (h:K v H):SemH P (Instr.lookup t (.map (some b)) (.string (mkS k)) false) H K:=
 SemH.lookupS hm ht hk hi hz (by rw[e];exact h)
def natE (H:Heap) (n:Nat) (c:List Value):Prop:=c=[.int .i64 (n:Int)]
theorem nat_okT:EncT natE 1 (fun _=>False):=⟨fun e=>by rw[e];rfl,fun e u hu=>by rw[e]at hu;simp at hu;subst hu;rfl,fun _ _ e=>e⟩
def nmV (l:List Nat):List Value:=l.map fun(n:Nat)=> .int .i64 (n:Int)
theorem LstV.nats {H:Heap} {l:List Nat} {vs:List Value} (h:LstV natE H l vs):vs=nmV l:=by
 induction h with
 |nil=>rfl
 |cons hc _ ih=>rw[hc,ih];rfl
theorem lst_nats (H:Heap): ∀ l:List Nat,LstV natE H l (nmV l)
 |[]=> .nil
 |n::l=>LstV.cons (c:=[.int .i64 (n:Int)]) rfl (lst_nats H l)
theorem OwnE.nats {H:Heap} {base:Nat} {e:TypeId} {a:Option Addr} {l:List Nat} {cap:Nat} (h:OwnE natE 1 H base e a l cap):Own H base e 1 a l.length cap (nmV l):=by
 obtain⟨vs,h1,h2⟩:=h.out
 rw[h2.nats]at h1
 exact h1
theorem Own.natE {H:Heap} {base:Nat} {e:TypeId} {a:Option Addr} {l:List Nat} {n cap:Nat} (h:Own H base e 1 a n cap (nmV l)) (hn:l.length=n):OwnE Go.Vc.natE 1 H base e a l cap:=⟨_,by rw[hn];exact h,lst_nats H l⟩
end Go.Vc
namespace Go.Proofs.YtjdieklgoepdjaaGreatDoor
open Go Go.Vc Go.Scr Go.Slv
abbrev AskL (H0:Heap) (base:Nat) (H:Heap) (b:Nat) (l:List (Bs×Value)) (g:Txt→List SpnP):Prop:=SlcL (constE spnE H0) 2 43 base H b l g
def AskO (K:List Txt) (H0:Heap) (base:Nat) (H:Heap) (b:Nat) (g:Txt→List SpnP):Prop:=∃ l,AskL H0 base H b l g∧ ∀ k∈l.map (·.1),k∈K
def intO (x:Option Int):Option Value:=x.map fun i=> .int .i64 i
def IntO (H:Heap) (b:Nat) (f:Txt→Option Int):Prop:=∃ l,MapO H b l∧ ∀ k,mget l k=intO (f k)
theorem IntO.keep {F:Nat→Prop} {H H':Heap} {b:Nat} {f:Txt→Option Int} (h:IntO H b f) (k:Only F H H') (hb: ¬F b):IntO H' b f:=let ⟨l,h1,h2⟩:=h;⟨l,h1.keep k hb,h2⟩
theorem IntO.ext {H H':Heap} {b:Nat} {f:Txt→Option Int} (h:IntO H b f) (k:Ext H H'):IntO H' b f:=h.keep k id
theorem IntO.nil {H:Heap} {b:Nat} (h:MapO H b []):IntO H b (fun _=>none):=⟨[],h,fun k=>rfl⟩
theorem IntO.put {H:Heap} {b:Nat} {l:List (Bs×Value)} {f:Txt→Option Int} (hl: ∀ k,mget l k=intO (f k)) {k:Bs} {i:Int} (h:MapO H b (mput l k (.int .i64 i))):IntO H b (fun j=>if j=k then some i else f j):=
 ⟨_,h,fun j=>by rw[mget_put];by_cases e:j=k<;>simp[e,intO,hl]⟩
theorem IntO.del {H:Heap} {b:Nat} {l:List (Bs×Value)} {f:Txt→Option Int} (hn:(l.map (·.1)).Nodup) (hl: ∀ k,mget l k=intO (f k)) {k:Bs} (h:MapO H b (mdel l k)):IntO H b (fun j=>if j=k then none else f j):=
 ⟨_,h,fun j=>by rw[mget_del hn];by_cases e:j=k<;>simp[e,intO,hl]⟩
def choI (c:Cho):Txt→Option Int:=fun k=>(c k).map fun i=>(i:Int)
def canI:Option Nat→Int
 |some i=>i
 |none=> -1
def fixI (f:Fix):Txt→Option Int:=fun k=>(f k).map canI
def ByO (R:List RowP) (H:Heap) (b:Nat):Prop:=∃ l,MapO H b l∧ ∀ k,∃ a cap,(mget l k).getD sliceZ= .slice a (candsF R k R.length).length cap∧(candsF R k R.length).length≤cap∧RowT 3 H a (nmV (candsF R k R.length))
structure SrC where
 R:List RowP
 N:List NeedP
 ra:Option Addr
 rc:Nat
 na:Option Addr
 nc:Nat
 S:Nat
 B:Nat
 F:Nat
 C:Nat
 A:Nat
 free:Bool
structure SrB (x:SrC):Prop where
 apart:Apart x.R
 rows:RowsB x.R
 len:x.R.length≤200
 nlen:x.N.length≤1000
 span: ∀ n∈x.N,SpnB n.span
def srchC (x:SrC) (left:Int):Array Value:= #[.slice x.ra x.R.length x.rc,.slice x.na x.N.length x.nc,.map (some x.B),.map (some x.F),.map (some x.C),.map (some x.A),.int .i64 left,.bool x.free]
structure SrO (x:SrC) (H0:Heap) (base:Nat) (H:Heap) (f:Fix) (c:Cho) (g:Txt→List SpnP) (left:Int):Prop where
 h0:Ext H0 H
 glb:Glb H0
 sz:H0.size≤base
 bs:base≤H.size
 rows:RowE rowE H0 x.ra x.R
 needs:RowE needE H0 x.na x.N
 blk:Blk H x.S (srchC x left) 157
 by_:ByO x.R H x.B
 fix:IntO H x.F (fixI f)
 cho:IntO H x.C (choI c)
 ask:AskO (allU x.R x.N) H0 base H x.A g
 spans: ∀ k,∀ s∈g k,SpnB s
 lens: ∀ k,(g k).length≤100000
 low:H0.size≤x.S∧H0.size≤x.C∧H0.size≤x.A∧H0.size≤x.F
 ne:x.B≠x.C∧x.B≠x.A∧x.F≠x.C∧x.F≠x.A∧x.C≠x.A∧x.B≠x.F
theorem ByO.ext {R:List RowP} {H H':Heap} {b:Nat} (h:ByO R H b) (k:Ext H H'):ByO R H' b:=let ⟨l,h1,h2⟩:=h;⟨l,h1.ext k,fun j=>let ⟨a,cap,e,hc,r⟩:=h2 j;⟨a,cap,e,hc,r.ext k⟩⟩
theorem AskO.ext {K:List Txt} {H0 H H':Heap} {base b:Nat} {g:Txt→List SpnP} (h:AskO K H0 base H b g) (k:Ext H H'):AskO K H0 base H' b g:=let ⟨l,h,hk⟩:=h;⟨l,h.ext (const_ok spn_okE H0) k,hk⟩
theorem SrO.ext {x:SrC} {H0 H H':Heap} {base:Nat} {f:Fix} {c:Cho} {g:Txt→List SpnP} {left:Int} (h:SrO x H0 base H f c g left) (k:Ext H H'):SrO x H0 base H' f c g left:=
 ⟨h.h0.trans k,h.glb,h.sz,Nat.le_trans h.bs k.size,h.rows,h.needs,h.blk.ext k,h.by_.ext k,h.fix.ext k,h.cho.ext k,h.ask.ext k,h.spans,h.lens,h.low,h.ne⟩
abbrev Fr (W:Nat→Prop) (base:Nat) (H H':Heap):Prop:=Only (fun b=>W b∨(base≤b∧ ∃ c,Blk H b c 43)) H H'
theorem Fr.refl (W:Nat→Prop) (base:Nat) (H:Heap):Fr W base H H:=Only.refl _ _
theorem Fr.of {W:Nat→Prop} {base:Nat} {H H':Heap} (h:Ext H H'):Fr W base H H':=h.only
theorem Fr.trans {W:Nat→Prop} {base:Nat} {A B C:Heap} (h:Fr W base A B) (k:Fr W base B C):Fr W base A C:=by
 refine Only.trans h k fun b hb hg=> ?_
 rcases hg with hg|⟨hb0,c,hc⟩
 ·exact .inl hg
 ·refine Classical.byContradiction fun hn=>hn (.inr ⟨hb0,c,?_⟩)
  have:=h.same b hb hn
  obtain⟨fr,h1,h2⟩:=hc.out
  exact⟨fr,by rw[←this];exact h1,h2⟩
theorem Fr.but {W:Nat→Prop} {base:Nat} {H H':Heap} {b:Nat} (h:But b H H') (hb:W b):Fr W base H H':=h.mono fun x e=> .inl (by rw[e];exact hb)
theorem Fr.wr {W:Nat→Prop} {base:Nat} {H H':Heap} {a:Option Addr} (h:Wr a H H') (ha: ∀ p,a=some p→base≤p.block∧ ∃ c,Blk H p.block c 43):Fr W base H H':=h.mono fun x ⟨p,hp,e⟩=> .inr (by rw[←e];exact ha p hp)
theorem Fr.mono {W V:Nat→Prop} {base:Nat} {H H':Heap} (h:Fr W base H H') (k: ∀ b,W b→V b):Fr V base H H':=Only.mono h fun b e=>e.imp_left (k b)
def SrW (x:SrC) (b:Nat):Prop:=b=x.S∨b=x.C∨b=x.A
theorem Fr.blk {W:Nat→Prop} {base:Nat} {H H':Heap} {b:Nat} {c:Array Value} {t:TypeId} (k:Fr W base H H') (h:Blk H b c t) (hw: ¬W b) (ht:t≠43):Blk H' b c t:=h.keep k fun e=>e.elim hw fun⟨_,c',hc'⟩=>ht (h.typ hc')
theorem Fr.map {W:Nat→Prop} {base:Nat} {H H':Heap} {b:Nat} {l:List (Bs×Value)} (k:Fr W base H H') (h:MapO H b l) (hw: ¬W b):MapO H' b l:=h.keep k fun e=>e.elim hw fun⟨_,c',hc'⟩=>h.ne hc' rfl
theorem Fr.old {W:Nat→Prop} {base:Nat} {H0 H H':Heap} (k:Fr W base H H') (h:Ext H0 H) (hw: ∀ b,W b→H0.size≤b) (hb:H0.size≤base):Ext H0 H':=by
 refine Only.trans h k fun b hb' hg=> ?_
 rcases hg with hg|⟨h1,_⟩
 ·exact absurd (hw b hg) (by omega)
 ·omega
end Go.Proofs.YtjdieklgoepdjaaGreatDoor
namespace Go.Vc
variable {α:Type}
def ixI:Option Nat→Int
 |some i=>i
 |none=> -1
theorem ix_at {l:List α} {p:α→Bool} {i:Nat} {x:α} (hx:l[i]? =some x) (hp:p x=true) (hno: ∀ j y,j<i→l[j]? =some y→p y=false):l.findIdx? p=some i:=by
 obtain⟨hi,e⟩:=List.getElem?_eq_some_iff.1 hx
 refine List.findIdx?_eq_some_iff_getElem.2 ⟨hi,by rw[e];exact hp,fun j hj=> ?_⟩
 have:=hno j l[j] hj (List.getElem?_eq_getElem (by omega))
 rw[this];simp
theorem ix_no {l:List α} {p:α→Bool} (hno: ∀ j y,j<l.length→l[j]? =some y→p y=false):l.findIdx? p=none:=by
 rw[List.findIdx?_eq_none_iff]
 intro y hy
 obtain⟨j,hj⟩:=List.getElem?_of_mem hy
 exact hno j y (List.getElem?_eq_some_iff.1 hj).1 hj
theorem ix_next {l:List α} {p:α→Bool} {i:Nat} {x:α} (hx:l[i]? =some x) (hp:p x=false) (hno: ∀ j y,j<i→l[j]? =some y→p y=false): ∀ j y,j<i+1→l[j]? =some y→p y=false:=fun j y hj hy=>by
 by_cases e:j=i
 ·subst e;rw[hx]at hy;cases hy;exact hp
 ·exact hno j y (by omega) hy
theorem ix_any (l:List α) (p:α→Bool):decide (0≤ixI (l.findIdx? p))=l.any p:=by
 cases h:l.findIdx? p with
 |none=>
  rw[List.findIdx?_eq_none_iff]at h
  have:l.any p=false:=by rw[List.any_eq_false];intro x hx;rw[h x hx];simp
  rw[this];rfl
 |some i=>
  obtain⟨hi,hp,_⟩:=List.findIdx?_eq_some_iff_getElem.1 h
  have:l.any p=true:=List.any_eq_true.2 ⟨_,List.getElem_mem hi,hp⟩
  rw[this];exact decide_eq_true (Int.natCast_nonneg i)
theorem SemH.mkFunc {P:Program} {H:Heap} {fn:Fn} {first captured:Array Value} {K:Value→Heap→Prop} (hk:K (.func fn first captured) H):SemH P (Instr.makeFunc fn first captured) H K:=
 ⟨fun w hw=>⟨_,w,rfl,Same.refl w,hw▸hk⟩⟩
theorem SemH.load_el {P:Program} {H H0:Heap} {t:TypeId} {i:TypeInfo} {b o:Nat} {c:List Value} {K:Value→Heap→Prop} (hT:aggB P t=some true) (hi:P.info? t=some i) (hl:i.size=c.length) (hc: ∀ k u,c[k]? =some u→hcell H0 ⟨b,o+k,none⟩=some u) (he:Ext H0 H) (hk:K (.agg c.toArray) H):SemH P (Instr.loadAt t (.pointer (some ⟨b,o,none⟩))) H K:=
 SemH.load_agg hT hi hl (fun j u hu=>hcell_keep (hc j u hu) he id) hk
end Go.Vc
namespace Go.Proofs.YtjdieklgoepdjaaGreatDoor
open Go Go.Vc Go.Scr Go.Slv
set_option maxHeartbeats 2000000 in
theorem ixspan_any (l:List SpnP) (p:SpnP→Bool) (g:FuncId) (c0 c1:Value) (a:Option Addr) (n cap:Nat) (H0 H:Heap) (k0:Ext H0 H) (hr:RowE spnE H0 a l) (hn:l.length=n) (hnl:n≤1000000)
  (hp: ∀ x c H',x∈l→spnE H0 x c→Ext H H'→CallH Tryz.prog g [.agg c.toArray,c0,c1] H' fun v H''=>v= .bool (p x)∧Ext H' H''):
  CallH Tryz.prog 212 [.slice a n cap,.func (.func g) #[] #[c0,c1]] H fun v H'=>v= .int .i64 (ixI (l.findIdx? p))∧Ext H H':=by
 obtain⟨Z,hZ⟩: ∃ Z,l.findIdx? p=Z:=⟨_,rfl⟩
 rw[hZ]
 refine Vc.CallH.body Tryz.func212 Tryz.call212 rfl (by decide+kernel) rfl ?_
 ((conv=>whnf);repeat(any_goals((first|refine Vc.stp ?_)<;>(intros;(conv=>whnf)))))
 refine LoopH.intro (fun(i:Nat)=>[(8,.int .i64 i)]) (fun i H'=>i≤n∧(∀ j y,j<i→l[j]? =some y→p y=false)∧Ext H H') (fun i=>n-i) 0 ⟨rfl,trivial⟩ ⟨Nat.zero_le _,fun j y h=>absurd h (Nat.not_lt_zero _),Ext.refl _⟩ ?_
 rintro i H1 ⟨hi,hno,hx1⟩
 have hz1:=hx1.size
 by_cases hlt:i<n
 ·obtain⟨x,hx⟩: ∃ x,l[i]? =some x:=⟨_,List.getElem?_eq_getElem (by omega)⟩
  have hq:=fun c H' hc hk=>hp x c H' (List.mem_of_getElem? hx) hc hk
  cases hpx:p x with
  |true=>
   rw[hpx]at hq
   ((conv=>whnf);repeat(any_goals((first|(refine IdxA.el spn_okE (by decide) hr hn i x rfl hx ?_;intro b o c hcE hcl)|((with_reducible apply SemH.load_el);rfl;rfl;(show 2=_;exact(spn_okE.len hcE).symm);(exact hcl);(focus((exact k0.trans (hx1.trans (by exact Vc.xt)))));(conv=>whnf))|(refine(hq c _ hcE (hx1.trans (by exact Vc.xt))).mono ?_;rintro _ H2 ⟨rfl,hx2⟩;have hz2:=hx2.size)|refine Vc.stp ?_)<;>(intros;(conv=>whnf)))))
   exact⟨by rw[←hZ,ix_at hx hpx hno];rfl,hx1.trans (by exact Vc.xt)⟩
  |false=>
   rw[hpx]at hq
   ((conv=>whnf);repeat(any_goals((first|(refine IdxA.el spn_okE (by decide) hr hn i x rfl hx ?_;intro b o c hcE hcl)|((with_reducible apply SemH.load_el);rfl;rfl;(show 2=_;exact(spn_okE.len hcE).symm);(exact hcl);(focus((exact k0.trans (hx1.trans (by exact Vc.xt)))));(conv=>whnf))|(refine(hq c _ hcE (hx1.trans (by exact Vc.xt))).mono ?_;rintro _ H2 ⟨rfl,hx2⟩;have hz2:=hx2.size)|refine Vc.stp ?_)<;>(intros;(conv=>whnf)))))
   exact⟨i+1,⟨rfl,trivial⟩,⟨by omega,ix_next hx hpx hno,hx1.trans (by exact Vc.xt)⟩,by omega⟩
 ·obtain rfl:i=n:=by omega
  ((conv=>whnf);repeat(any_goals((first|refine Vc.stp ?_)<;>(intros;(conv=>whnf)))))
  exact⟨by rw[←hZ,ix_no fun j y hj hy=>hno j y (by omega) hy];rfl,hx1⟩
theorem cospan_any (l:List SpnP) (p:SpnP→Bool) (g:FuncId) (c0 c1:Value) (a:Option Addr) (n cap:Nat) (H0 H:Heap) (k0:Ext H0 H) (hr:RowE spnE H0 a l) (hn:l.length=n) (hnl:n≤1000000)
  (hp: ∀ x c H',x∈l→spnE H0 x c→Ext H H'→CallH Tryz.prog g [.agg c.toArray,c0,c1] H' fun v H''=>v= .bool (p x)∧Ext H' H''):
  CallH Tryz.prog 204 [.slice a n cap,.func (.func g) #[] #[c0,c1]] H fun v H'=>v= .bool (l.any p)∧Ext H H':=by
 refine Vc.CallH.body Tryz.func204 Tryz.call204 rfl (by decide+kernel) rfl ?_
 ((conv=>whnf);repeat(any_goals((first|(refine(ixspan_any l p g c0 c1 a n cap H0 _ k0 hr hn hnl hp).mono ?_;rintro _ H1 ⟨rfl,hx1⟩)|refine Vc.stp ?_)<;>(intros;(conv=>whnf)))))
 exact⟨by show Value.bool (decide (0≤_))=_;rw[ix_any],hx1⟩
set_option maxHeartbeats 2000000 in
theorem ixbnds_any (l:List (List BndP)) (p:(List BndP)→Bool) (g:FuncId) (c0:Value) (a:Option Addr) (n cap:Nat) (H0 H:Heap) (k0:Ext H0 H) (hr:RowE bndsE H0 a l) (hn:l.length=n) (hnl:n≤1000000)
  (hp: ∀ x a c H',x∈l→x.length≤c→RowE bndE H0 a x→Ext H H'→CallH Tryz.prog g [.slice a x.length c,c0] H' fun v H''=>v= .bool (p x)∧Ext H' H''):
  CallH Tryz.prog 170 [.slice a n cap,.func (.func g) #[] #[c0]] H fun v H'=>v= .int .i64 (ixI (l.findIdx? p))∧Ext H H':=by
 obtain⟨Z,hZ⟩: ∃ Z,l.findIdx? p=Z:=⟨_,rfl⟩
 rw[hZ]
 refine Vc.CallH.body Tryz.func170 Tryz.call170 rfl (by decide+kernel) rfl ?_
 ((conv=>whnf);repeat(any_goals((first|refine Vc.stp ?_)<;>(intros;(conv=>whnf)))))
 refine LoopH.intro (fun(i:Nat)=>[(8,.int .i64 i)]) (fun i H'=>i≤n∧(∀ j y,j<i→l[j]? =some y→p y=false)∧Ext H H') (fun i=>n-i) 0 ⟨rfl,trivial⟩ ⟨Nat.zero_le _,fun j y h=>absurd h (Nat.not_lt_zero _),Ext.refl _⟩ ?_
 rintro i H1 ⟨hi,hno,hx1⟩
 have hz1:=hx1.size
 by_cases hlt:i<n
 ·obtain⟨x,hx⟩: ∃ x,l[i]? =some x:=⟨_,List.getElem?_eq_getElem (by omega)⟩
  have hq:=fun a c H' hl hr hk=>hp x a c H' (List.mem_of_getElem? hx) hl hr hk
  cases hpx:p x with
  |true=>
   rw[hpx]at hq
   ((conv=>whnf);repeat(any_goals((first|(refine IdxA.el bnds_ok (by decide) hr hn i x rfl hx ?_;intro b o c hcE hcl;obtain⟨ea,ec,ee,hel,her⟩:=(id hcE);have hcl0:hcell H0 ⟨b,o,none⟩=some (Value.slice ea x.length ec):=(by have:=hcl 0 _ (by rw[ee];rfl);exact this);have hk1:=k0.trans hx1)|(refine(hq ea ec _ hel her (hx1.trans (by exact Vc.xt))).mono ?_;rintro _ H2 ⟨rfl,hx2⟩;have hz2:=hx2.size)|refine Vc.stp ?_)<;>(intros;(conv=>whnf)))))
   exact⟨by rw[←hZ,ix_at hx hpx hno];rfl,hx1.trans (by exact Vc.xt)⟩
  |false=>
   rw[hpx]at hq
   ((conv=>whnf);repeat(any_goals((first|(refine IdxA.el bnds_ok (by decide) hr hn i x rfl hx ?_;intro b o c hcE hcl;obtain⟨ea,ec,ee,hel,her⟩:=(id hcE);have hcl0:hcell H0 ⟨b,o,none⟩=some (Value.slice ea x.length ec):=(by have:=hcl 0 _ (by rw[ee];rfl);exact this);have hk1:=k0.trans hx1)|(refine(hq ea ec _ hel her (hx1.trans (by exact Vc.xt))).mono ?_;rintro _ H2 ⟨rfl,hx2⟩;have hz2:=hx2.size)|refine Vc.stp ?_)<;>(intros;(conv=>whnf)))))
   exact⟨i+1,⟨rfl,trivial⟩,⟨by omega,ix_next hx hpx hno,hx1.trans (by exact Vc.xt)⟩,by omega⟩
 ·obtain rfl:i=n:=by omega
  ((conv=>whnf);repeat(any_goals((first|refine Vc.stp ?_)<;>(intros;(conv=>whnf)))))
  exact⟨by rw[←hZ,ix_no fun j y hj hy=>hno j y (by omega) hy];rfl,hx1⟩
theorem cobnds_any (l:List (List BndP)) (p:(List BndP)→Bool) (g:FuncId) (c0:Value) (a:Option Addr) (n cap:Nat) (H0 H:Heap) (k0:Ext H0 H) (hr:RowE bndsE H0 a l) (hn:l.length=n) (hnl:n≤1000000)
  (hp: ∀ x a c H',x∈l→x.length≤c→RowE bndE H0 a x→Ext H H'→CallH Tryz.prog g [.slice a x.length c,c0] H' fun v H''=>v= .bool (p x)∧Ext H' H''):
  CallH Tryz.prog 125 [.slice a n cap,.func (.func g) #[] #[c0]] H fun v H'=>v= .bool (l.any p)∧Ext H H':=by
 refine Vc.CallH.body Tryz.func125 Tryz.call125 rfl (by decide+kernel) rfl ?_
 ((conv=>whnf);repeat(any_goals((first|(refine(ixbnds_any l p g c0 a n cap H0 _ k0 hr hn hnl hp).mono ?_;rintro _ H1 ⟨rfl,hx1⟩)|refine Vc.stp ?_)<;>(intros;(conv=>whnf)))))
 exact⟨by show Value.bool (decide (0≤_))=_;rw[ix_any],hx1⟩
set_option maxHeartbeats 2000000 in
theorem ixbnd_any (l:List BndP) (p:BndP→Bool) (g:FuncId) (c0:Value) (a:Option Addr) (n cap:Nat) (H0 H:Heap) (k0:Ext H0 H) (hr:RowE bndE H0 a l) (hn:l.length=n) (hnl:n≤1000000)
  (hp: ∀ x c H',x∈l→bndE H0 x c→Ext H H'→CallH Tryz.prog g [.agg c.toArray,c0] H' fun v H''=>v= .bool (p x)∧Ext H' H''):
  CallH Tryz.prog 171 [.slice a n cap,.func (.func g) #[] #[c0]] H fun v H'=>v= .int .i64 (ixI (l.findIdx? p))∧Ext H H':=by
 obtain⟨Z,hZ⟩: ∃ Z,l.findIdx? p=Z:=⟨_,rfl⟩
 rw[hZ]
 refine Vc.CallH.body Tryz.func171 Tryz.call171 rfl (by decide+kernel) rfl ?_
 ((conv=>whnf);repeat(any_goals((first|refine Vc.stp ?_)<;>(intros;(conv=>whnf)))))
 refine LoopH.intro (fun(i:Nat)=>[(8,.int .i64 i)]) (fun i H'=>i≤n∧(∀ j y,j<i→l[j]? =some y→p y=false)∧Ext H H') (fun i=>n-i) 0 ⟨rfl,trivial⟩ ⟨Nat.zero_le _,fun j y h=>absurd h (Nat.not_lt_zero _),Ext.refl _⟩ ?_
 rintro i H1 ⟨hi,hno,hx1⟩
 have hz1:=hx1.size
 by_cases hlt:i<n
 ·obtain⟨x,hx⟩: ∃ x,l[i]? =some x:=⟨_,List.getElem?_eq_getElem (by omega)⟩
  have hq:=fun c H' hc hk=>hp x c H' (List.mem_of_getElem? hx) hc hk
  cases hpx:p x with
  |true=>
   rw[hpx]at hq
   ((conv=>whnf);repeat(any_goals((first|(refine IdxA.el bnd_ok (by decide) hr hn i x rfl hx ?_;intro b o c hcE hcl)|((with_reducible apply SemH.load_el);rfl;rfl;(show 5=_;exact(bnd_ok.len hcE).symm);(exact hcl);(focus((exact k0.trans (hx1.trans (by exact Vc.xt)))));(conv=>whnf))|(refine(hq c _ hcE (hx1.trans (by exact Vc.xt))).mono ?_;rintro _ H2 ⟨rfl,hx2⟩;have hz2:=hx2.size)|refine Vc.stp ?_)<;>(intros;(conv=>whnf)))))
   exact⟨by rw[←hZ,ix_at hx hpx hno];rfl,hx1.trans (by exact Vc.xt)⟩
  |false=>
   rw[hpx]at hq
   ((conv=>whnf);repeat(any_goals((first|(refine IdxA.el bnd_ok (by decide) hr hn i x rfl hx ?_;intro b o c hcE hcl)|((with_reducible apply SemH.load_el);rfl;rfl;(show 5=_;exact(bnd_ok.len hcE).symm);(exact hcl);(focus((exact k0.trans (hx1.trans (by exact Vc.xt)))));(conv=>whnf))|(refine(hq c _ hcE (hx1.trans (by exact Vc.xt))).mono ?_;rintro _ H2 ⟨rfl,hx2⟩;have hz2:=hx2.size)|refine Vc.stp ?_)<;>(intros;(conv=>whnf)))))
   exact⟨i+1,⟨rfl,trivial⟩,⟨by omega,ix_next hx hpx hno,hx1.trans (by exact Vc.xt)⟩,by omega⟩
 ·obtain rfl:i=n:=by omega
  ((conv=>whnf);repeat(any_goals((first|refine Vc.stp ?_)<;>(intros;(conv=>whnf)))))
  exact⟨by rw[←hZ,ix_no fun j y hj hy=>hno j y (by omega) hy];rfl,hx1⟩
theorem cobnd_any (l:List BndP) (p:BndP→Bool) (g:FuncId) (c0:Value) (a:Option Addr) (n cap:Nat) (H0 H:Heap) (k0:Ext H0 H) (hr:RowE bndE H0 a l) (hn:l.length=n) (hnl:n≤1000000)
  (hp: ∀ x c H',x∈l→bndE H0 x c→Ext H H'→CallH Tryz.prog g [.agg c.toArray,c0] H' fun v H''=>v= .bool (p x)∧Ext H' H''):
  CallH Tryz.prog 127 [.slice a n cap,.func (.func g) #[] #[c0]] H fun v H'=>v= .bool (l.any p)∧Ext H H':=by
 refine Vc.CallH.body Tryz.func127 Tryz.call127 rfl (by decide+kernel) rfl ?_
 ((conv=>whnf);repeat(any_goals((first|(refine(ixbnd_any l p g c0 a n cap H0 _ k0 hr hn hnl hp).mono ?_;rintro _ H1 ⟨rfl,hx1⟩)|refine Vc.stp ?_)<;>(intros;(conv=>whnf)))))
 exact⟨by show Value.bool (decide (0≤_))=_;rw[ix_any],hx1⟩
set_option maxHeartbeats 2000000 in
theorem ixrow_any (l:List RowP) (p:RowP→Bool) (g:FuncId) (c0 c1:Value) (a:Option Addr) (n cap:Nat) (H0 H:Heap) (k0:Ext H0 H) (hr:RowE rowE H0 a l) (hn:l.length=n) (hnl:n≤1000000)
  (hp: ∀ x c H',x∈l→rowE H0 x c→Ext H H'→CallH Tryz.prog g [.agg c.toArray,c0,c1] H' fun v H''=>v= .bool (p x)∧Ext H' H''):
  CallH Tryz.prog 176 [.slice a n cap,.func (.func g) #[] #[c0,c1]] H fun v H'=>v= .int .i64 (ixI (l.findIdx? p))∧Ext H H':=by
 obtain⟨Z,hZ⟩: ∃ Z,l.findIdx? p=Z:=⟨_,rfl⟩
 rw[hZ]
 refine Vc.CallH.body Tryz.func176 Tryz.call176 rfl (by decide+kernel) rfl ?_
 ((conv=>whnf);repeat(any_goals((first|refine Vc.stp ?_)<;>(intros;(conv=>whnf)))))
 refine LoopH.intro (fun(i:Nat)=>[(8,.int .i64 i)]) (fun i H'=>i≤n∧(∀ j y,j<i→l[j]? =some y→p y=false)∧Ext H H') (fun i=>n-i) 0 ⟨rfl,trivial⟩ ⟨Nat.zero_le _,fun j y h=>absurd h (Nat.not_lt_zero _),Ext.refl _⟩ ?_
 rintro i H1 ⟨hi,hno,hx1⟩
 have hz1:=hx1.size
 by_cases hlt:i<n
 ·obtain⟨x,hx⟩: ∃ x,l[i]? =some x:=⟨_,List.getElem?_eq_getElem (by omega)⟩
  have hq:=fun c H' hc hk=>hp x c H' (List.mem_of_getElem? hx) hc hk
  cases hpx:p x with
  |true=>
   rw[hpx]at hq
   ((conv=>whnf);repeat(any_goals((first|(refine IdxA.el row_ok (by decide) hr hn i x rfl hx ?_;intro b o c hcE hcl)|((with_reducible apply SemH.load_el);rfl;rfl;(show 39=_;exact(row_ok.len hcE).symm);(exact hcl);(focus((exact k0.trans (hx1.trans (by exact Vc.xt)))));(conv=>whnf))|(refine(hq c _ hcE (hx1.trans (by exact Vc.xt))).mono ?_;rintro _ H2 ⟨rfl,hx2⟩;have hz2:=hx2.size)|refine Vc.stp ?_)<;>(intros;(conv=>whnf)))))
   exact⟨by rw[←hZ,ix_at hx hpx hno];rfl,hx1.trans (by exact Vc.xt)⟩
  |false=>
   rw[hpx]at hq
   ((conv=>whnf);repeat(any_goals((first|(refine IdxA.el row_ok (by decide) hr hn i x rfl hx ?_;intro b o c hcE hcl)|((with_reducible apply SemH.load_el);rfl;rfl;(show 39=_;exact(row_ok.len hcE).symm);(exact hcl);(focus((exact k0.trans (hx1.trans (by exact Vc.xt)))));(conv=>whnf))|(refine(hq c _ hcE (hx1.trans (by exact Vc.xt))).mono ?_;rintro _ H2 ⟨rfl,hx2⟩;have hz2:=hx2.size)|refine Vc.stp ?_)<;>(intros;(conv=>whnf)))))
   exact⟨i+1,⟨rfl,trivial⟩,⟨by omega,ix_next hx hpx hno,hx1.trans (by exact Vc.xt)⟩,by omega⟩
 ·obtain rfl:i=n:=by omega
  ((conv=>whnf);repeat(any_goals((first|refine Vc.stp ?_)<;>(intros;(conv=>whnf)))))
  exact⟨by rw[←hZ,ix_no fun j y hj hy=>hno j y (by omega) hy];rfl,hx1⟩
set_option maxHeartbeats 2000000 in
theorem ixneed_any (l:List NeedP) (p:NeedP→Bool) (g:FuncId) (c0:Value) (a:Option Addr) (n cap:Nat) (H0 H:Heap) (k0:Ext H0 H) (hr:RowE needE H0 a l) (hn:l.length=n) (hnl:n≤1000000)
  (hp: ∀ x c H',x∈l→needE H0 x c→Ext H H'→CallH Tryz.prog g [.agg c.toArray,c0] H' fun v H''=>v= .bool (p x)∧Ext H' H''):
  CallH Tryz.prog 108 [.slice a n cap,.func (.func g) #[] #[c0]] H fun v H'=>v= .int .i64 (ixI (l.findIdx? p))∧Ext H H':=by
 obtain⟨Z,hZ⟩: ∃ Z,l.findIdx? p=Z:=⟨_,rfl⟩
 rw[hZ]
 refine Vc.CallH.body Tryz.func108 Tryz.call108 rfl (by decide+kernel) rfl ?_
 ((conv=>whnf);repeat(any_goals((first|refine Vc.stp ?_)<;>(intros;(conv=>whnf)))))
 refine LoopH.intro (fun(i:Nat)=>[(8,.int .i64 i)]) (fun i H'=>i≤n∧(∀ j y,j<i→l[j]? =some y→p y=false)∧Ext H H') (fun i=>n-i) 0 ⟨rfl,trivial⟩ ⟨Nat.zero_le _,fun j y h=>absurd h (Nat.not_lt_zero _),Ext.refl _⟩ ?_
 rintro i H1 ⟨hi,hno,hx1⟩
 have hz1:=hx1.size
 by_cases hlt:i<n
 ·obtain⟨x,hx⟩: ∃ x,l[i]? =some x:=⟨_,List.getElem?_eq_getElem (by omega)⟩
  have hq:=fun c H' hc hk=>hp x c H' (List.mem_of_getElem? hx) hc hk
  cases hpx:p x with
  |true=>
   rw[hpx]at hq
   ((conv=>whnf);repeat(any_goals((first|(refine IdxA.el need_ok (by decide) hr hn i x rfl hx ?_;intro b o c hcE hcl)|((with_reducible apply SemH.load_el);rfl;rfl;(show 4=_;exact(need_ok.len hcE).symm);(exact hcl);(focus((exact k0.trans (hx1.trans (by exact Vc.xt)))));(conv=>whnf))|(refine(hq c _ hcE (hx1.trans (by exact Vc.xt))).mono ?_;rintro _ H2 ⟨rfl,hx2⟩;have hz2:=hx2.size)|refine Vc.stp ?_)<;>(intros;(conv=>whnf)))))
   exact⟨by rw[←hZ,ix_at hx hpx hno];rfl,hx1.trans (by exact Vc.xt)⟩
  |false=>
   rw[hpx]at hq
   ((conv=>whnf);repeat(any_goals((first|(refine IdxA.el need_ok (by decide) hr hn i x rfl hx ?_;intro b o c hcE hcl)|((with_reducible apply SemH.load_el);rfl;rfl;(show 4=_;exact(need_ok.len hcE).symm);(exact hcl);(focus((exact k0.trans (hx1.trans (by exact Vc.xt)))));(conv=>whnf))|(refine(hq c _ hcE (hx1.trans (by exact Vc.xt))).mono ?_;rintro _ H2 ⟨rfl,hx2⟩;have hz2:=hx2.size)|refine Vc.stp ?_)<;>(intros;(conv=>whnf)))))
   exact⟨i+1,⟨rfl,trivial⟩,⟨by omega,ix_next hx hpx hno,hx1.trans (by exact Vc.xt)⟩,by omega⟩
 ·obtain rfl:i=n:=by omega
  ((conv=>whnf);repeat(any_goals((first|refine Vc.stp ?_)<;>(intros;(conv=>whnf)))))
  exact⟨by rw[←hZ,ix_no fun j y hj hy=>hno j y (by omega) hy];rfl,hx1⟩
theorem coneed_any (l:List NeedP) (p:NeedP→Bool) (g:FuncId) (c0:Value) (a:Option Addr) (n cap:Nat) (H0 H:Heap) (k0:Ext H0 H) (hr:RowE needE H0 a l) (hn:l.length=n) (hnl:n≤1000000)
  (hp: ∀ x c H',x∈l→needE H0 x c→Ext H H'→CallH Tryz.prog g [.agg c.toArray,c0] H' fun v H''=>v= .bool (p x)∧Ext H' H''):
  CallH Tryz.prog 63 [.slice a n cap,.func (.func g) #[] #[c0]] H fun v H'=>v= .bool (l.any p)∧Ext H H':=by
 refine Vc.CallH.body Tryz.func63 Tryz.call63 rfl (by decide+kernel) rfl ?_
 ((conv=>whnf);repeat(any_goals((first|(refine(ixneed_any l p g c0 a n cap H0 _ k0 hr hn hnl hp).mono ?_;rintro _ H1 ⟨rfl,hx1⟩)|refine Vc.stp ?_)<;>(intros;(conv=>whnf)))))
 exact⟨by show Value.bool (decide (0≤_))=_;rw[ix_any],hx1⟩
set_option maxHeartbeats 2000000 in
theorem ixpin_any (l:List PinP) (p:PinP→Bool) (g:FuncId) (c0:Value) (a:Option Addr) (n cap:Nat) (H0 H:Heap) (k0:Ext H0 H) (hr:RowE pinE H0 a l) (hn:l.length=n) (hnl:n≤1000000)
  (hp: ∀ x c H',x∈l→pinE H0 x c→Ext H H'→CallH Tryz.prog g [.agg c.toArray,c0] H' fun v H''=>v= .bool (p x)∧Ext H' H''):
  CallH Tryz.prog 105 [.slice a n cap,.func (.func g) #[] #[c0]] H fun v H'=>v= .int .i64 (ixI (l.findIdx? p))∧Ext H H':=by
 obtain⟨Z,hZ⟩: ∃ Z,l.findIdx? p=Z:=⟨_,rfl⟩
 rw[hZ]
 refine Vc.CallH.body Tryz.func105 Tryz.call105 rfl (by decide+kernel) rfl ?_
 ((conv=>whnf);repeat(any_goals((first|refine Vc.stp ?_)<;>(intros;(conv=>whnf)))))
 refine LoopH.intro (fun(i:Nat)=>[(8,.int .i64 i)]) (fun i H'=>i≤n∧(∀ j y,j<i→l[j]? =some y→p y=false)∧Ext H H') (fun i=>n-i) 0 ⟨rfl,trivial⟩ ⟨Nat.zero_le _,fun j y h=>absurd h (Nat.not_lt_zero _),Ext.refl _⟩ ?_
 rintro i H1 ⟨hi,hno,hx1⟩
 have hz1:=hx1.size
 by_cases hlt:i<n
 ·obtain⟨x,hx⟩: ∃ x,l[i]? =some x:=⟨_,List.getElem?_eq_getElem (by omega)⟩
  have hq:=fun c H' hc hk=>hp x c H' (List.mem_of_getElem? hx) hc hk
  cases hpx:p x with
  |true=>
   rw[hpx]at hq
   ((conv=>whnf);repeat(any_goals((first|(refine IdxA.el pin_ok (by decide) hr hn i x rfl hx ?_;intro b o c hcE hcl)|((with_reducible apply SemH.load_el);rfl;rfl;(show 37=_;exact(pin_ok.len hcE).symm);(exact hcl);(focus((exact k0.trans (hx1.trans (by exact Vc.xt)))));(conv=>whnf))|(refine(hq c _ hcE (hx1.trans (by exact Vc.xt))).mono ?_;rintro _ H2 ⟨rfl,hx2⟩;have hz2:=hx2.size)|refine Vc.stp ?_)<;>(intros;(conv=>whnf)))))
   exact⟨by rw[←hZ,ix_at hx hpx hno];rfl,hx1.trans (by exact Vc.xt)⟩
  |false=>
   rw[hpx]at hq
   ((conv=>whnf);repeat(any_goals((first|(refine IdxA.el pin_ok (by decide) hr hn i x rfl hx ?_;intro b o c hcE hcl)|((with_reducible apply SemH.load_el);rfl;rfl;(show 37=_;exact(pin_ok.len hcE).symm);(exact hcl);(focus((exact k0.trans (hx1.trans (by exact Vc.xt)))));(conv=>whnf))|(refine(hq c _ hcE (hx1.trans (by exact Vc.xt))).mono ?_;rintro _ H2 ⟨rfl,hx2⟩;have hz2:=hx2.size)|refine Vc.stp ?_)<;>(intros;(conv=>whnf)))))
   exact⟨i+1,⟨rfl,trivial⟩,⟨by omega,ix_next hx hpx hno,hx1.trans (by exact Vc.xt)⟩,by omega⟩
 ·obtain rfl:i=n:=by omega
  ((conv=>whnf);repeat(any_goals((first|refine Vc.stp ?_)<;>(intros;(conv=>whnf)))))
  exact⟨by rw[←hZ,ix_no fun j y hj hy=>hno j y (by omega) hy];rfl,hx1⟩
theorem copin_any (l:List PinP) (p:PinP→Bool) (g:FuncId) (c0:Value) (a:Option Addr) (n cap:Nat) (H0 H:Heap) (k0:Ext H0 H) (hr:RowE pinE H0 a l) (hn:l.length=n) (hnl:n≤1000000)
  (hp: ∀ x c H',x∈l→pinE H0 x c→Ext H H'→CallH Tryz.prog g [.agg c.toArray,c0] H' fun v H''=>v= .bool (p x)∧Ext H' H''):
  CallH Tryz.prog 53 [.slice a n cap,.func (.func g) #[] #[c0]] H fun v H'=>v= .bool (l.any p)∧Ext H H':=by
 refine Vc.CallH.body Tryz.func53 Tryz.call53 rfl (by decide+kernel) rfl ?_
 ((conv=>whnf);repeat(any_goals((first|(refine(ixpin_any l p g c0 a n cap H0 _ k0 hr hn hnl hp).mono ?_;rintro _ H1 ⟨rfl,hx1⟩)|refine Vc.stp ?_)<;>(intros;(conv=>whnf)))))
 exact⟨by show Value.bool (decide (0≤_))=_;rw[ix_any],hx1⟩
set_option maxHeartbeats 4000000 in
theorem holds_any (b:BndP) (v:VerP) (hb:VerB b.v) (hv:VerB v) (a:Option Addr) (cap:Nat) (y:Value) (H:Heap) (hc:b.v.pre.length≤cap) (hr:Row H a (strs b.v.pre)) (hy:VerO H v y):
  CallH Tryz.prog 129 [bndC b a cap,y] H fun x H'=>x= .bool (holdsP b v)∧Ext H H':=by
 have hh:holdsP b v=if b.sign=[61]then decide (cmpV v b.v=0)else if b.sign=[60]then decide (cmpV v b.v<0)else if b.sign=[60,61]then decide (cmpV v b.v≤0)else if b.sign=[62]then decide (0<cmpV v b.v)else if b.sign=[62,61]then decide (0≤cmpV v b.v)else false:=rfl
 rw[hh]
 clear hh
 obtain⟨ya,yc,ey,hyl,hyr⟩:=hy.out
 subst ey
 generalize hC:cmpV v b.v=C
 have e1:((mkS b.sign).toList==(⟨#[61]⟩:ByteArray).toList)=decide (b.sign=[61]):=str_mk _ _
 have e2:((mkS b.sign).toList==(⟨#[60]⟩:ByteArray).toList)=decide (b.sign=[60]):=str_mk _ _
 have e3:((mkS b.sign).toList==(⟨#[60,61]⟩:ByteArray).toList)=decide (b.sign=[60,61]):=str_mk _ _
 have e4:((mkS b.sign).toList==(⟨#[62]⟩:ByteArray).toList)=decide (b.sign=[62]):=str_mk _ _
 have e5:((mkS b.sign).toList==(⟨#[62,61]⟩:ByteArray).toList)=decide (b.sign=[62,61]):=str_mk _ _
 refine Vc.CallH.body Tryz.func129 Tryz.call129 rfl (by decide+kernel) rfl ?_
 unfold bndC verC
 ((conv=>whnf);repeat(any_goals((first|refine Vc.stq ?_|refine Vc.spl ?_ ?_)<;>(intros;(conv=>whnf)))))
 rename_i H1 z1 g1 x1 H2 z2 g2 x2
 have hg1:=bnd_cells g1
 by_cases h1:b.sign=[61]
 ·rw[decide_eq_true h1]at e1
  rw[if_pos h1]
  ((conv=>whnf);repeat(any_goals((first|((with_reducible apply SemH.load_ver);(exact hg1);(exact x2);(conv=>whnf))|(refine(vcmp_any v b.v hv hb _ _ _ (hy.ext (by exact Vc.xt)) (verO_lit hc (hr.ext (by exact Vc.xt)))).mono ?_;rintro _ H4 ⟨rfl,hx4⟩;have hz4:=hx4.size;rw[hC])|refine Vc.stp ?_)<;>(intros;(conv=>whnf)))))
  exact⟨rfl,by exact Vc.xt⟩
 rw[decide_eq_false h1]at e1
 rw[if_neg h1]
 by_cases h2:b.sign=[60]
 ·rw[decide_eq_true h2]at e2
  rw[if_pos h2]
  ((conv=>whnf);repeat(any_goals((first|((with_reducible apply SemH.load_ver);(exact hg1);(exact x2);(conv=>whnf))|(refine(vcmp_any v b.v hv hb _ _ _ (hy.ext (by exact Vc.xt)) (verO_lit hc (hr.ext (by exact Vc.xt)))).mono ?_;rintro _ H4 ⟨rfl,hx4⟩;have hz4:=hx4.size;rw[hC])|refine Vc.stp ?_)<;>(intros;(conv=>whnf)))))
  exact⟨rfl,by exact Vc.xt⟩
 rw[decide_eq_false h2]at e2
 rw[if_neg h2]
 by_cases h3:b.sign=[60,61]
 ·rw[decide_eq_true h3]at e3
  rw[if_pos h3]
  ((conv=>whnf);repeat(any_goals((first|((with_reducible apply SemH.load_ver);(exact hg1);(exact x2);(conv=>whnf))|(refine(vcmp_any v b.v hv hb _ _ _ (hy.ext (by exact Vc.xt)) (verO_lit hc (hr.ext (by exact Vc.xt)))).mono ?_;rintro _ H4 ⟨rfl,hx4⟩;have hz4:=hx4.size;rw[hC])|refine Vc.stp ?_)<;>(intros;(conv=>whnf)))))
  exact⟨rfl,by exact Vc.xt⟩
 rw[decide_eq_false h3]at e3
 rw[if_neg h3]
 by_cases h4:b.sign=[62]
 ·rw[decide_eq_true h4]at e4
  rw[if_pos h4]
  ((conv=>whnf);repeat(any_goals((first|((with_reducible apply SemH.load_ver);(exact hg1);(exact x2);(conv=>whnf))|(refine(vcmp_any v b.v hv hb _ _ _ (hy.ext (by exact Vc.xt)) (verO_lit hc (hr.ext (by exact Vc.xt)))).mono ?_;rintro _ H4 ⟨rfl,hx4⟩;have hz4:=hx4.size;rw[hC])|refine Vc.stp ?_)<;>(intros;(conv=>whnf)))))
  exact⟨rfl,by exact Vc.xt⟩
 rw[decide_eq_false h4]at e4
 rw[if_neg h4]
 by_cases h5:b.sign=[62,61]
 ·rw[decide_eq_true h5]at e5
  rw[if_pos h5]
  ((conv=>whnf);repeat(any_goals((first|((with_reducible apply SemH.load_ver);(exact hg1);(exact x2);(conv=>whnf))|(refine(vcmp_any v b.v hv hb _ _ _ (hy.ext (by exact Vc.xt)) (verO_lit hc (hr.ext (by exact Vc.xt)))).mono ?_;rintro _ H4 ⟨rfl,hx4⟩;have hz4:=hx4.size;rw[hC])|refine Vc.stp ?_)<;>(intros;(conv=>whnf)))))
  exact⟨rfl,by exact Vc.xt⟩
 rw[decide_eq_false h5]at e5
 rw[if_neg h5]
 ((conv=>whnf);repeat(any_goals((first|((with_reducible apply SemH.load_ver);(exact hg1);(exact x2);(conv=>whnf))|(refine(vcmp_any v b.v hv hb _ _ _ (hy.ext (by exact Vc.xt)) (verO_lit hc (hr.ext (by exact Vc.xt)))).mono ?_;rintro _ H4 ⟨rfl,hx4⟩;have hz4:=hx4.size;rw[hC])|refine Vc.stp ?_)<;>(intros;(conv=>whnf)))))
 exact⟨rfl,by exact Vc.xt⟩
set_option maxHeartbeats 4000000 in
theorem near_any (b:BndP) (v:VerP) (hb:VerB b.v) (hv:VerB v) (a:Option Addr) (cap:Nat) (y:Value) (H:Heap) (hy:VerO H v y):
  CallH Tryz.prog 131 [bndC b a cap,y] H fun x H'=>x= .bool (nearP b v)∧Ext H H':=by
 obtain⟨ya,yc,ey,hyl,hyr⟩:=hy.out
 subst ey
 have hbl:=hb.len
 refine Vc.CallH.body Tryz.func131 Tryz.call131 rfl (by decide+kernel) rfl ?_
 unfold bndC verC
 by_cases h0:0<b.v.pre.length
 ·by_cases h1:b.v.ma=v.ma
  ·by_cases h2:b.v.mi=v.mi
   ·have hnp:nearP b v=(((b.v.pa:Nat):Int)==(v.pa:Int)):=by
     by_cases h3:b.v.pa=v.pa
     ·rw[nearP_t h0 h1 h2 h3,h3,beq_self_eq_true]
     ·rw[nearP_f (fun h=>h3 h.2.2.2)];symm;rw[beq_eq_false_iff_ne];omega
    rw[hnp]
    ((conv=>whnf);repeat(any_goals((first|refine Vc.stp ?_)<;>(intros;(conv=>whnf)))))
    exact⟨rfl,by exact Vc.xt⟩
   ·rw[nearP_f (fun h=>h2 h.2.2.1)]
    ((conv=>whnf);repeat(any_goals((first|refine Vc.stp ?_)<;>(intros;(conv=>whnf)))))
    exact⟨rfl,by exact Vc.xt⟩
  ·rw[nearP_f (fun h=>h1 h.2.1)]
   ((conv=>whnf);repeat(any_goals((first|refine Vc.stp ?_)<;>(intros;(conv=>whnf)))))
   exact⟨rfl,by exact Vc.xt⟩
 ·rw[nearP_f (fun h=>h0 h.1)]
  ((conv=>whnf);repeat(any_goals((first|refine Vc.stp ?_)<;>(intros;(conv=>whnf)))))
  exact⟨rfl,by exact Vc.xt⟩
theorem verO_blk {H:Heap} {v:VerP} {a:Option Addr} {c:Nat} (hl:v.pre.length≤c) (hr:Row H a (strs v.pre)):VerO H v (verC v a c):=⟨a,c,rfl,hl,hr⟩
abbrev VerK (H:Heap) (g:Nat) (v:VerP) (a:Option Addr) (c:Nat):Prop:=Blk H g #[.int .i64 v.ma,.int .i64 v.mi,.int .i64 v.pa,.slice a v.pre.length c] 48
theorem has11_any (b:BndP) (v:VerP) (hb:VerB b.v) (hv:VerB v) (g:Nat) (ya:Option Addr) (yc:Nat) (c:List Value) (H0 H:Heap) (k0:Ext H0 H) (hE:bndE H0 b c) (hg:VerK H g v ya yc) (hl:v.pre.length≤yc) (hy:Row H ya (strs v.pre)):
  CallH Tryz.prog 128 [.agg c.toArray,.pointer (some ⟨g,0,none⟩)] H fun x H'=>x= .bool (!holdsP b v)∧Ext H H':=by
 obtain⟨a,cap,rfl,hbl,hbr⟩:=hE
 refine Vc.CallH.body Tryz.func128 Tryz.call128 rfl (by decide+kernel) rfl ?_
 ((conv=>whnf);repeat(any_goals((first|(refine SemH.load_verB (hg.ext (by exact Vc.xt)) ?_)|(refine(holds_any b v hb hv a cap _ _ hbl (hbr.ext (k0.trans (by exact Vc.xt))) (verO_blk hl (hy.ext (by exact Vc.xt)))).mono ?_;rintro _ H4 ⟨rfl,hx4⟩;have hz4:=hx4.size)|refine Vc.stp ?_)<;>(intros;(conv=>whnf)))))
 exact⟨rfl,by exact Vc.xt⟩
theorem has12_any (b:BndP) (v:VerP) (hb:VerB b.v) (hv:VerB v) (g:Nat) (ya:Option Addr) (yc:Nat) (c:List Value) (H0 H:Heap) (k0:Ext H0 H) (hE:bndE H0 b c) (hg:VerK H g v ya yc) (hl:v.pre.length≤yc) (hy:Row H ya (strs v.pre)):
  CallH Tryz.prog 130 [.agg c.toArray,.pointer (some ⟨g,0,none⟩)] H fun x H'=>x= .bool (nearP b v)∧Ext H H':=by
 obtain⟨a,cap,rfl,hbl,hbr⟩:=hE
 refine Vc.CallH.body Tryz.func130 Tryz.call130 rfl (by decide+kernel) rfl ?_
 ((conv=>whnf);repeat(any_goals((first|(refine SemH.load_verB (hg.ext (by exact Vc.xt)) ?_)|(refine(near_any b v hb hv a cap _ _ (verO_blk hl (hy.ext (by exact Vc.xt)))).mono ?_;rintro _ H4 ⟨rfl,hx4⟩;have hz4:=hx4.size)|refine Vc.stp ?_)<;>(intros;(conv=>whnf)))))
 exact⟨rfl,by exact Vc.xt⟩
theorem any_not_all (l:List BndP) (v:VerP):l.any (fun b=> !holdsP b v)= !(l.all fun b=>holdsP b v):=by
 induction l with
 |nil=>rfl
 |cons b l ih=>rw[List.any_cons,List.all_cons,ih,Bool.not_and]
theorem has1_any (l:List BndP) (v:VerP) (hb: ∀ b∈l,VerB b.v) (hv:VerB v) (hn:l.length≤1000000) (g:Nat) (ya:Option Addr) (yc:Nat) (a:Option Addr) (cap:Nat) (H0 H:Heap) (k0:Ext H0 H) (hr:RowE bndE H0 a l) (hg:VerK H g v ya yc) (hl:v.pre.length≤yc) (hy:Row H ya (strs v.pre)):
  CallH Tryz.prog 126 [.slice a l.length cap,.pointer (some ⟨g,0,none⟩)] H fun x H'=>x= .bool (orB v l)∧Ext H H':=by
 have c1:=fun H' (k:Ext H H')=>cobnd_any l (fun b=> !holdsP b v) 128 (.pointer (some ⟨g,0,none⟩)) a l.length cap H0 H' (k0.trans k) hr rfl hn fun x c H'' hx hc hk=>has11_any x v (hb x hx) hv g ya yc c H0 H'' (k0.trans (k.trans hk)) hc (hg.ext (k.trans hk)) hl (hy.ext (k.trans hk))
 have c2:=fun H' (k:Ext H H')=>cobnd_any l (fun b=>nearP b v) 130 (.pointer (some ⟨g,0,none⟩)) a l.length cap H0 H' (k0.trans k) hr rfl hn fun x c H'' hx hc hk=>has12_any x v (hb x hx) hv g ya yc c H0 H'' (k0.trans (k.trans hk)) hc (hg.ext (k.trans hk)) hl (hy.ext (k.trans hk))
 have ho:orB v l=((l.all fun b=>holdsP b v)&&(decide (v.pre=[]) || l.any fun b=>nearP b v)):=rfl
 rw[ho]
 rw[show(fun(b:BndP)=> !holdsP b v)=fun b=> !holdsP b v from rfl]at c1
 obtain⟨A,hA⟩: ∃ A,(l.all fun b=>holdsP b v)=A:=⟨_,rfl⟩
 have hAn:l.any (fun b=> !holdsP b v)= !A:=by rw[any_not_all,hA]
 rw[hAn]at c1
 rw[hA]
 refine Vc.CallH.body Tryz.func126 Tryz.call126 rfl (by decide+kernel) rfl ?_
 cases A with
 |false=>
  ((conv=>whnf);repeat(any_goals((first|(refine SemH.mkFunc ?_)|(refine(c1 _ (by exact Vc.xt)).mono ?_;rintro _ H4 ⟨rfl,hx4⟩;have hz4:=hx4.size)|refine Vc.stp ?_)<;>(intros;(conv=>whnf)))))
  exact⟨rfl,by exact Vc.xt⟩
 |true=>
  by_cases hp:v.pre=[]
  ·have hp0:v.pre.length=0:=by rw[hp];rfl
   rw[decide_eq_true hp]
   ((conv=>whnf);repeat(any_goals((first|(refine SemH.mkFunc ?_)|(refine(c1 _ (by exact Vc.xt)).mono ?_;rintro _ H4 ⟨rfl,hx4⟩;have hz4:=hx4.size)|refine Vc.stp ?_)<;>(intros;(conv=>whnf)))))
   exact⟨rfl,by exact Vc.xt⟩
  ·have hp0:0<v.pre.length:=List.length_pos_iff.2 hp
   rw[decide_eq_false hp]
   ((conv=>whnf);repeat(any_goals((first|(refine SemH.mkFunc ?_)|(refine(c1 _ (by exact Vc.xt)).mono ?_;rintro _ H4 ⟨rfl,hx4⟩;have hz4:=hx4.size)|(refine(c2 _ (by exact Vc.xt)).mono ?_;rintro _ H5 ⟨rfl,hx5⟩;have hz5:=hx5.size)|refine Vc.stp ?_)<;>(intros;(conv=>whnf)))))
   exact⟨rfl,by exact Vc.xt⟩
set_option maxHeartbeats 1000000 in
theorem has_any (s:SpnP) (v:VerP) (hs:SpnB s) (hv:VerB v) (a:Option Addr) (n cap:Nat) (y:Value) (H0 H:Heap) (k0:Ext H0 H) (hr:RowE bndsE H0 a s.or_) (hn:s.or_.length=n) (hy:VerO H v y):
  CallH Tryz.prog 86 [.agg #[.bool s.any,.slice a n cap],y] H fun x H'=>x= .bool (hasP s v)∧Ext H H':=by
 obtain⟨ya,yc,ey,hyl,hyr⟩:=hy.out
 subst ey
 have hsl:=hs.len
 refine Vc.CallH.body Tryz.func86 Tryz.call86 rfl (by decide+kernel) rfl ?_
 unfold verC
 cases hany:s.any with
 |true=>
  have e:hasP s v=decide (v.pre=[]):=by unfold hasP;rw[hany];rfl
  rw[e]
  have hpre:decide (v.pre=[])=(((v.pre.length:Nat):Int)==0):=by
   rw[Bool.eq_iff_iff,beq_iff_eq,decide_eq_true_eq]
   cases v.pre with
   |nil=>simp
   |cons m t=>simp;omega
  rw[hpre]
  ((conv=>whnf);repeat(any_goals((first|refine Vc.stp ?_)<;>(intros;(conv=>whnf)))))
  exact⟨rfl,by exact Vc.xt⟩
 |false=>
  rw[hasP_or hany]
  ((conv=>whnf);repeat(any_goals((first|refine Vc.stp ?_)<;>(intros;(conv=>whnf)))))
  rename_i H1 z1 g1 x1 H2 z2 g2 x2
  have hgv:VerK H2 H1.size v ya yc:=g2
  have c1:=fun H' (k:Ext H2 H')=>cobnds_any s.or_ (orB v) 126 (.pointer (some ⟨H1.size,0,none⟩)) a n cap H0 H' (k0.trans (x1.trans (x2.trans k))) hr hn (by omega) fun x xa xc H'' hx hl hr2 hk=>has1_any x v (hs.ver x hx) hv (hs.lens x hx) H1.size ya yc xa xc H0 H'' (k0.trans (x1.trans (x2.trans (k.trans hk)))) hr2 (hgv.ext (k.trans hk)) hyl (hyr.ext (x1.trans (x2.trans (k.trans hk))))
  ((conv=>whnf);repeat(any_goals((first|(refine SemH.mkFunc ?_)|(refine(c1 _ (by exact Vc.xt)).mono ?_;rintro _ H4 ⟨rfl,hx4⟩;have hz4:=hx4.size)|refine Vc.stp ?_)<;>(intros;(conv=>whnf)))))
  exact⟨rfl,by exact Vc.xt⟩
end Go.Proofs.YtjdieklgoepdjaaGreatDoor
namespace Go.Vc
theorem RowE.none_nil {α:Type} {E:Heap→α→List Value→Prop} {s:Nat} (ok:EncOk E s) (hs:0<s) {H:Heap} {l:List α} (h:RowE E H none l):l=[]:=by
 obtain⟨vs,h1,h2⟩:=h.out
 have hl:=h2.len ok
 rcases h1.out with e|⟨b,o,e,_⟩
 ·subst e
  cases l with
  |nil=>rfl
  |cons x l=>exfalso;simp[Nat.succ_mul]at hl;omega
 ·cases e
end Go.Vc
namespace Go.Proofs.YtjdieklgoepdjaaGreatDoor
open Go Go.Vc Go.Scr Go.Slv
set_option maxHeartbeats 1000000 in
theorem cloneS_any {α:Type} {E:Heap→α→List Value→Prop} (ok:EncT E 1 (fun _=>False)) (l:List α) (a:Option Addr) (n cap:Nat) (H:Heap) (hr:RowE E H a l) (hn:l.length=n) (hnl:n≤900000):CallH Tryz.prog 58 [.slice a n cap] H fun v H'=>(∃ a' cap',v= .slice a' n cap'∧OwnE E 1 H' H.size 9 a' l cap')∧Ext H H':=by
 refine Vc.CallH.body Tryz.func58 Tryz.call58 rfl (by decide+kernel) rfl ?_
 cases a with
 |none=>
  have hl0:l=[]:=hr.none_nil ok.ok (by decide)
  subst hl0
  obtain rfl:n=0:=by simpa using hn.symm
  ((conv=>whnf);repeat(any_goals((first|refine Vc.stp ?_)<;>(intros;(conv=>whnf)))))
  exact⟨⟨none,0,rfl,OwnE.nil _ _ _ _ _⟩,Ext.refl _⟩
 |some p=>
  obtain⟨vs,h1,h2⟩:=hr.out
  ((conv=>whnf);repeat(any_goals((first|(refine CondH.neg rfl ?_)|((with_reducible apply SemH.lit (vs:=[]));rfl;rfl;rfl;rfl;rfl;rfl;rfl;(intro _ _ _ _;(conv=>whnf)))|refine Vc.stp ?_)<;>(intros;(conv=>whnf)))))
  rename_i H1 hs1 hb1 hx1
  have ho1:OwnE E 1 H1 H.size 9 (some ⟨H.size,0,none⟩) [] 0:=own_litE (xs:=[]) ok.ok hb1 .nil (Nat.le_refl _) (by simp)
  refine NextH.appE ok rfl ⟨_,rfl,fun _ h=>by cases h⟩ rfl rfl rfl rfl (by decide) id ho1 rfl (h1.ext hx1) (h2.ext ok.ok hx1) hn (by omega) hx1.size ?_
  intro a2 c2 H2 ho2 hw2 _
  have hx2:Ext H H2:=Only.trans hx1 hw2 fun b hb ⟨q,hq,e⟩=>by cases hq;have e:H.size=b:=e;omega
  ((conv=>whnf);repeat(any_goals((first|refine Vc.stp ?_)<;>(intros;(conv=>whnf)))))
  refine⟨⟨a2,c2,by rw[Nat.zero_add];rfl,?_⟩,hx2⟩
  rw[List.nil_append]at ho2
  exact ho2
set_option maxHeartbeats 1000000 in
theorem cloneN_any {α:Type} {E:Heap→α→List Value→Prop} (ok:EncT E 4 (fun _=>False)) (l:List α) (a:Option Addr) (n cap:Nat) (H:Heap) (hr:RowE E H a l) (hn:l.length=n) (hnl:n≤900000):CallH Tryz.prog 67 [.slice a n cap] H fun v H'=>(∃ a' cap',v= .slice a' n cap'∧OwnE E 4 H' H.size 45 a' l cap')∧Ext H H':=by
 refine Vc.CallH.body Tryz.func67 Tryz.call67 rfl (by decide+kernel) rfl ?_
 cases a with
 |none=>
  have hl0:l=[]:=hr.none_nil ok.ok (by decide)
  subst hl0
  obtain rfl:n=0:=by simpa using hn.symm
  ((conv=>whnf);repeat(any_goals((first|refine Vc.stp ?_)<;>(intros;(conv=>whnf)))))
  exact⟨⟨none,0,rfl,OwnE.nil _ _ _ _ _⟩,Ext.refl _⟩
 |some p=>
  obtain⟨vs,h1,h2⟩:=hr.out
  ((conv=>whnf);repeat(any_goals((first|(refine CondH.neg rfl ?_)|((with_reducible apply SemH.lit (vs:=[]));rfl;rfl;rfl;rfl;rfl;rfl;rfl;(intro _ _ _ _;(conv=>whnf)))|refine Vc.stp ?_)<;>(intros;(conv=>whnf)))))
  rename_i H1 hs1 hb1 hx1
  have ho1:OwnE E 4 H1 H.size 45 (some ⟨H.size,0,none⟩) [] 0:=own_litE (xs:=[]) ok.ok hb1 .nil (Nat.le_refl _) (by simp)
  refine NextH.appE ok rfl ⟨_,rfl,fun _ h=>by cases h⟩ rfl rfl rfl rfl (by decide) id ho1 rfl (h1.ext hx1) (h2.ext ok.ok hx1) hn (by omega) hx1.size ?_
  intro a2 c2 H2 ho2 hw2 _
  have hx2:Ext H H2:=Only.trans hx1 hw2 fun b hb ⟨q,hq,e⟩=>by cases hq;have e:H.size=b:=e;omega
  ((conv=>whnf);repeat(any_goals((first|refine Vc.stp ?_)<;>(intros;(conv=>whnf)))))
  refine⟨⟨a2,c2,by rw[Nat.zero_add];rfl,?_⟩,hx2⟩
  rw[List.nil_append]at ho2
  exact ho2
set_option maxHeartbeats 1000000 in
theorem cloneI_any {α:Type} {E:Heap→α→List Value→Prop} (ok:EncT E 1 (fun _=>False)) (l:List α) (a:Option Addr) (n cap:Nat) (H:Heap) (hr:RowE E H a l) (hn:l.length=n) (hnl:n≤900000):CallH Tryz.prog 120 [.slice a n cap] H fun v H'=>(∃ a' cap',v= .slice a' n cap'∧OwnE E 1 H' H.size 3 a' l cap')∧Ext H H':=by
 refine Vc.CallH.body Tryz.func120 Tryz.call120 rfl (by decide+kernel) rfl ?_
 cases a with
 |none=>
  have hl0:l=[]:=hr.none_nil ok.ok (by decide)
  subst hl0
  obtain rfl:n=0:=by simpa using hn.symm
  ((conv=>whnf);repeat(any_goals((first|refine Vc.stp ?_)<;>(intros;(conv=>whnf)))))
  exact⟨⟨none,0,rfl,OwnE.nil _ _ _ _ _⟩,Ext.refl _⟩
 |some p=>
  obtain⟨vs,h1,h2⟩:=hr.out
  ((conv=>whnf);repeat(any_goals((first|(refine CondH.neg rfl ?_)|((with_reducible apply SemH.lit (vs:=[]));rfl;rfl;rfl;rfl;rfl;rfl;rfl;(intro _ _ _ _;(conv=>whnf)))|refine Vc.stp ?_)<;>(intros;(conv=>whnf)))))
  rename_i H1 hs1 hb1 hx1
  have ho1:OwnE E 1 H1 H.size 3 (some ⟨H.size,0,none⟩) [] 0:=own_litE (xs:=[]) ok.ok hb1 .nil (Nat.le_refl _) (by simp)
  refine NextH.appE ok rfl ⟨_,rfl,fun _ h=>by cases h⟩ rfl rfl rfl rfl (by decide) id ho1 rfl (h1.ext hx1) (h2.ext ok.ok hx1) hn (by omega) hx1.size ?_
  intro a2 c2 H2 ho2 hw2 _
  have hx2:Ext H H2:=Only.trans hx1 hw2 fun b hb ⟨q,hq,e⟩=>by cases hq;have e:H.size=b:=e;omega
  ((conv=>whnf);repeat(any_goals((first|refine Vc.stp ?_)<;>(intros;(conv=>whnf)))))
  refine⟨⟨a2,c2,by rw[Nat.zero_add];rfl,?_⟩,hx2⟩
  rw[List.nil_append]at ho2
  exact ho2
set_option maxHeartbeats 2000000 in
theorem at1_any (r:RowP) (k:Bs) (v:VerP) (hrb:VerB r.v) (hv:VerB v) (g1 g2:Nat) (ya:Option Addr) (yc:Nat) (c:List Value) (H0 H:Heap) (k0:Ext H0 H) (hE:rowE H0 r c) (h1:Blk H g1 #[.string (mkS k)] 9) (h2:VerK H g2 v ya yc) (hl:v.pre.length≤yc) (hy:Row H ya (strs v.pre)):
  CallH Tryz.prog 177 [.agg c.toArray,.pointer (some ⟨g1,0,none⟩),.pointer (some ⟨g2,0,none⟩)] H fun x H'=>x= .bool (decide (r.name=k)&&decide (cmpV r.v v=0))∧Ext H H':=by
 obtain⟨pa,pc,na,nc,ec,h32,hpl,hpr,hnl,hnr⟩:=id hE
 have e1:((mkS r.name).toList==(mkS k).toList)=decide (r.name=k):=str_mk _ _
 obtain⟨C,hC⟩: ∃ C,cmpV r.v v=C:=⟨_,rfl⟩
 rw[hC]
 refine Vc.CallH.body Tryz.func177 Tryz.call177 rfl (by decide+kernel) rfl ?_
 by_cases hk:r.name=k
 ·rw[decide_eq_true hk]at e1 ⊢
  ((conv=>whnf);repeat(any_goals((first|(refine Vc.SemH.box ?_;intro Hb zb bb xb;have hn0:hcell Hb ⟨H.size,0+0,none⟩=some (Value.string (mkS r.name)):=blk_list bb 0 0 _ (by rw[ec];rfl);have hv0:=(fun k u hu=>blk_list bb 1 k u (by rw[Nat.add_comm];exact row_ver ec k u hu)))|((with_reducible apply SemH.load_ver);(exact hv0);(exact Ext.refl _);(conv=>whnf))|(refine SemH.load_verB (h2.ext (by exact Vc.xt)) ?_)|(refine(vcmp_any r.v v hrb hv _ _ _ (verO_of hpl (hpr.ext (k0.trans (by exact Vc.xt)))) (verO_of hl (hy.ext (by exact Vc.xt)))).mono ?_;rintro _ H4 ⟨rfl,hx4⟩;have hz4:=hx4.size;rw[hC])|refine Vc.stp ?_)<;>(intros;(conv=>whnf)))))
  exact⟨by rw[Bool.true_and];rfl,by exact Vc.xt⟩
 ·rw[decide_eq_false hk]at e1 ⊢
  ((conv=>whnf);repeat(any_goals((first|(refine Vc.SemH.box ?_;intro Hb zb bb xb;have hn0:hcell Hb ⟨H.size,0+0,none⟩=some (Value.string (mkS r.name)):=blk_list bb 0 0 _ (by rw[ec];rfl);have hv0:=(fun k u hu=>blk_list bb 1 k u (by rw[Nat.add_comm];exact row_ver ec k u hu)))|((with_reducible apply SemH.load_ver);(exact hv0);(exact Ext.refl _);(conv=>whnf))|(refine SemH.load_verB (h2.ext (by exact Vc.xt)) ?_)|(refine(vcmp_any r.v v hrb hv _ _ _ (verO_of hpl (hpr.ext (k0.trans (by exact Vc.xt)))) (verO_of hl (hy.ext (by exact Vc.xt)))).mono ?_;rintro _ H4 ⟨rfl,hx4⟩;have hz4:=hx4.size;rw[hC])|refine Vc.stp ?_)<;>(intros;(conv=>whnf)))))
  exact⟨rfl,by exact Vc.xt⟩
set_option maxHeartbeats 2000000 in
theorem at_any (R:List RowP) (k:Bs) (v:VerP) (hv:VerB v) (hR: ∀ r∈R,VerB r.v) (a:Option Addr) (n cap:Nat) (y:Value) (H0 H:Heap) (k0:Ext H0 H) (hr:RowE rowE H0 a R) (hn:R.length=n) (hnl:n≤1000000) (hy:VerO H v y):CallH Tryz.prog 142 [.slice a n cap,.string (mkS k),y] H fun x H'=>x= .int .i64 (ixI (idxR R k v))∧Ext H H':=by
 obtain⟨ya,yc,ey,hyl,hyr⟩:=hy.out
 subst ey
 refine Vc.CallH.body Tryz.func142 Tryz.call142 rfl (by decide+kernel) rfl ?_
 unfold verC
 ((conv=>whnf);repeat(any_goals((first|refine Vc.stp ?_)<;>(intros;(conv=>whnf)))))
 rename_i H1 z1 g1 x1 H2 z2 g2 x2
 have g12:=g1.ext x2
 have hgv:VerK H2 H1.size v ya yc:=g2
 have c1:=fun H' (k':Ext H2 H')=>ixrow_any R (fun r=>decide (r.name=k)&&decide (cmpV r.v v=0)) 177 (.pointer (some ⟨H.size,0,none⟩)) (.pointer (some ⟨H1.size,0,none⟩)) a n cap H0 H' (k0.trans (x1.trans (x2.trans k'))) hr hn hnl fun r c H'' hrm hc hk=>at1_any r k v (hR r hrm) hv H.size H1.size ya yc c H0 H'' (k0.trans (x1.trans (x2.trans (k'.trans hk)))) hc (g12.ext (k'.trans hk)) (hgv.ext (k'.trans hk)) hyl (hyr.ext (x1.trans (x2.trans (k'.trans hk))))
 ((conv=>whnf);repeat(any_goals((first|(refine SemH.mkFunc ?_)|(refine(c1 _ (by exact Vc.xt)).mono ?_;rintro _ H4 ⟨rfl,hx4⟩;have hz4:=hx4.size)|refine Vc.stp ?_)<;>(intros;(conv=>whnf)))))
 exact⟨rfl,by exact Vc.xt⟩
theorem row_set (n x y z p p' w q q':Value) (S:List Value) (hS:S.length=32):((([n,x,y,z,p]++S++[w,q]).toArray.setIfInBounds 4 p').setIfInBounds 38 q')=([n,x,y,z,p']++S++[w,q']).toArray:=by
 apply Array.toList_inj.1
 rw[Array.toList_setIfInBounds,Array.toList_setIfInBounds]
 simp[List.set_append,hS]
theorem row_plainL (s:Bs) (x y z w:Int) (p q:Value) (S:Bs) (hp:plainV p=true:=by rfl) (hq:plainV q=true:=by rfl): ∀ u∈([.string (mkS s),.int .i64 x,.int .i64 y,.int .i64 z,p]++strV S++[.int .i64 w,q]:List Value),plainV u=true:=by
 intro u hu
 rcases List.mem_append.1 hu with h|h
 ·rcases List.mem_append.1 h with h|h
  ·simp at h
   rcases h with rfl|rfl|rfl|rfl|rfl<;>first|rfl|exact hp
  ·exact strV_plain S u h
 ·simp at h
  rcases h with rfl|rfl<;>first|rfl|exact hq
end Go.Proofs.YtjdieklgoepdjaaGreatDoor
namespace Go.Vc
open Go.Lx
abbrev FR (r:Option Nat):Fence:={Fence.wide with round:=r}
theorem callsIn_FR {P:Program} {g:FuncId} {ags:Array Value} {w:World} {R:Ending→World→Prop} (r:Option Nat) {n:Nat} (h:Calls P g ags w R):CallsIn (FR r) n P g ags w R:=by
 cases r with
 |none=>exact callsIn_wide.2 h
 |some l=>exact(callsIn_wide.2 h:CallsIn Fence.wide n P g ags w R)
structure YieldH (P:Program) (l:Nat) (args:List Value) (H:Heap) (R:Value→Heap→Prop):Prop where
 out: ∀ w:World,w.heap=H→ ∃ f tmps assign body w',(Instr.yield l args.toArray).run P w= .ok (.round l f tmps assign body) w'∧Same w w'∧RoundIn Fence.wide 0 P l f tmps assign body w' fun e w''=>Same w w''∧ ∃ v,e= .returned v∧R v w''.heap
theorem YieldH.mono {P:Program} {l:Nat} {args:List Value} {H:Heap} {R R':Value→Heap→Prop} (h:YieldH P l args H R) (hr: ∀ v H,R v H→R' v H):YieldH P l args H R':=
 ⟨fun w hw=>let ⟨f,t,a,b,w',h1,h2,h3⟩:=h.out w hw;⟨f,t,a,b,w',h1,h2,RoundIn.mono h3 fun _ _ ⟨hs,v,he,hk⟩=>⟨hs,v,he,hr _ _ hk⟩⟩⟩
def yieldOf (env:Env) (o:Oper):Option (Nat×List Value):=match o.op with
 | .call c=>match c.callee with
  | .value f=>match ev env f with
   |some (.func (.yield l) a b)=>match a.toList,b.toList with
    |[],[]=>match evs env c.args.toList with
     |some vs=>some (l,vs)
     |none=>none
    |_,_=>none
   |_=>none
  |_=>none
 |_=>none
def vcOpY (P:Program) (o:Oper) (env:Env) (H:Heap) (k:Value→Heap→Prop):Prop:=match yieldOf env o with
 |some (l,vs)=>YieldH P l vs H k
 |none=>vcOp P o env H NoX k
def vcOpsY (P:Program) (ops:List Oper):Nat→List Oper→Env→Heap→(Env→Heap→Prop)→Prop
 |_,[],env,H,k=>k env H
 |i,o::l,env,H,k=>match wants ops env o with
  |some true=>match o.dst with
   |some d=>match isSrc ops i with
    |true=>vcOpY P o env H fun v H'=>vcSplit true v fun v=>vcOpsY P ops (i+1) l ((d,v)::env) H' k
    |false=>vcOpY P o env H fun v H'=>vcOpsY P ops (i+1) l ((d,v)::env) H' k
   |none=>vcOpY P o env H fun _ H'=>vcOpsY P ops (i+1) l env H' k
  |some false=>match o.dst with
   |some d=>vcOpsY P ops (i+1) l ((d,undef)::env) H k
   |none=>vcOpsY P ops (i+1) l env H k
  |none=>False
def noDefO (o:Oper):Bool:=match o.op with
 | .defer _=>false
 |_=>true
def noDefC:Code→Bool
 | .region _ ops _=>ops.toList.all noDefO
 | .seq x y=>noDefC x&&noDefC y
 | .cond _ x y=>noDefC x&&noDefC y
 | .block _ x=>noDefC x
 | .loop x=>noDefC x
 | .skip=>true
 | .exit _=>true
 | .ret=>true
 |_=>false
structure CodeY (P:Program) (r:Option Nat) (n:Nat) (c:Code) (env:Env) (H:Heap) (Q:Post):Prop where
 out: ∀ (w0:World) (a:Act) (w:World),Agrees env a→a.tmps.size=n→Same w0 w→w.heap=H→c.wpIn (FR r) 0 P (LiftQ w0 n a (mods c) Q) a w
structure LoopY (P:Program) (n:Nat) (c:Code) (env:Env) (H:Heap) (Q:Post):Prop where
 out: ∀ r,fitsC n (.loop c)=true→noDefC c=true→CodeY P r n (.loop c) env H Q
def vcCodeY (P:Program) (n:Nat) (c:Code) (env:Env) (H:Heap) (Q:Post):Prop:=
 match c with
 | .skip=>Q .normal env H
 | .region id ops draw=>match draw with
  |false=>vcOpsY P ops.toList 0 ops.toList env H (Q .normal)
  |true=>False
 | .seq x y=>vcCodeY P n x env H fun e env H=>match e with
   | .normal=>vcCodeY P n y env H Q
   |e=>Q e env H
 | .cond c x y=>match ev env c with
  |some (.bool b)=>CondH b (vcCodeY P n x env H Q) (vcCodeY P n y env H Q)
  |_=>False
 | .block id x=>vcCodeY P n x env H fun e env H=>match e with
  | .exit j=>match Nat.beq j id with
   |true=>Q .normal env H
   |false=>Q (.exit j) env H
  |e=>Q e env H
 | .loop x=>LoopY P n x env H Q
 | .exit id=>Q (.exit id) env H
 | .ret=>Q .ret env H
 |_=>False
theorem semAt_FR {r:Option Nat} {o:Oper} (hd:noDefO o=true) (ρ:Operand→Value):o.semAt (FR r).round ρ=execOp ρ o:=by
 cases r with
 |none=>rfl
 |some l=>exact Oper.semAt_some l _ _ fun c e=>by unfold noDefO at hd;rw[e]at hd;cases hd
theorem wpInOp_of_comes {r:Option Nat} {P:Program} {o:Oper} {a:Act} {w:World} {k:Value→Heap→Prop} {next:Act→World→Prop} {Q:Exit→Act→World→Prop} (hd:noDefO o=true)
  (h:Comes1 P o a w NoX k) (hnext: ∀ v w',Same w w'→k v w'.heap→next (a.put o.dst v) w'):o.wpIn (FR r) 0 P a w next Q:=by
 refine⟨fun _ _=>trivial,?_⟩
 rw[semAt_FR hd]
 rcases h with ⟨v,hv,hk⟩|⟨h0,h1,h⟩
 ·rw[hv w];exact hnext v w (Same.refl w) hk
 ·cases hr:(execOp a.eval o).run P w with
  |halt x w'=>rw[hr]at h;cases x<;>first|exact h.elim|exact h.2.elim
  |ok n w'=>
   rw[hr]at h
   cases n<;>simp only at h<;>try exact h.elim
   ·exact hnext _ _ h.1 h.2
   ·exact hnext _ _ h.1 h.2
   ·refine⟨fun hd=>(by cases hd),callsIn_FR r (Calls.mono h.2 fun e w'' ⟨hs,hv⟩=> ?_)⟩
    rcases hv with ⟨v,he,hk⟩|⟨c,he,hx⟩
    ·exact he▸hnext v w'' hs hk
    ·exact hx.elim
theorem wpInOp_of_yield {r:Option Nat} {P:Program} {o:Oper} {a:Act} {w:World} {H:Heap} {k:Value→Heap→Prop} {next:Act→World→Prop} {Q:Exit→Act→World→Prop} {l:Nat} {vs:List Value} (hd:noDefO o=true)
  (he:execOp a.eval o=Instr.yield l vs.toArray) (h:YieldH P l vs H k) (hw:w.heap=H) (hnext: ∀ v w',Same w w'→k v w'.heap→next (a.put o.dst v) w'):o.wpIn (FR r) 0 P a w next Q:=by
 refine⟨fun _ _=>trivial,?_⟩
 rw[semAt_FR hd,he]
 obtain⟨f,tmps,assign,body,w',h1,h2,h3⟩:=h.out w hw
 rw[h1]
 refine⟨fun hd=>(by cases hd),RoundIn.mono (F:=FR r) h3 fun e w'' ⟨hs,v,he,hk⟩=> ?_⟩
 subst he
 exact hnext v w'' hs hk
theorem vcOpY_sound {r:Option Nat} {P:Program} {o:Oper} {env:Env} {a:Act} {w:World} {H:Heap} {k:Value→Heap→Prop} {next:Act→World→Prop} {Q:Exit→Act→World→Prop} (hd:noDefO o=true)
  (h:vcOpY P o env H k) (ha:Agrees env a) (hw:w.heap=H) (hnext: ∀ v w',Same w w'→k v w'.heap→next (a.put o.dst v) w'):o.wpIn (FR r) 0 P a w next Q:=by
 unfold vcOpY at h
 split at h
 ·rename_i l vs hy
  refine wpInOp_of_yield hd ?_ h hw hnext
  unfold yieldOf at hy
  obtain⟨dst,op,type,pos,after,guard⟩:=o
  dsimp only at hy
  split at hy
  ·rename_i c
   obtain⟨callee,args,argTypes⟩:=c
   dsimp only at hy
   split at hy
   ·split at hy
    ·rename_i f l' x y hf
     split at hy
     ·rename_i hx hyy
      split at hy
      ·rename_i vs' hvs
       obtain⟨rfl,rfl⟩:l'=l∧vs'=vs:=by simpa using hy
       have ex:x= #[]:=Array.toList_inj.1 hx
       have ey:y= #[]:=Array.toList_inj.1 hyy
       subst ex;subst ey
       simp only[execOp,resolve,ha.ev hf,map_evs ha hvs,Deferred.ofValue]
       simp only[pure_bind,invoke,Array.append_empty,Array.empty_append]
       try rfl
      ·cases hy
     ·cases hy
    ·cases hy
   ·cases hy
  ·cases hy
 ·exact wpInOp_of_comes hd (vcOp_sound h ha hw) hnext
theorem vcOpsY_sound {r:Option Nat} {P:Program} {ops:Array Oper} {n:Nat} {k:Env→Heap→Prop} {w0:World} {a0:Act} {Q:Exit→Act→World→Prop} (hQ: ∀ a w,Lift w0 n a0 (modsO ops.toList) k a w→Q .normal a w)
  (hfit: ∀ o∈ops.toList,fitsO n o=true) (hdef: ∀ o∈ops.toList,noDefO o=true):
  ∀ (l:List Oper) (i:Nat),ops.toList.drop i=l→ ∀ (env:Env) (H:Heap),vcOpsY P ops.toList i l env H k→ ∀ (a:Act) (w:World),Agrees env a→a.defers=a0.defers→a.tmps.size=n→Same w0 w→
   (∀ i,i∉modsO ops.toList→a.tmps[i]? =a0.tmps[i]?)→w.heap=H→wpOpsIn (FR r) 0 P ops Q (List.range' i l.length) a w
 |[],i,_,env,H,h,a,w,ha,hd,hn,hs,hfr,hw=>hQ a w ⟨hd,hn,hs,hfr,env,ha,hw▸h⟩
 |o::l,i,hl,env,H,h,a,w,ha,hd,hn,hs,hfr,hw=>by
  have ho:ops[i]? =some o:=by
   have:(ops.toList.drop i)[0]? =some o:=by rw[hl];rfl
   simpa using this
  have hl':ops.toList.drop (i+1)=l:=by
   have:=congrArg List.tail hl
   simpa [List.tail_drop]using this
  have hmem:o∈ops.toList:=List.mem_of_mem_drop (i:=i) (by rw[hl];simp)
  have hf:=hfit o hmem
  have hm: ∀ t,o.dst=some t→t∈modsO ops.toList:=fun t ht=>modsO_mem hmem ht
  show wpOpsIn (FR r) 0 P ops Q (i::List.range' (i+1) l.length) a w
  simp only[wpOpsIn,ho]
  simp only[vcOpsY]at h
  split at h
  ·rename_i hwt
   have hwt:=wants_spec hwt ha
   rw[if_pos hwt]
   have h:vcOpY P o env H fun v H'=>vcSplit (isSrc ops.toList i&&o.dst.isSome) v fun v=>vcOpsY P ops.toList (i+1) l (putE env o.dst v) H' k:=by
    cases hd:o.dst with
    |none=>simp only[hd]at h;simpa [vcSplit,putE]using h
    |some d=>
     simp only[hd]at h
     cases hs:isSrc ops.toList i
     ·simp only[hs]at h;simpa [vcSplit,putE]using h
     ·simp only[hs]at h;simpa [putE]using h
   refine vcOpY_sound (hdef o hmem) h ha hw ?_
   intro v w' hsame hk
   have hk:=vcSplit_sound hk
   exact vcOpsY_sound hQ hfit hdef l (i+1) hl' _ _ hk _ _ (ha.putE hn hf v) (by rw[put_defers'];exact hd) (by rw[put_size];exact hn) (hs.trans hsame) (put_frame hfr hm v) rfl
  ·rename_i hwt
   have hwt:=wants_spec hwt ha
   have h:vcOpsY P ops.toList (i+1) l (putE env o.dst undef) H k:=by
    cases hd:o.dst with
    |none=>simp only[hd]at h;simpa [putE]using h
    |some d=>simp only[hd]at h;simpa [putE]using h
   rw[if_neg (by rw[hwt];simp)]
   exact⟨fun _ _=>trivial,vcOpsY_sound hQ hfit hdef l (i+1) hl' _ _ h _ _ (ha.putE hn hf undef) (by rw[put_defers'];exact hd) (by rw[put_size];exact hn) hs (put_frame hfr hm undef) hw⟩
  ·exact h.elim
theorem vcCodeY_sound {P:Program} {r:Option Nat} {n:Nat}: ∀ (c:Code) (env:Env) (H:Heap) (Q:Post),fitsC n c=true→noDefC c=true→vcCodeY P n c env H Q→CodeY P r n c env H Q
 | .skip,env,H,Q,_,_,h=>⟨fun w0 a w ha hn hs hw=>wpIn_skip ⟨rfl,hn,hs,fun _ _=>rfl,env,ha,hw▸h⟩⟩
 | .region id ops draw,env,H,Q,hf,hdf,h=>by
  cases draw with
  |false=>
   refine⟨fun w0 a w ha hn hs hw=>wpIn_region ?_⟩
   have:=vcOpsY_sound (r:=r) (a0:=a) (Q:=LiftQ w0 n a (modsO ops.toList) Q) (fun _ _ h=>h) (List.all_eq_true.1 hf) (List.all_eq_true.1 hdf) ops.toList 0 rfl env H h a w ha rfl hn hs (fun _ _=>rfl) hw
   rw[←List.range_eq_range',Array.length_toList]at this
   exact this
  |true=>exact h.elim
 | .seq x y,env,H,Q,hf,hdf,h=>by
  simp only[fitsC,Bool.and_eq_true]at hf
  simp only[noDefC,Bool.and_eq_true]at hdf
  unfold vcCodeY at h
  have hx:=vcCodeY_sound (r:=r) x env H _ hf.1 hdf.1 h
  refine⟨fun w0 a w ha hsz hs hw=>wpIn_seq (wpIn_mono (hx.out w0 a w ha hsz hs hw) ?_)⟩
  intro e a' w' ⟨h1,h2,h3,hfr,env',h4,h5⟩
  have other:e≠ .normal→LiftQ w0 n a (mods (.seq x y)) Q e a' w':=fun hne=>⟨h1,h2,h3,fun i hi=>hfr i (fun hm=>hi (by simp[mods,hm])),env',h4,by cases e<;>first|exact absurd rfl hne|exact h5⟩
  cases e with
  |normal=>
   have hy:=vcCodeY_sound (r:=r) y env' w'.heap Q hf.2 hdf.2 h5
   refine wpIn_mono (hy.out w0 a' w' h4 h2 h3 rfl) ?_
   intro e a2 w2 ⟨g1,g2,g3,gfr,env2,g4,g5⟩
   exact⟨g1.trans h1,g2,g3,fun i hi=>(gfr i (fun hm=>hi (by simp[mods,hm]))).trans (hfr i (fun hm=>hi (by simp[mods,hm]))),env2,g4,g5⟩
  |exit j=>exact other (by simp)
  |goto j=>exact other (by simp)
  |ret=>exact other (by simp)
  |panic c=>exact other (by simp)
  |outgrown=>exact other (by simp)
 | .cond c x y,env,H,Q,hf,hdf,h=>by
  simp only[fitsC,Bool.and_eq_true]at hf
  simp only[noDefC,Bool.and_eq_true]at hdf
  simp only[vcCodeY]at h
  split at h
  ·rename_i b hb
   refine⟨fun w0 a w ha hn hs hw=>wpIn_cond (ha.ev hb) ?_⟩
   cases b with
   |true=>exact wpIn_mono ((vcCodeY_sound x env H Q hf.1 hdf.1 (h.t rfl)).out w0 a w ha hn hs hw) fun e a' w' ⟨h1,h2,h3,h4,h5⟩=>⟨h1,h2,h3,fun i hi=>h4 i (fun hm=>hi (by simp[mods,hm])),h5⟩
   |false=>exact wpIn_mono ((vcCodeY_sound y env H Q hf.2 hdf.2 (h.f rfl)).out w0 a w ha hn hs hw) fun e a' w' ⟨h1,h2,h3,h4,h5⟩=>⟨h1,h2,h3,fun i hi=>h4 i (fun hm=>hi (by simp[mods,hm])),h5⟩
  ·exact h.elim
 | .block id x,env,H,Q,hf,hdf,h=>by
  have hx:=vcCodeY_sound (r:=r) x env H _ hf hdf h
  refine⟨fun w0 a w ha hn hs hw=>wpIn_block (wpIn_mono (hx.out w0 a w ha hn hs hw) ?_)⟩
  intro e a' w' ⟨h1,h2,h3,hfr,env',h4,h5⟩
  cases e with
  |exit j=>
   show if j=id then _ else _
   dsimp only at h5
   split at h5
   ·rename_i hb
    rw[if_pos (Nat.eq_of_beq_eq_true hb)]
    exact⟨h1,h2,h3,hfr,env',h4,h5⟩
   ·rename_i hb
    rw[if_neg (fun e=>by subst e;simp at hb)]
    exact⟨h1,h2,h3,hfr,env',h4,h5⟩
  |_=>exact⟨h1,h2,h3,hfr,env',h4,h5⟩
 | .loop x,env,H,Q,hf,hdf,h=>h.out r hf hdf
 | .exit id,env,H,Q,_,_,h=>⟨fun w0 a w ha hn hs hw=>wpIn_exit ⟨rfl,hn,hs,fun _ _=>rfl,env,ha,hw▸h⟩⟩
 | .ret,env,H,Q,_,_,h=>⟨fun w0 a w ha hn hs hw=>wpIn_ret ⟨rfl,hn,hs,fun _ _=>rfl,env,ha,hw▸h⟩⟩
theorem wpIn_loop_by {F:Fence} {m:Nat} {P:Program} {c:Code} {Q:Exit→Act→World→Prop} {a:Act} {w:World} (I:Nat→Act→World→Prop) (n₀:Nat) (h₀:I n₀ a w)
  (round: ∀ n a w,I n a w→c.wpIn F m P (Exit.then (fun a' w'=>∃ n',n'<n∧I n' a' w') Q) a w):(Code.loop c).wpIn F m P Q a w:=by
 intro b k cs hro hb hr
 have key: ∀ j a w,I j a w→ ∃ e a' w',Q e a' w'∧ArrivesIn (Machine.fenced P F) P (lone (b.atR a (.code c:: .inLoop c::k)) cs w) b k cs e a' w':=by
  intro j
  induction j using Nat.strongRecOn with
  |_ j ih=>
   intro a w hI
   obtain⟨e,a₁,w₁,hq,harr⟩:=round j a w hI b (.inLoop c::k) cs hro hb hr
   cases e with
   |normal=>
    obtain⟨j',hlt,hI₁⟩:=hq
    obtain⟨e₂,a₂,w₂,hq₂,harr₂⟩:=ih j' hlt a₁ w₁ hI₁
    exact⟨e₂,a₂,w₂,hq₂,.of_steps (StepsIn.trans harr (.one (fenced_calm hb hr rfl) stepR_inLoop)) harr₂⟩
   |exit id=>exact⟨_,a₁,w₁,hq,.pass (x:= .inLoop c) rfl (fun _ _=> .inl (by simp)) harr⟩
   |goto l=>exact⟨_,a₁,w₁,hq,.pass (x:= .inLoop c) rfl (fun _ _=> .inl (by simp)) harr⟩
   |ret=>exact⟨_,a₁,w₁,hq,.pass (x:= .inLoop c) rfl (fun _ _=> .inl (by simp)) harr⟩
   |panic ch=>exact⟨_,a₁,w₁,hq,.pass (x:= .inLoop c) rfl (fun _ _=> .inl (by simp)) harr⟩
   |outgrown=>exact⟨_,a₁,w₁,hq,.pass (x:= .inLoop c) rfl (fun _ _=> .inl (by simp)) harr⟩
 obtain⟨e,a',w',hq,harr⟩:=key n₀ a w h₀
 exact⟨e,a',w',hq,.of_steps (.one (fenced_calm hb hr rfl) stepR_loop) harr⟩
theorem LoopY.intro {σ:Type} {P:Program} {n:Nat} {c:Code} {env:Env} {H:Heap} {Q:Post} (S:σ→Env) (I:σ→Heap→Prop) (μ:σ→Nat) (s0:σ) (h0:Bears env (S s0)) (hI:I s0 H)
  (round: ∀ s H,I s H→enterK (mods c) env (S s) fun E=>vcCodeY P n c E H fun e env' H'=>match e with
   | .normal=>∃ s',Bears env' (S s')∧I s' H'∧μ s'<μ s
   |e=>Q e env' H'):LoopY P n c env H Q:=by
 refine⟨fun r hf hdf=>⟨fun w0 a w ha hn hs hw=> ?_⟩⟩
 refine wpIn_loop_by (fun m a' w'=>a'.defers=a.defers∧a'.tmps.size=n∧Same w0 w'∧(∀ i,i∉mods c→a'.tmps[i]? =a.tmps[i]?)∧ ∃ s,(∀ p∈S s,a'.tmps[p.1]? =some p.2)∧I s w'.heap∧μ s=m) (μ s0)
  ⟨rfl,hn,hs,fun _ _=>rfl,s0,bears_get ha h0,hw▸hI,rfl⟩ ?_
 intro m a' w' ⟨h1,h2,h3,h4,s,h5,h6,h7⟩
 obtain⟨E,hcode,hE⟩:=enterK_spec (round s _ h6) ha h4 h5
 refine wpIn_mono ((vcCodeY_sound (r:=r) c _ _ _ hf hdf hcode).out w0 a' w' hE h2 h3 rfl) ?_
 intro e a1 w1 ⟨g1',g2,g3,g4,env1,g5,g6⟩
 have g1:=g1'.trans h1
 have hfr: ∀ i,i∉mods c→a1.tmps[i]? =a.tmps[i]? :=fun i hi=>(g4 i hi).trans (h4 i hi)
 cases e with
 |normal=>
  obtain⟨s',hb,hI',hlt⟩:=g6
  exact⟨μ s',h7▸hlt,g1,g2,g3,hfr,s',bears_get g5 hb,hI',rfl⟩
 |exit id=>exact⟨g1,g2,g3,hfr,env1,g5,g6⟩
 |goto l=>exact⟨g1,g2,g3,hfr,env1,g5,g6⟩
 |ret=>exact⟨g1,g2,g3,hfr,env1,g5,g6⟩
 |panic ch=>exact⟨g1,g2,g3,hfr,env1,g5,g6⟩
 |outgrown=>exact⟨g1,g2,g3,hfr,env1,g5,g6⟩
structure LoopO (H:Heap) (l:Nat) (s:LoopState) (p:Option Code) (r:Loop):Prop where out:H[l]? =some (.loop {r with state:=s,pending:=p})
theorem LoopO.lt {H:Heap} {l:Nat} {s:LoopState} {p:Option Code} {r:Loop} (h:LoopO H l s p r):l<H.size:=(Array.getElem?_eq_some_iff.1 h.out).1
theorem LoopO.keep {F:Nat→Prop} {H H':Heap} {l:Nat} {s:LoopState} {p:Option Code} {r:Loop} (h:LoopO H l s p r) (k:Only F H H') (hl: ¬F l):LoopO H' l s p r:=⟨(k.same l h.lt hl).trans h.out⟩
theorem LoopO.ext {H H':Heap} {l:Nat} {s:LoopState} {p:Option Code} {r:Loop} (h:LoopO H l s p r) (k:Ext H H'):LoopO H' l s p r:=h.keep k id
theorem LoopO.ne {H:Heap} {l g:Nat} {s:LoopState} {p:Option Code} {r:Loop} {c:Array Value} {t:TypeId} (h:LoopO H l s p r) (k:Blk H g c t):l≠g:=by
 rintro rfl
 obtain⟨_,h2,_⟩:=k.out
 rw[h.out]at h2;cases h2
structure DefO (H:Heap) (D:Nat):Prop where out:H[D]? =some (.deferred (some []))
theorem DefO.lt {H:Heap} {D:Nat} (h:DefO H D):D<H.size:=(Array.getElem?_eq_some_iff.1 h.out).1
theorem DefO.keep {F:Nat→Prop} {H H':Heap} {D:Nat} (h:DefO H D) (k:Only F H H') (hl: ¬F D):DefO H' D:=⟨(k.same D h.lt hl).trans h.out⟩
theorem DefO.ext {H H':Heap} {D:Nat} (h:DefO H D) (k:Ext H H'):DefO H' D:=h.keep k id
variable {P:Program}
theorem run_loopGet {w:World} {l:Nat} {r:Loop} (h:w.heap[l]? =some (.loop r)):(Instr.getLoop l).run P w= .ok r w:=by simp[Instr.getLoop,Sem.run_bind,getObj,Sem.run,h,Result.andThen]
theorem run_loopSet {w:World} {l:Nat} {r:Loop} {o':Obj} (h:w.heap[l]? =some (.loop r)):(setObj l o').run P w= .ok () {w with heap:=w.heap.setIfInBounds l o'}:=by simp[setObj,Sem.run,h]
theorem run_beginR {w:World} {l:Nat} {p:Option Code} {r:Loop} (h:LoopO w.heap l .ready p r):
  (Instr.beginRound l).run P w= .ok () {w with heap:=w.heap.setIfInBounds l (.loop {r with state:= .busy,pending:=p})}:=by
 simp only[Instr.beginRound,Sem.run_bind,run_loopGet h.out,Result.andThen_ok,run_loopSet h.out];rfl
theorem run_endR {w:World} {l:Nat} {s:LoopState} {p:Option Code} {r:Loop} (h:LoopO w.heap l s p r) (j:Option Code):
  (Instr.endRound l j).run P w= .ok (.bool j.isNone) {w with heap:=w.heap.setIfInBounds l (.loop {r with state:=if j.isNone then .ready else .done,pending:=j})}:=by
 simp only[Instr.endRound,Sem.run_bind,run_loopGet h.out,Result.andThen_ok,run_loopSet h.out,Sem.run_pure]
theorem run_endL {w:World} {l:Nat} {s:LoopState} {p:Option Code} {r:Loop} (h:LoopO w.heap l s p r) (hs:s≠ .busy):
  (Instr.endLoop l).run P w= .ok p {w with heap:=w.heap.setIfInBounds l (.loop {r with state:= .exhausted,pending:=p})}:=by
 have hb:(s==LoopState.busy)=false:=by cases s<;>first|rfl|exact absurd rfl hs
 simp only[Instr.endLoop,Sem.run_bind,run_loopGet h.out,Result.andThen_ok,hb]
 simp[Sem.run_bind,run_loopSet h.out,Sem.run_pure]
theorem loop_set {H:Heap} {l:Nat} {s s':LoopState} {p p':Option Code} {r:Loop} (h:LoopO H l s p r):LoopO (H.setIfInBounds l (.loop {r with state:=s',pending:=p'})) l s' p' r:=
 ⟨Array.getElem?_setIfInBounds_self_of_lt h.lt⟩
theorem YieldH.round {l n t:Nat} {x:Value} {H:Heap} {R:Value→Heap→Prop} {p:Option Code} {r:Loop} {env:Env} {assign body:Code} (hl:LoopO H l .ready p r) (hn:r.tmps.size=n) (hag: ∀ i v,get env i=some v→r.tmps[i]? =some v)
  (hps:r.params= #[t]) (hta:r.assign=assign) (htb:r.body=body) (ht:t<n) (hf:fitsC n assign=true) (hdf:noDefC assign=true) (hf':fitsC n body=true) (hdf':noDefC body=true)
  (h:vcCodeY P n assign ((t,x)::env) H fun e env1 H1=>e= .normal∧LoopO H1 l .ready p r∧ ∀ H2,H2.size=H1.size→LoopO H2 l .busy p r→But l H1 H2→vcCodeY P n body env1 H2 fun e _ H3=>LoopO H3 l .busy p r∧match e with
   | .normal=>∀ H4,H4.size=H3.size→LoopO H4 l .ready none r→But l H3 H4→R (.bool true) H4
   | .ret=>∀ H4,H4.size=H3.size→LoopO H4 l .done (some .ret) r→But l H3 H4→R (.bool false) H4
   | .exit j=>∀ H4,H4.size=H3.size→LoopO H4 l .done (some (.exit j)) r→But l H3 H4→R (.bool false) H4
   |_=>False):YieldH P l [x] H R:=by
 subst hta;subst htb
 refine⟨fun w hw=> ?_⟩
 subst hw
 refine⟨r.fn,r.tmps.setIfInBounds t x,r.assign,r.body,w,?_,Same.refl w,?_⟩
 ·simp only[Instr.yield,Sem.run_bind,run_loopGet hl.out,Result.andThen_ok,hps]
  simp[Sem.run_pure]
 refine roundIn_of_wpIn (F:=Fence.wide) trivial ?_
 show r.assign.wpIn (FR (some l)) 0 P _ _ _
 have ha:Agrees ((t,x)::env) {tmps:=r.tmps.setIfInBounds t x,defers:=[]}:=by
  have h0:Agrees env {tmps:=r.tmps,defers:=[]}:=hag
  exact h0.put (d:=t) (by show t<r.tmps.size;omega) x
 refine wpIn_mono ((vcCodeY_sound (r:=some l) r.assign _ _ _ hf hdf h).out w _ w ha (by simpa using hn) (Same.refl w) rfl) ?_
 intro e a1 w1 ⟨g1,g2,g3,_,env1,g4,he,hl1,hb⟩
 subst he
 refine⟨_,run_beginR hl1,?_⟩
 have hb:=hb _ (by simp) (loop_set hl1) (Only.set _ _ _)
 refine wpIn_mono ((vcCodeY_sound (r:=some l) r.body _ _ _ hf' hdf' hb).out w a1 {w1 with heap:=w1.heap.setIfInBounds l (.loop {r with state:= .busy,pending:=p})} g4 g2 (g3.trans ⟨rfl,rfl,rfl⟩) rfl) ?_
 intro e a2 w2 ⟨k1,k2,k3,_,env2,k4,hl2,k5⟩
 cases e with
 |normal=>exact⟨_,_,run_endR hl2 none,k3.trans ⟨rfl,rfl,rfl⟩,_,rfl,k5 _ (by simp) (loop_set hl2) (Only.set _ _ _)⟩
 |ret=>exact⟨_,_,run_endR hl2 (some .ret),k3.trans ⟨rfl,rfl,rfl⟩,_,rfl,k5 _ (by simp) (loop_set hl2) (Only.set _ _ _)⟩
 |exit j=>exact⟨_,_,run_endR hl2 (some (.exit j)),k3.trans ⟨rfl,rfl,rfl⟩,_,rfl,k5 _ (by simp) (loop_set hl2) (Only.set _ _ _)⟩
 |goto j=>exact k5.elim
 |panic c=>exact k5.elim
 |outgrown=>exact k5.elim
def markD (D:Nat):Deferred:={target:= .collected D,args:= #[]}
abbrev PostR:=Exit→List Nat→Env→Heap→Prop
structure RangeH (P:Program) (n:Nat) (g:Operand) (ps:Array Tmp) (assign body:Code) (env:Env) (H:Heap) (K:Option Code→Nat→Heap→Prop):Prop where
 out: ∃ gf captured,ev env g=some (.func (.func gf) #[] captured)∧(∀ (args:Array Value) (w:World),(callFunc gf args).run P w= .ok (.enter gf args) w)∧
  ∀ (r:Loop) H2,r.tmps.size=n→(∀ i v,get env i=some v→r.tmps[i]? =some v)→r.params=ps→r.assign=assign→r.body=body→H2.size=H.size+2→Ext H H2→DefO H2 H.size→LoopO H2 (H.size+1) .ready none r→
   CallH P gf (.func (.yield (H.size+1)) #[] #[]::captured.toList) H2 fun _ H3=>∃ s p,s≠ .busy∧LoopO H3 (H.size+1) s p r∧ ∀ H4,H4.size=H3.size→But (H.size+1) H3 H4→K p H.size H4
def LiftR (w0:World) (n:Nat) (a0:Act) (ms:List Nat) (Q:PostR) (e:Exit) (a:Act) (w:World):Prop:=
 ∃ ds:List Nat,a.defers=ds.map markD∧a.tmps.size=n∧Same w0 w∧(∀ i,i∉ms→a.tmps[i]? =a0.tmps[i]?)∧ ∃ env,Agrees env a∧Q e ds env w.heap
structure CodeR (P:Program) (n:Nat) (c:Code) (ds:List Nat) (env:Env) (H:Heap) (Q:PostR):Prop where
 out: ∀ (w0:World) (a:Act) (w:World),Agrees env a→a.defers=ds.map markD→a.tmps.size=n→Same w0 w→w.heap=H→c.wpIn Fence.wide 0 P (LiftR w0 n a (mods c) Q) a w
def vcCodeR (P:Program) (n:Nat) (c:Code) (ds:List Nat) (env:Env) (H:Heap) (Q:PostR):Prop:=
 match c with
 | .skip=>Q .normal ds env H
 | .region id ops draw=>match draw with
  |false=>vcOpsY P ops.toList 0 ops.toList env H (Q .normal ds)
  |true=>False
 | .seq x y=>vcCodeR P n x ds env H fun e ds env H=>match e with
   | .normal=>vcCodeR P n y ds env H Q
   |e=>Q e ds env H
 | .cond c x y=>match ev env c with
  |some (.bool b)=>CondH b (vcCodeR P n x ds env H Q) (vcCodeR P n y ds env H Q)
  |_=>False
 | .block id x=>vcCodeR P n x ds env H fun e ds env H=>match e with
  | .exit j=>match Nat.beq j id with
   |true=>Q .normal ds env H
   |false=>Q (.exit j) ds env H
  |e=>Q e ds env H
 | .rangeFunc g ps assign body=>RangeH P n g ps assign body env H fun p D H'=>match p with
  |none=>Q .normal (D::ds) env H'
  |some .ret=>Q .ret (D::ds) env H'
  |some (.exit j)=>Q (.exit j) (D::ds) env H'
  |_=>False
 | .exit id=>Q (.exit id) ds env H
 | .ret=>Q .ret ds env H
 |_=>False
def noDefR:Code→Bool
 | .region _ ops _=>ops.toList.all noDefO
 | .seq x y=>noDefR x&&noDefR y
 | .cond _ x y=>noDefR x&&noDefR y
 | .block _ x=>noDefR x
 | .skip=>true
 | .exit _=>true
 | .ret=>true
 | .rangeFunc _ _ _ _=>true
 |_=>false
theorem run_enterL {w:World} (fn:FuncId) (tmps:Array Value) (ps:Array Tmp) (assign body:Code):
  (Instr.enterLoop fn tmps ps assign body none).run P w= .ok (w.heap.size+1,[markD w.heap.size]) {w with heap:=(w.heap.push (.deferred (some []))).push (.loop ⟨.ready,none,fn,tmps,ps,assign,body,w.heap.size⟩)}:=by
 simp[Instr.enterLoop,Sem.run_bind,run_newObj,Sem.run_pure,markD]
 rfl
theorem vcCodeR_sound {P:Program} {n:Nat}: ∀ (c:Code) (ds:List Nat) (env:Env) (H:Heap) (Q:PostR),fitsC n c=true→noDefR c=true→vcCodeR P n c ds env H Q→CodeR P n c ds env H Q
 | .skip,ds,env,H,Q,_,_,h=>⟨fun w0 a w ha hd hn hs hw=>wpIn_skip ⟨ds,hd,hn,hs,fun _ _=>rfl,env,ha,hw▸h⟩⟩
 | .region id ops draw,ds,env,H,Q,hf,hdf,h=>by
  cases draw with
  |false=>
   refine⟨fun w0 a w ha hd hn hs hw=>wpIn_region ?_⟩
   have:=vcOpsY_sound (r:=none) (a0:=a) (Q:=LiftR w0 n a (modsO ops.toList) Q) (fun a' w' ⟨h1,h2,h3,h4,h5⟩=>⟨ds,h1.trans hd,h2,h3,h4,h5⟩) (List.all_eq_true.1 hf) (List.all_eq_true.1 hdf) ops.toList 0 rfl env H h a w ha rfl hn hs (fun _ _=>rfl) hw
   rw[←List.range_eq_range',Array.length_toList]at this
   exact this
  |true=>exact h.elim
 | .seq x y,ds,env,H,Q,hf,hdf,h=>by
  simp only[fitsC,Bool.and_eq_true]at hf
  simp only[noDefR,Bool.and_eq_true]at hdf
  unfold vcCodeR at h
  have hx:=vcCodeR_sound x ds env H _ hf.1 hdf.1 h
  refine⟨fun w0 a w ha hd hsz hs hw=>wpIn_seq (wpIn_mono (hx.out w0 a w ha hd hsz hs hw) ?_)⟩
  intro e a' w' ⟨es,h1,h2,h3,hfr,env',h4,h5⟩
  have other:e≠ .normal→LiftR w0 n a (mods (.seq x y)) Q e a' w':=fun hne=>⟨es,h1,h2,h3,fun i hi=>hfr i (fun hm=>hi (by simp[mods,hm])),env',h4,by cases e<;>first|exact absurd rfl hne|exact h5⟩
  cases e with
  |normal=>
   have hy:=vcCodeR_sound y es env' w'.heap Q hf.2 hdf.2 h5
   refine wpIn_mono (hy.out w0 a' w' h4 h1 h2 h3 rfl) ?_
   intro e a2 w2 ⟨es2,g1,g2,g3,gfr,env2,g4,g5⟩
   exact⟨es2,g1,g2,g3,fun i hi=>(gfr i (fun hm=>hi (by simp[mods,hm]))).trans (hfr i (fun hm=>hi (by simp[mods,hm]))),env2,g4,g5⟩
  |exit j=>exact other (by simp)
  |goto j=>exact other (by simp)
  |ret=>exact other (by simp)
  |panic c=>exact other (by simp)
  |outgrown=>exact other (by simp)
 | .cond c x y,ds,env,H,Q,hf,hdf,h=>by
  simp only[fitsC,Bool.and_eq_true]at hf
  simp only[noDefR,Bool.and_eq_true]at hdf
  simp only[vcCodeR]at h
  split at h
  ·rename_i b hb
   refine⟨fun w0 a w ha hd hn hs hw=>wpIn_cond (ha.ev hb) ?_⟩
   cases b with
   |true=>exact wpIn_mono ((vcCodeR_sound x ds env H Q hf.1 hdf.1 (h.t rfl)).out w0 a w ha hd hn hs hw) fun e a' w' ⟨es,h1,h2,h3,h4,h5⟩=>⟨es,h1,h2,h3,fun i hi=>h4 i (fun hm=>hi (by simp[mods,hm])),h5⟩
   |false=>exact wpIn_mono ((vcCodeR_sound y ds env H Q hf.2 hdf.2 (h.f rfl)).out w0 a w ha hd hn hs hw) fun e a' w' ⟨es,h1,h2,h3,h4,h5⟩=>⟨es,h1,h2,h3,fun i hi=>h4 i (fun hm=>hi (by simp[mods,hm])),h5⟩
  ·exact h.elim
 | .block id x,ds,env,H,Q,hf,hdf,h=>by
  have hx:=vcCodeR_sound x ds env H _ hf hdf h
  refine⟨fun w0 a w ha hd hn hs hw=>wpIn_block (wpIn_mono (hx.out w0 a w ha hd hn hs hw) ?_)⟩
  intro e a' w' ⟨es,h1,h2,h3,hfr,env',h4,h5⟩
  cases e with
  |exit j=>
   show if j=id then _ else _
   dsimp only at h5
   split at h5
   ·rename_i hb
    rw[if_pos (Nat.eq_of_beq_eq_true hb)]
    exact⟨es,h1,h2,h3,hfr,env',h4,h5⟩
   ·rename_i hb
    rw[if_neg (fun e=>by subst e;simp at hb)]
    exact⟨es,h1,h2,h3,hfr,env',h4,h5⟩
  |_=>exact⟨es,h1,h2,h3,hfr,env',h4,h5⟩
 | .rangeFunc g ps assign body,ds,env,H,Q,hf,hdf,h=>by
  obtain⟨gf,captured,hev,hc,hcall⟩:=h.out
  refine⟨fun w0 a w ha hd hn hs hw=>wpIn_rangeFunc (F:=Fence.wide) fun fn _=> ?_⟩
  subst hw
  let r:Loop:=⟨.ready,none,fn,a.tmps,ps,assign,body,w.heap.size⟩
  let w1:World:={w with heap:=(w.heap.push (.deferred (some []))).push (.loop r)}
  have hx1:Ext w.heap w1.heap:=(Only.push _ _ _).trans (Only.push _ _ _) fun _ _=>id
  have hdo:DefO w1.heap w.heap.size:=⟨by show((w.heap.push _).push _)[w.heap.size]? =_;rw[Array.getElem?_push_lt (by simp)];simp⟩
  have hlo:LoopO w1.heap (w.heap.size+1) .ready none r:=⟨by show((w.heap.push _).push _)[w.heap.size+1]? =_;have:=push_last (w.heap.push (.deferred (some []))) (Obj.loop r);simpa using this⟩
  have hcc:=(hcall r w1.heap hn ha rfl rfl rfl (by show((w.heap.push _).push _).size=_;simp) hx1 hdo hlo).out w1 rfl
  rw[hc]at hcc
  obtain⟨hsame,hcc⟩:=hcc
  refine⟨w.heap.size+1,[markD w.heap.size],w1,⟨.fn (.func gf) captured,#[.func (.yield (w.heap.size+1)) #[] #[]]⟩,w1,gf,#[.func (.yield (w.heap.size+1)) #[] #[]]++captured,w1,run_enterL _ _ _ _ _,?_,fun _ _=>trivial,?_,fun hd=>(by cases hd),?_⟩
  ·simp only[rangeCall,resolve,ha.ev hev,Deferred.ofValue]
   simp[Sem.run_pure,Act.eval]
  ·exact hc _ _
  have eargs:(Value.func (.yield (w.heap.size+1)) #[] #[]::captured.toList).toArray= #[.func (.yield (w.heap.size+1)) #[] #[]]++captured:=by apply Array.toList_inj.1;simp
  rw[eargs]at hcc
  refine callsIn_wide.2 (Calls.mono hcc fun e w3 h3=> ?_)
  obtain⟨hs3,v,he,s,p,hsb,hl3,hK⟩:=h3
  subst he
  have hK:=hK _ (by simp) (Only.set w3.heap (w.heap.size+1) (.loop {r with state:= .exhausted,pending:=p}))
  have hsame3:Same w0 {w3 with heap:=w3.heap.setIfInBounds (w.heap.size+1) (.loop {r with state:= .exhausted,pending:=p})}:=(hs.trans ⟨rfl,rfl,rfl⟩:Same w0 w1).trans (hs3.trans ⟨rfl,rfl,rfl⟩)
  have hdd:[markD w.heap.size]++a.defers=(w.heap.size::ds).map markD:=by rw[hd];rfl
  refine⟨p,_,run_endL hl3 hsb,?_⟩
  cases p with
  |none=>exact⟨_,hdd,hn,hsame3,fun _ _=>rfl,env,ha,hK⟩
  |some c=>
   cases c<;>try exact hK.elim
   case exit j=>exact wpIn_exit ⟨_,hdd,hn,hsame3,fun _ _=>rfl,env,ha,hK⟩
   case ret=>exact wpIn_ret ⟨_,hdd,hn,hsame3,fun _ _=>rfl,env,ha,hK⟩
 | .loop x,ds,env,H,Q,hf,hdf,h=>h.elim
 | .exit id,ds,env,H,Q,_,_,h=>⟨fun w0 a w ha hd hn hs hw=>wpIn_exit ⟨ds,hd,hn,hs,fun _ _=>rfl,env,ha,hw▸h⟩⟩
 | .ret,ds,env,H,Q,_,_,h=>⟨fun w0 a w ha hd hn hs hw=>wpIn_ret ⟨ds,hd,hn,hs,fun _ _=>rfl,env,ha,hw▸h⟩⟩
theorem run_takeD {w:World} {b:Nat} {ds:List Deferred} (h:w.heap[b]? =some (.deferred (some ds))):(Instr.takeDeferred b).run P w= .ok ds {w with heap:=w.heap.setIfInBounds b (.deferred none)}:=by
 simp[Instr.takeDeferred,Sem.run_bind,getObj,setObj,Sem.run,h,Result.andThen]
def vcTake (P:Program) (rs:List ResultVar) (R:Value→Heap→Prop):List Nat→Env→Heap→Prop
 |[],env,H=>vcRes P env H rs fun vs=>R (one vs) H
 |D::ds,env,H=>DefO H D∧ ∀ H',H'.size=H.size→But D H H'→vcTake P rs R ds env H'
def vcPostR (P:Program) (rs:List ResultVar) (R:Value→Heap→Prop):PostR:=fun e ds env H=>match e with
 | .normal=>vcTake P rs R ds env H
 | .ret=>vcTake P rs R ds env H
 |_=>False
theorem vcTake_sound {fn:Func} {R:Value→Heap→Prop} {w0:World} {env:Env} {a:Act} (ha:Agrees env a): ∀ (ds:List Nat) (w:World),Same w0 w→vcTake P fn.results.toList R ds env w.heap→
  LeavesInM Fence.wide 0 P fn a.tmps (fun e w'=>Same w0 w'∧ ∃ v,e= .returned v∧R v w'.heap) (ds.map markD) .returning w
 |[],w,hs,hk=>by
  obtain⟨vs,hr,hR⟩:=vcRes_sound ha _ _ hk
  refine⟨one vs,?_,hs,_,rfl,hR⟩
  rw[results_eq,Array.mapM_eq_mapM_toList]
  simp only[bind_assoc,map_eq_pure_bind,pure_bind,Sem.run_bind]
  rw[hr]
  simp only[Result.andThen_ok,Sem.run_pure]
  rcases vs with _|⟨x,_|⟨y,l⟩⟩<;>simp[one]
 |D::ds,w,hs,⟨h1,h2⟩=>by
  refine⟨by simp,.inl ⟨D,_,rfl,run_takeD h1.out,?_⟩⟩
  exact vcTake_sound ha ds _ (hs.trans ⟨rfl,rfl,rfl⟩) (h2 _ (by simp) (Only.set _ _ _))
theorem CallH.bodyR {f:FuncId} {fn:Func} {c:Code} {args:List Value} {H:Heap} {R:Value→Heap→Prop} (hf:P.funcs[f]? =some fn)
  (hc: ∀ (args:Array Value) (w:World),(callFunc f args).run P w= .ok (.enter f args) w) (hb:fn.body=some c) (hfit:fitsC fn.ntmps c=true) (hdef:noDefR c=true) (hargs:Nat.ble args.length fn.ntmps=true)
  (h:vcCodeR P fn.ntmps c [] (argEnv 0 args) H (vcPostR P fn.results.toList R)):CallH P f args H R:=by
 have hargs:=Nat.le_of_ble_eq_true hargs
 refine⟨fun w hw=> ?_⟩
 rw[hc]
 refine⟨Same.refl w,?_⟩
 refine callsIn_wide (n:=0).1 (callsIn_of_wp_marks hf hb trivial ?_)
 have hcode:=(vcCodeR_sound c [] _ H _ hfit hdef h).out w {tmps:=args.toArray++Array.replicate (fn.ntmps-args.toArray.size) undef,defers:=[]} w ?_ rfl (by simp;omega) (Same.refl w) hw
 ·refine wpIn_mono hcode fun e a w' h=> ?_
  obtain⟨ds,h1,h2,h3,_,env,h5,h6⟩:=h
  cases e with
  |normal=>show LeavesInM _ _ _ _ _ _ _ _ _;rw[h1];exact vcTake_sound h5 ds w' h3 h6
  |ret=>show LeavesInM _ _ _ _ _ _ _ _ _;rw[h1];exact vcTake_sound h5 ds w' h3 h6
  |_=>exact h6.elim
 ·intro i v hv
  obtain⟨_,h2⟩:=argEnv_get args 0 i v hv
  have h2:args[i]? =some v:=by simpa using h2
  have hlt:i<args.length:=by
   rcases Nat.lt_or_ge i args.length with h|h
   ·exact h
   ·rw[List.getElem?_eq_none h]at h2;cases h2
  simp only
  rw[Array.getElem?_append_left (by simpa using hlt)]
  simpa using h2
theorem CallH.bodyY {f:FuncId} {fn:Func} {c:Code} {args:List Value} {H:Heap} {R:Value→Heap→Prop} (hf:P.funcs[f]? =some fn)
  (hc: ∀ (args:Array Value) (w:World),(callFunc f args).run P w= .ok (.enter f args) w) (hb:fn.body=some c) (hfit:fitsC fn.ntmps c=true) (hdef:noDefC c=true) (hargs:Nat.ble args.length fn.ntmps=true)
  (h:vcCodeY P fn.ntmps c (argEnv 0 args) H (vcPost P fn.results.toList R)):CallH P f args H R:=by
 have hargs:=Nat.le_of_ble_eq_true hargs
 refine⟨fun w hw=> ?_⟩
 rw[hc]
 refine⟨Same.refl w,?_⟩
 refine callsIn_wide (n:=0).1 (callsIn_of_wp hf hb trivial ?_)
 have hcode:=(vcCodeY_sound (r:=none) c _ H _ hfit hdef h).out w {tmps:=args.toArray++Array.replicate (fn.ntmps-args.toArray.size) undef,defers:=[]} w ?_ (by simp;omega) (Same.refl w) hw
 ·exact wpIn_mono hcode fun e a w h=>vcPost_sound rfl h
 ·intro i v hv
  obtain⟨_,h2⟩:=argEnv_get args 0 i v hv
  have h2:args[i]? =some v:=by simpa using h2
  have hlt:i<args.length:=by
   rcases Nat.lt_or_ge i args.length with h|h
   ·exact h
   ·rw[List.getElem?_eq_none h]at h2;cases h2
  simp only
  rw[Array.getElem?_append_left (by simpa using hlt)]
  simpa using h2
end Go.Vc
namespace Go.Proofs
open Go.Shelf
def Tryz.lays190_ren:Go.Shelf.Ren:=⟨fun|190=>65|125=>110|258=>109|128=>152|129=>153|302=>143|303=>144|304=>145|305=>146|306=>147|307=>148|308=>149|309=>150|310=>151|333=>178|329=>179|330=>180|334=>181|335=>182|336=>112|344=>195|n=>n,fun|31=>37|9=>9|3=>3|46=>152|0=>0|51=>76|53=>144|4=>4|183=>187|182=>186|131=>113|5=>5|218=>233|222=>237|228=>264|229=>265|n=>n,fun|n=>n⟩
theorem Tryz.lays190:Go.Proofs.Lays.n190 Tryz.prog Tryz.lays190_ren:={
 mixed:=by kernel_rfl
 f125:=Tryz.func110.trans (congrArg some (by kernel_rfl))
 f128:=Tryz.func152.trans (congrArg some (by kernel_rfl))
 f129:=Tryz.func153.trans (congrArg some (by kernel_rfl))
 f190:=Tryz.func65.trans (congrArg some (by kernel_rfl))
 f258:=Tryz.func109.trans (congrArg some (by kernel_rfl))
 f302:=Tryz.func143.trans (congrArg some (by kernel_rfl))
 f303:=Tryz.func144.trans (congrArg some (by kernel_rfl))
 f304:=Tryz.func145.trans (congrArg some (by kernel_rfl))
 f305:=Tryz.func146.trans (congrArg some (by kernel_rfl))
 f306:=Tryz.func147.trans (congrArg some (by kernel_rfl))
 f307:=Tryz.func148.trans (congrArg some (by kernel_rfl))
 f308:=Tryz.func149.trans (congrArg some (by kernel_rfl))
 f309:=Tryz.func150.trans (congrArg some (by kernel_rfl))
 f310:=Tryz.func151.trans (congrArg some (by kernel_rfl))
 f329:=Tryz.func179.trans (congrArg some (by kernel_rfl))
 f330:=Tryz.func180.trans (congrArg some (by kernel_rfl))
 f333:=Tryz.func178.trans (congrArg some (by kernel_rfl))
 f334:=Tryz.func181.trans (congrArg some (by kernel_rfl))
 f335:=Tryz.func182.trans (congrArg some (by kernel_rfl))
 f336:=Tryz.func112.trans (congrArg some (by kernel_rfl))
 f344:=Tryz.func195.trans (congrArg some (by kernel_rfl))
 t0:=Tryz.underlying0
 a0:=Tryz.isAgg0
 z0:=Tryz.sizeOf0
 v0:=Tryz.zeroValue0
 t3:=Tryz.underlying3
 a3:=Tryz.isAgg3
 z3:=Tryz.sizeOf3
 v3:=Tryz.zeroValue3
 t4:=Tryz.underlying4
 a4:=Tryz.isAgg4
 z4:=Tryz.sizeOf4
 v4:=Tryz.zeroValue4
 t5:=Tryz.underlying5
 a5:=Tryz.isAgg5
 z5:=Tryz.sizeOf5
 v5:=Tryz.zeroValue5
 t9:=Tryz.underlying9
 a9:=Tryz.isAgg9
 z9:=Tryz.sizeOf9
 v9:=Tryz.zeroValue9
 t31:=Tryz.underlying37
 a31:=Tryz.isAgg37
 z31:=Tryz.sizeOf37
 v31:=Tryz.zeroValue37
 t46:=Tryz.underlying152
 a46:=Tryz.isAgg152
 z46:=Tryz.sizeOf152
 v46:=Tryz.zeroValue152
 t51:=Tryz.underlying76
 a51:=Tryz.isAgg76
 z51:=Tryz.sizeOf76
 v51:=Tryz.zeroValue76
 t53:=Tryz.underlying144
 a53:=Tryz.isAgg144
 z53:=Tryz.sizeOf144
 v53:=Tryz.zeroValue144
 t131:=Tryz.underlying113
 a131:=Tryz.isAgg113
 z131:=Tryz.sizeOf113
 v131:=Tryz.zeroValue113
 t182:=Tryz.underlying186
 a182:=Tryz.isAgg186
 z182:=Tryz.sizeOf186
 v182:=Tryz.zeroValue186
 t183:=Tryz.underlying187
 a183:=Tryz.isAgg187
 z183:=Tryz.sizeOf187
 v183:=Tryz.zeroValue187
 t218:=Tryz.underlying233
 a218:=Tryz.isAgg233
 z218:=Tryz.sizeOf233
 v218:=Tryz.zeroValue233
 t222:=Tryz.underlying237
 a222:=Tryz.isAgg237
 z222:=Tryz.sizeOf237
 v222:=Tryz.zeroValue237
 t228:=Tryz.underlying264
 a228:=Tryz.isAgg264
 z228:=Tryz.sizeOf264
 v228:=Tryz.zeroValue264
 t229:=Tryz.underlying265
 a229:=Tryz.isAgg265
 z229:=Tryz.sizeOf265
 v229:=Tryz.zeroValue265}
open Go.Sort Go.RowKit in
theorem Tryz.slices_Sort_string (blk off cap:Nat) (ss:List (List UInt8)) (w:World) (hH:Holds encStr w blk off ss.toArray) (hblk:blk<w.heap.size) (hsz:ss.length<4611686018427387904):
  Calls Tryz.prog 65 #[.slice (some ⟨blk,off,none⟩) ss.length cap] w fun e w'=>
   e= .returned (.tuple #[])∧ ∃ n os,w'=grow (putRow encStr (Sort.ahead w n) blk off (ss.mergeSort fun x y=>decide (x≤y)).toArray) os:=Any.slices_Sort_string Tryz.lays190 blk off cap ss w hH hblk hsz
end Go.Proofs
namespace Go.Vc
theorem own_holds {w:World} {base g n cap k:Nat} {e:TypeId} {xs:List Value} (h:Own w.heap base e k (some ⟨g,0,none⟩) n cap xs):Go.Sort.Holds id w g 0 xs.toArray:=by
 intro j hj
 have hj':j<xs.length:=by simpa using hj
 have hlen:=h.len
 rcases h.out with ⟨h1,_⟩|⟨g',cur,h1,hb,hg,hnc,hmc,hcs,htake⟩
 ·cases h1
 ·cases h1
  obtain⟨fr,hg1,hg2⟩:=hg.out
  have hjc:j<cur.size:=by rw[hcs];have:=Nat.mul_le_mul_right k hnc;omega
  have hget:cur[j]? =some xs[j]:=by
   have:=congrArg (·[j]?) htake
   simp only[List.getElem?_take,if_pos (show j<n*k by omega),Array.getElem?_toList]at this
   rw[this,List.getElem?_eq_getElem hj']
  have hid:xs.toArray[j]! =xs[j]:=by simp[hj']
  rw[Nat.zero_add]
  constructor
  ·rw[hid];simp[World.cell?,hg1,hget]
  ·obtain⟨lo,hi⟩:=fr
   simp only[World.frozen?,hg1]
   rcases hg2 with h2|h2
   ·simp only[Bool.and_eq_false_iff,decide_eq_false_iff_not];dsimp only at h2 ⊢;omega
   ·simp only[Bool.and_eq_false_iff,decide_eq_false_iff_not];dsimp only at h2 ⊢;omega
theorem put_cells (ys:List Value) (cur:Array Value) (j:Nat):(Go.Sort.putCells id 0 ys.toArray cur)[j]? =if j<cur.size then(if j<ys.length then ys[j]? else cur[j]?)else none:=by
 unfold Go.Sort.putCells
 rw[Array.getElem?_mapIdx]
 by_cases hj:j<cur.size
 ·rw[if_pos hj,Array.getElem?_eq_getElem hj,Option.map_some]
  by_cases h2:j<ys.length
  ·rw[if_pos ⟨Nat.zero_le _,by simpa using h2⟩,if_pos h2,List.getElem?_eq_getElem h2];simp[h2]
  ·rw[if_neg (by simp;omega),if_neg h2]
 ·rw[if_neg hj,Array.getElem?_eq_none (by omega)];rfl
theorem own_put {w:World} {base g n cap k:Nat} {e:TypeId} {xs ys:List Value} (h:Own w.heap base e k (some ⟨g,0,none⟩) n cap xs) (hl:ys.length=xs.length) (m:Nat) (os:Array Obj):
  Own (Go.Sort.grow (Go.Sort.putRow id (Go.Sort.ahead w m) g 0 ys.toArray) os).heap base e k (some ⟨g,0,none⟩) n cap ys∧Wr (some ⟨g,0,none⟩) w.heap (Go.Sort.grow (Go.Sort.putRow id (Go.Sort.ahead w m) g 0 ys.toArray) os).heap:=by
 have hlen:=h.len
 obtain⟨W,hW⟩: ∃ W:Heap,(Go.Sort.grow (Go.Sort.putRow id (Go.Sort.ahead w m) g 0 ys.toArray) os).heap=W:=⟨_,rfl⟩
 have hWd:W=w.heap.modify g (Go.Sort.onCells (Go.Sort.putCells id 0 ys.toArray))++os:=hW.symm
 rw[hW]
 have hsz:w.heap.size≤W.size:=by rw[hWd];simp
 have hsame: ∀ b,b<w.heap.size→W[b]? =if g=b then(w.heap[b]?).map (Go.Sort.onCells (Go.Sort.putCells id 0 ys.toArray))else w.heap[b]? :=fun b hb=>by
  rw[hWd,Array.getElem?_append_left (by simpa using hb),Array.getElem?_modify]
 rcases h.out with ⟨h1,_⟩|⟨g',cur,h1,hb,hg,hnc,hmc,hcs,htake⟩
 ·cases h1
 ·cases h1
  obtain⟨fr,hg1,hg2⟩:=hg.out
  have hlt:=hg.lt
  refine⟨⟨by rw[hl];exact hlen,.inr ⟨g,Go.Sort.putCells id 0 ys.toArray cur,rfl,hb,⟨fr,?_,?_⟩,hnc,hmc,?_,?_⟩⟩,hsz,fun b hb hF=> ?_⟩
  ·rw[hsame g hlt,if_pos rfl,hg1];rfl
  ·have:(Go.Sort.putCells id 0 ys.toArray cur).size=cur.size:=by simp[Go.Sort.putCells]
   rw[this];exact hg2
  ·have:(Go.Sort.putCells id 0 ys.toArray cur).size=cur.size:=by simp[Go.Sort.putCells]
   rw[this];exact hcs
  ·apply List.ext_getElem?
   intro j
   rw[List.getElem?_take,Array.getElem?_toList,put_cells]
   have hnk:=Nat.mul_le_mul_right k hnc
   by_cases hj:j<n*k
   ·rw[if_pos hj,if_pos (by omega),if_pos (by omega)]
   ·rw[if_neg hj,List.getElem?_eq_none (by omega)]
  ·rw[hsame b hb,if_neg fun e=>hF ⟨_,rfl,e⟩]
end Go.Vc
namespace Go.Proofs.YtjdieklgoepdjaaGreatDoor
open Go Go.Vc Go.Scr
theorem put_map {α:Type} [Inhabited α] (enc:α→Value) (w:World) (g:Nat) (d:List α):Go.Sort.putRow enc w g 0 d.toArray=Go.Sort.putRow id w g 0 (d.map enc).toArray:=by
 unfold Go.Sort.putRow
 refine Go.Sort.mapBlock_congr w g _ _ fun c _ _ _=> ?_
 unfold Go.Sort.putCells
 congr 1
 funext k x
 by_cases h:k<d.length
 ·rw[if_pos (by simpa using h),if_pos (by simpa using h)];simp[h]
 ·rw[if_neg (by simpa using h),if_neg (by simpa using h)]
theorem holds_map {α:Type} [Inhabited α] (enc:α→Value) (w:World) (g:Nat) (d:List α) (h:Go.Sort.Holds id w g 0 (d.map enc).toArray):Go.Sort.Holds enc w g 0 d.toArray:=by
 intro j hj
 have hj':j<d.length:=by simpa using hj
 have:=h j (by simpa using hj')
 have e:enc d.toArray[j]! =id (d.map enc).toArray[j]! :=by simp[hj']
 rw[e];exact this
end Go.Proofs.YtjdieklgoepdjaaGreatDoor
namespace Go.Vc
theorem bytesLess_lt: ∀ a b:List UInt8,Op.bytesLess a b=decide (a<b)
 |[],[]=>by simp[Op.bytesLess]
 |[],b::m=>by simp[Op.bytesLess]
 |a::l,[]=>by simp[Op.bytesLess]
 |a::l,b::m=>by
  have ih:=bytesLess_lt l m
  simp only[Op.bytesLess,ih]
  by_cases h:a<b
  ·simp[h,List.cons_lt_cons_iff]
  ·by_cases e:a=b
   ·subst e;simp[List.cons_lt_cons_iff,h]
   ·simp[h,e,List.cons_lt_cons_iff]
theorem merge_le (l:List Bs):(l.mergeSort fun x y=>decide (x≤y)).Pairwise Go.Why.LeT:=by
 have h:=List.pairwise_mergeSort (le:=fun(x y:Bs)=>decide (x≤y)) (fun a b c h1 h2=>by
  rw[decide_eq_true_eq]at*
  exact List.le_trans h1 h2) (fun a b=>by
  rw[Bool.or_eq_true,decide_eq_true_eq,decide_eq_true_eq]
  exact List.le_total a b) l
 refine h.imp fun{a b} hab=> ?_
 rw[decide_eq_true_eq]at hab
 unfold Go.Why.LeT
 rw[bytesLess_lt]
 exact decide_eq_false (List.not_lt.2 hab)
def IsIt (H:Heap) (x:Nat):Prop:=∃ m s se c,H[x]? =some (.mapIter m s se c)
theorem Blk.noIt {H:Heap} {b:Nat} {c:Array Value} {t:TypeId} (h:Blk H b c t): ¬IsIt H b:=fun⟨m,s,se,c,e⟩=>by
 obtain⟨fr,h1,_⟩:=h.out
 rw[h1]at e;cases e
theorem LoopO.noIt {H:Heap} {l:Nat} {s:LoopState} {p:Option Code} {r:Loop} (h:LoopO H l s p r): ¬IsIt H l:=fun⟨m,_,_,_,e⟩=>by rw[h.out]at e;cases e
theorem DefO.noIt {H:Heap} {l:Nat} (h:DefO H l): ¬IsIt H l:=fun⟨m,_,_,_,e⟩=>by rw[h.out]at e;cases e
theorem MapO.noIt {H:Heap} {b:Nat} {l:List (Bs×Value)} (h:MapO H b l): ¬IsIt H b:=fun⟨m,_,_,_,e⟩=>by
 obtain⟨_,_,h1,_⟩:=h.out
 rw[h1]at e;cases e
theorem LoopO.neM {H:Heap} {l b:Nat} {s:LoopState} {p:Option Code} {r:Loop} {m:List (Bs×Value)} (h:LoopO H l s p r) (k:MapO H b m):l≠b:=by
 rintro rfl
 obtain⟨_,_,h1,_⟩:=k.out
 rw[h.out]at h1;cases h1
theorem IterO.isIt {H:Heap} {r b:Nat} {l:List (Bs×Value)} {vis:List Bs} (h:IterO H r b l vis):IsIt H r:=let ⟨_,_,_,_,_,h,_⟩:=h.out;⟨_,_,_,_,h⟩
end Go.Vc
namespace Go.Proofs.YtjdieklgoepdjaaGreatDoor
open Go Go.Vc Go.Scr Go.Slv
theorem sorts_any (l:List Bs) (g n cap base:Nat) (H:Heap) (ho:Own H base 9 1 (some ⟨g,0,none⟩) n cap (strs l)) (hn:l.length=n) (hm:n≤1000000000):
  CallH Tryz.prog 65 [.slice (some ⟨g,0,none⟩) n cap] H fun v H'=>v= .tuple #[]∧(∃ l':List Bs,l'.Perm l∧l'.Pairwise Go.Why.LeT∧Own H' base 9 1 (some ⟨g,0,none⟩) n cap (strs l'))∧Wr (some ⟨g,0,none⟩) H H':=by
 subst hn
 refine CallH.calls Tryz.call65 fun w hw=> ?_
 subst hw
 have hb:=(ho.block _ rfl).2
 have hs:strs l=l.map Go.Proofs.encStr:=rfl
 refine Calls.mono (Tryz.slices_Sort_string g 0 cap l w (holds_map _ w g l (own_holds (hs▸ho))) hb (by omega)) ?_
 rintro e w' ⟨h1,m,os,rfl⟩
 have hp:=List.mergeSort_perm l (fun x y=>decide (x≤y))
 obtain⟨g1,g2⟩:=own_put (ys:=strs (l.mergeSort fun x y=>decide (x≤y))) ho (by simp[strs,hp.length_eq]) m os
 rw[put_map Go.Proofs.encStr]
 exact⟨_,h1,⟨rfl,rfl,rfl⟩,rfl,⟨_,hp,merge_le l,g1⟩,g2⟩
theorem len64_zero (H:Heap):CallH Tryz.prog 153 [.int .u64 0] H fun v H'=>v= .int .i64 0∧H=H':=by
 refine Vc.CallH.body Tryz.func153 Tryz.call153 rfl (by decide+kernel) rfl ?_
 ((conv=>whnf);repeat(any_goals((first|(refine IdxH.nat 0 rfl (by decide) ?_)|refine Vc.stp ?_|refine Vc.spl ?_ ?_)<;>(intros;(conv=>whnf)))))
 exact⟨rfl,rfl⟩
theorem len_zero (H:Heap):CallH Tryz.prog 110 [.int .u64 0] H fun v H'=>v= .int .i64 0∧H=H':=by
 refine Vc.CallH.body Tryz.func110 Tryz.call110 rfl (by decide+kernel) rfl ?_
 ((conv=>whnf);repeat(any_goals((first|(refine(len64_zero _).mono ?_;rintro _ _ ⟨rfl,rfl⟩)|refine Vc.stp ?_|refine Vc.spl ?_ ?_)<;>(intros;(conv=>whnf)))))
 exact⟨rfl,rfl⟩
theorem insort0_any (a:Option Addr) (cap:Nat) (H:Heap):CallH Tryz.prog 143 [.slice a 0 cap,.int .i64 0,.int .i64 0] H fun v H'=>v= .tuple #[]∧H=H':=by
 refine Vc.CallH.body Tryz.func143 Tryz.call143 rfl (by decide+kernel) rfl ?_
 ((conv=>whnf);repeat(any_goals((first|refine Vc.stp ?_|refine Vc.spl ?_ ?_)<;>(intros;(conv=>whnf)))))
 refine LoopH.intro (fun(i:Nat)=>[(6,.int .i64 1)]) (fun i H'=>H=H') (fun i=>0) 0 ⟨rfl,trivial⟩ rfl ?_
 rintro i _ rfl
 ((conv=>whnf);repeat(any_goals((first|refine Vc.stp ?_|refine Vc.spl ?_ ?_)<;>(intros;(conv=>whnf)))))
 exact⟨rfl,rfl⟩
theorem pdq0_any (a:Option Addr) (cap:Nat) (H:Heap):CallH Tryz.prog 109 [.slice a 0 cap,.int .i64 0,.int .i64 0,.int .i64 0] H fun v H'=>v= .tuple #[]∧H=H':=by
 refine Vc.CallH.body Tryz.func109 Tryz.call109 rfl (by decide+kernel) rfl ?_
 ((conv=>whnf);repeat(any_goals((first|refine Vc.stp ?_|refine Vc.spl ?_ ?_)<;>(intros;(conv=>whnf)))))
 refine LoopH.intro (fun(i:Nat)=>[(1,.int .i64 0),(2,.int .i64 0),(3,.int .i64 0),(8,.bool true),(9,.bool true)]) (fun i H'=>H=H') (fun i=>0) 0 ⟨rfl,rfl,rfl,rfl,rfl,trivial⟩ rfl ?_
 rintro i _ rfl
 ((conv=>whnf);repeat(any_goals((first|(refine(insort0_any _ _ _).mono ?_;rintro _ _ ⟨rfl,rfl⟩)|refine Vc.stp ?_|refine Vc.spl ?_ ?_)<;>(intros;(conv=>whnf)))))
 exact⟨rfl,rfl⟩
theorem sort0_any (a:Option Addr) (cap:Nat) (H:Heap):CallH Tryz.prog 65 [.slice a 0 cap] H fun v H'=>v= .tuple #[]∧H=H':=by
 refine Vc.CallH.body Tryz.func65 Tryz.call65 rfl (by decide+kernel) rfl ?_
 ((conv=>whnf);repeat(any_goals((first|(refine(len_zero _).mono ?_;rintro _ _ ⟨rfl,rfl⟩)|(refine(pdq0_any _ _ _).mono ?_;rintro _ _ ⟨rfl,rfl⟩)|refine Vc.stp ?_|refine Vc.spl ?_ ?_)<;>(intros;(conv=>whnf)))))
 exact⟨rfl,rfl⟩
def Gives (gf:FuncId) (bm b:Nat) (tm:TypeId) (L:List (Bs×Value)):Prop:=∀ (l:Nat) (J:List Bs→Heap→Prop) (H:Heap),
 (∀ pre H,J pre H→Blk H bm #[.map (some b)] tm∧MapO H b L)→
 (∀ pre H1 H',J pre H1→Only (fun y=>H.size≤y∧IsIt H1 y) H1 H'→J pre H')→
 (∀ pre x H1,J pre H1→pre.length<L.length→YieldH Tryz.prog l [.string (mkS x)] H1 fun v H2=>v= .bool true∧J (pre++[x]) H2∧Only (fun y=>y≠b∧ ¬IsIt H1 y) H1 H2)→
 J [] H→CallH Tryz.prog gf [.func (.yield l) #[] #[],.pointer (some ⟨bm,0,none⟩)] H fun v H'=>∃ ks,ks.Perm (L.map (·.1))∧J ks H'
set_option maxHeartbeats 1000000 in
theorem givesI (bm b:Nat) (L:List (Bs×Value)):Gives 123 bm b 94 L:=by
 intro l J H hB hA hY h0
 obtain⟨kb,hm0⟩:=hB _ _ h0
 refine Vc.CallH.bodyY Tryz.func123 Tryz.call123 rfl (by decide+kernel) (by decide+kernel) rfl ?_
 ((conv=>whnf);repeat(any_goals((first|(refine SemH.rangeMap hm0 rfl ?_;intro H1 hz1 hi1 hx1)|refine Vc.stp ?_|refine Vc.spl ?_ ?_)<;>(intros;(conv=>whnf)))))
 refine LoopY.intro (fun _=>[]) (fun(pre:List Bs) H'=>J pre H'∧IterO H' H.size b L pre) (fun pre=>L.length-pre.length) [] trivial ⟨hA _ _ _ h0 hx1.only,hi1⟩ ?_
 rintro pre H2 ⟨hj,hi⟩
 ((conv=>whnf);repeat(any_goals((first|refine Vc.stp ?_|refine Vc.spl ?_ ?_)<;>(intros;(conv=>whnf)))))
 refine SemH.nextMap hi (fun hall=> ?_) (fun k v H3 hkv hnv hz3 hi3 hc3 hb3=> ?_)
 ·((conv=>whnf);repeat(any_goals((first|refine Vc.stp ?_|refine Vc.spl ?_ ?_)<;>(intros;(conv=>whnf)))))
  refine⟨pre,?_,hj⟩
  exact perm_of_all hi.map.nodup hi.nodup hi.sub hall
 ·have hj3:=hA _ _ _ hj (hb3.mono fun x e=>by rw[e];exact⟨Nat.le_refl _,hi.isIt⟩)
  have hlen:(pre++[k]).length=pre.length+1:=by simp
  have hle:=nodup_len hi3.nodup hi3.sub
  rw[List.length_map]at hle
  have hyy:=hY pre k H3 hj3 (by omega)
  ((conv=>whnf);repeat(any_goals((first|(refine SemH.entryMap hc3 ?_)|(refine hyy.mono ?_;rintro v4 H4 ⟨rfl,hj4,ho4⟩)|refine Vc.stp ?_|refine Vc.spl ?_ ?_)<;>(intros;(conv=>whnf)))))
  have hi4:=hi3.keep ho4 (fun h=>h.2 hi3.isIt) (fun h=>h.1 rfl)
  exact⟨pre++[k],trivial,⟨hj4,hi4⟩,by omega⟩
theorem keysI_any (b:Nat) (H:Heap):CallH Tryz.prog 81 [.map (some b)] H fun v H'=>v= .func (.func 123) #[] #[.pointer (some ⟨H.size,0,none⟩)]∧Blk H' H.size #[.map (some b)] 94∧H'.size=H.size+1∧Ext H H':=by
 refine Vc.CallH.body Tryz.func81 Tryz.call81 rfl (by decide+kernel) rfl ?_
 ((conv=>whnf);repeat(any_goals((first|(refine SemH.mkFunc ?_)|refine Vc.stp ?_|refine Vc.spl ?_ ?_)<;>(intros;(conv=>whnf)))))
 rename_i H1 z1 b1 x1
 exact⟨rfl,b1,z1,x1⟩
set_option maxHeartbeats 1000000 in
theorem givesA (bm b:Nat) (L:List (Bs×Value)):Gives 198 bm b 155 L:=by
 intro l J H hB hA hY h0
 obtain⟨kb,hm0⟩:=hB _ _ h0
 refine Vc.CallH.bodyY Tryz.func198 Tryz.call198 rfl (by decide+kernel) (by decide+kernel) rfl ?_
 ((conv=>whnf);repeat(any_goals((first|(refine SemH.rangeMap hm0 rfl ?_;intro H1 hz1 hi1 hx1)|refine Vc.stp ?_|refine Vc.spl ?_ ?_)<;>(intros;(conv=>whnf)))))
 refine LoopY.intro (fun _=>[]) (fun(pre:List Bs) H'=>J pre H'∧IterO H' H.size b L pre) (fun pre=>L.length-pre.length) [] trivial ⟨hA _ _ _ h0 hx1.only,hi1⟩ ?_
 rintro pre H2 ⟨hj,hi⟩
 ((conv=>whnf);repeat(any_goals((first|refine Vc.stp ?_|refine Vc.spl ?_ ?_)<;>(intros;(conv=>whnf)))))
 refine SemH.nextMap hi (fun hall=> ?_) (fun k v H3 hkv hnv hz3 hi3 hc3 hb3=> ?_)
 ·((conv=>whnf);repeat(any_goals((first|refine Vc.stp ?_|refine Vc.spl ?_ ?_)<;>(intros;(conv=>whnf)))))
  refine⟨pre,?_,hj⟩
  exact perm_of_all hi.map.nodup hi.nodup hi.sub hall
 ·have hj3:=hA _ _ _ hj (hb3.mono fun x e=>by rw[e];exact⟨Nat.le_refl _,hi.isIt⟩)
  have hlen:(pre++[k]).length=pre.length+1:=by simp
  have hle:=nodup_len hi3.nodup hi3.sub
  rw[List.length_map]at hle
  have hyy:=hY pre k H3 hj3 (by omega)
  ((conv=>whnf);repeat(any_goals((first|(refine SemH.entryMap hc3 ?_)|(refine hyy.mono ?_;rintro v4 H4 ⟨rfl,hj4,ho4⟩)|refine Vc.stp ?_|refine Vc.spl ?_ ?_)<;>(intros;(conv=>whnf)))))
  have hi4:=hi3.keep ho4 (fun h=>h.2 hi3.isIt) (fun h=>h.1 rfl)
  exact⟨pre++[k],trivial,⟨hj4,hi4⟩,by omega⟩
theorem keysA_any (b:Nat) (H:Heap):CallH Tryz.prog 186 [.map (some b)] H fun v H'=>v= .func (.func 198) #[] #[.pointer (some ⟨H.size,0,none⟩)]∧Blk H' H.size #[.map (some b)] 155∧H'.size=H.size+1∧Ext H H':=by
 refine Vc.CallH.body Tryz.func186 Tryz.call186 rfl (by decide+kernel) rfl ?_
 ((conv=>whnf);repeat(any_goals((first|(refine SemH.mkFunc ?_)|refine Vc.stp ?_|refine Vc.spl ?_ ?_)<;>(intros;(conv=>whnf)))))
 rename_i H1 z1 b1 x1
 exact⟨rfl,b1,z1,x1⟩
structure KG (base:Nat) (H:Heap) (bs D lb bm b:Nat) (tm:TypeId) (L:List (Bs×Value)) (r:Loop) (s:LoopState) (l:List Bs) (a:Option Addr) (cap:Nat):Prop where
 own:Own H base 9 1 a l.length cap (strs l)
 ks:Blk H bs #[.slice a l.length cap] 37
 lo:LoopO H lb s none r
 de:DefO H D
 kb:Blk H bm #[.map (some b)] tm
 mp:MapO H b L
 sz:base≤H.size
 low:bs<base∧D<base∧lb<base∧bm<base∧b<base
theorem KG.keep {base:Nat} {F:Nat→Prop} {H H':Heap} {bs D lb bm b:Nat} {tm:TypeId} {L:List (Bs×Value)} {r:Loop} {s:LoopState} {l:List Bs} {a:Option Addr} {cap:Nat} (h:KG base H bs D lb bm b tm L r s l a cap) (k:Only F H H') (hF: ∀ x,x<H.size→F x→IsIt H x):KG base H' bs D lb bm b tm L r s l a cap:=
 ⟨h.own.keep k fun p hp hf=>by
   rcases h.own.out with ⟨g1,_⟩|⟨g,cur,g1,_,hb,_⟩
   ·rw[g1]at hp;cases hp
   ·rw[g1]at hp;cases hp;exact hb.noIt (hF _ hb.lt hf),
  h.ks.keep k fun hf=>h.ks.noIt (hF _ h.ks.lt hf),h.lo.keep k fun hf=>h.lo.noIt (hF _ h.lo.lt hf),h.de.keep k fun hf=>h.de.noIt (hF _ h.de.lt hf),h.kb.keep k fun hf=>h.kb.noIt (hF _ h.kb.lt hf),h.mp.keep k fun hf=>h.mp.noIt (hF _ h.mp.lt hf),Nat.le_trans h.sz k.size,h.low⟩
theorem KG.but {base:Nat} {H H':Heap} {bs D lb bm b:Nat} {tm:TypeId} {L:List (Bs×Value)} {r:Loop} {s s':LoopState} {l:List Bs} {a:Option Addr} {cap:Nat} (h:KG base H bs D lb bm b tm L r s l a cap) (k:But lb H H') (hl:LoopO H' lb s' none r):KG base H' bs D lb bm b tm L r s' l a cap:=by
 have hlow:=h.low
 exact⟨h.own.keep k fun p hp e=>by have:=(h.own.block p hp).1;omega,h.ks.but k fun e=>h.lo.ne (e▸h.ks) rfl,hl,h.de.keep k (fun e=>by
   have h1:=h.de.out
   have h2:=h.lo.out
   rw[e,h2]at h1;cases h1),h.kb.but k fun e=>h.lo.ne (e▸h.kb) rfl,h.mp.but k fun e=>h.lo.neM h.mp e.symm,Nat.le_trans h.sz k.size,h.low⟩
set_option maxHeartbeats 2000000 in
theorem appendSeq_any (gf:FuncId) (hcf: ∀ (args:Array Value) (w:World),(callFunc gf args).run Tryz.prog w= .ok (.enter gf args) w) (bm b:Nat) (tm:TypeId) (L:List (Bs×Value)) (hg:Gives gf bm b tm L) (hL:L.length≤1000000) (H:Heap) (hb:Blk H bm #[.map (some b)] tm) (hm:MapO H b L):
  CallH Tryz.prog 167 [.slice none 0 0,.func (.func gf) #[] #[.pointer (some ⟨bm,0,none⟩)]] H fun v H'=>(∃ ks a cap,v= .slice a ks.length cap∧ks.Perm (L.map (·.1))∧Own H' H.size 9 1 a ks.length cap (strs ks))∧Ext H H':=by
 refine Vc.CallH.bodyR Tryz.func167 Tryz.call167 rfl (by decide+kernel) (by decide+kernel) rfl ?_
 ((conv=>whnf);repeat(any_goals((first|refine Vc.stp ?_|refine Vc.spl ?_ ?_)<;>(intros;(conv=>whnf)))))
 rename_i H1 z1 b1 x1
 refine⟨⟨gf,_,rfl,hcf,?_⟩⟩
 intro r H6 hrt hag hps hra hrb hz6 hx6 hde hlo
 have q6:H6.size=H.size+3:=by omega
 have q1:H1.size=H.size+1:=z1
 have xH6:Ext H H6:=x1.trans hx6
 have hbl:=hb.lt
 have hml:=hm.lt
 refine(hg (H1.size+1) (fun pre Hx=>(∃ a cap,KG H6.size Hx H.size H1.size (H1.size+1) bm b tm L r .ready pre a cap)∧Ext H Hx) H6 ?_ ?_ ?_ ⟨⟨none,0,⟨Vc.Own.nil _ _ _ _,b1.ext hx6,hlo,hde,hb.ext xH6,hm.ext xH6,Nat.le_refl _,by omega⟩⟩,xH6⟩).mono ?_
 ·rintro pre Hx ⟨⟨a,cap,k⟩,_⟩
  exact⟨k.kb,k.mp⟩
 ·rintro pre Hx Hy ⟨⟨a,cap,k⟩,hx⟩ ho
  exact⟨⟨a,cap,k.keep ho fun x _ h=>h.2⟩,Only.trans hx ho fun x hlt h=>by have:=h.1;omega⟩
 ·rintro pre x Hr ⟨⟨a,cap,k⟩,hxr⟩ hpl
  have hlow:=k.low
  refine YieldH.round k.lo hrt hag hps hra hrb (by decide) (by decide+kernel) (by decide+kernel) (by decide+kernel) (by decide+kernel) ?_
  ((conv=>whnf);repeat(any_goals((first|refine Vc.stp ?_|refine Vc.spl ?_ ?_)<;>(intros;(conv=>whnf)))))
  refine⟨rfl,k.lo,fun Hy hzy hly hxy=> ?_⟩
  have ky:=k.but hxy hly
  have hxy':Ext H Hy:=hxr.but hxy (by omega)
  have kks:=ky.ks
  have hzs:=ky.sz
  ((conv=>whnf);repeat(any_goals((first|((fail_if_success (have:=hw9));rename_i Hm zm bm' xm;refine NextH.push1b bm' (ky.own.ext xm) (by omega) (by omega) rfl ⟨_,rfl,fun _ h=>by cases h⟩ rfl rfl rfl rfl rfl rfl rfl ?_;intro a5 c5 H9 ho9 hz9 hw9;have kk9:=(kks.ext xm).keep hw9 ((ky.own.ext xm).low (by omega)))|refine Vc.stp ?_|refine Vc.spl ?_ ?_)<;>(intros;(conv=>whnf)))))
  rename_i Hd zd bd xd
  have lo9: ∀ y,y<H6.size→ ¬ ∃ p,a=some p∧p.block=y:=fun y hy=>ky.own.low hy
  have hln:(pre++[x]).length=pre.length+1:=by simp
  have ho10:=own_snocS rfl ho9
  rw[←hln]at bd
  have hlyd:=((hly.ext xm).keep hw9 (lo9 _ (by omega))).keep xd (by omega)
  refine⟨hlyd,fun H4 f1 f2 f3=>⟨rfl,⟨⟨a5,c5,KG.but ⟨ho10.keep xd fun p hp e=>by have:=(ho9.block p hp).1;omega,bd,hlyd,((ky.de.ext xm).keep hw9 (lo9 _ (by omega))).keep xd (by omega),((ky.kb.ext xm).keep hw9 (lo9 _ (by omega))).but xd (by omega),((ky.mp.ext xm).keep hw9 (lo9 _ (by omega))).but xd (by omega),by omega,k.low⟩ f3 f2⟩,?_⟩,?_⟩⟩
  ·exact((((hxy'.trans xm).wr (ky.own.ext xm) (by omega) hw9).but xd (by omega)).but f3 (by omega))
  ·have o1:Only (fun y=>y≠b∧ ¬IsIt Hr y) Hr Hy:=hxy.mono fun y e=>by rw[e];exact⟨k.lo.neM k.mp,k.lo.noIt⟩
   have o2:=Only.trans o1 xm fun _ _ h=>h.elim
   have o3:=Only.trans o2 hw9 fun y hy ⟨p,hp,e⟩=>by
    rcases k.own.out with ⟨g1,_⟩|⟨g,cur,g1,_,hb,_⟩
    ·rw[g1]at hp;cases hp
    ·rw[g1]at hp;cases hp
     rw[←e]
     exact⟨fun e'=>k.mp.ne hb e'.symm,hb.noIt⟩
   have o4:=Only.trans o3 xd fun y _ e=>by rw[e];exact⟨by omega,k.ks.noIt⟩
   exact Only.trans o4 f3 fun y _ e=>by rw[e];exact⟨k.lo.neM k.mp,k.lo.noIt⟩
 ·rintro v H7 ⟨ks,hp,⟨a,cap,k⟩,hx7⟩
  refine⟨.ready,none,by simp,k.lo,fun H8 hz8 hx8=> ?_⟩
  have hlow:=k.low
  have k2:=k.ks.but hx8 (by omega)
  have kd:=k.de.keep hx8 (by omega)
  have hx8':Ext H H8:=hx7.but hx8 (by omega)
  have ko:=k.own.keep hx8 (fun p hp e=>by have:=(k.own.block p hp).1;omega)
  ((conv=>whnf);repeat(any_goals((first|refine Vc.stp ?_|refine Vc.spl ?_ ?_)<;>(intros;(conv=>whnf)))))
  exact⟨kd,fun Hf hzf hxf=>⟨⟨ks,a,cap,rfl,hp,(ko.keep hxf (fun p hp e=>by have:=(ko.block p hp).1;omega)).base (by omega)⟩,hx8'.but hxf (by omega)⟩⟩
theorem collect_any (gf:FuncId) (hcf: ∀ (args:Array Value) (w:World),(callFunc gf args).run Tryz.prog w= .ok (.enter gf args) w) (bm b:Nat) (tm:TypeId) (L:List (Bs×Value)) (hg:Gives gf bm b tm L) (hL:L.length≤1000000) (H:Heap) (hb:Blk H bm #[.map (some b)] tm) (hm:MapO H b L):
  CallH Tryz.prog 122 [.func (.func gf) #[] #[.pointer (some ⟨bm,0,none⟩)]] H fun v H'=>(∃ ks a cap,v= .slice a ks.length cap∧ks.Perm (L.map (·.1))∧Own H' H.size 9 1 a ks.length cap (strs ks))∧Ext H H':=by
 refine Vc.CallH.body Tryz.func122 Tryz.call122 rfl (by decide+kernel) rfl ?_
 ((conv=>whnf);repeat(any_goals((first|(refine(appendSeq_any gf hcf bm b tm L hg hL _ hb hm).mono ?_;rintro _ H1 ⟨⟨ks,a,cap,rfl,h1,h2⟩,hx1⟩)|refine Vc.stp ?_|refine Vc.spl ?_ ?_)<;>(intros;(conv=>whnf)))))
 exact⟨⟨ks,a,cap,rfl,h1,h2⟩,hx1⟩
theorem sorted_any (gf:FuncId) (hcf: ∀ (args:Array Value) (w:World),(callFunc gf args).run Tryz.prog w= .ok (.enter gf args) w) (bm b:Nat) (tm:TypeId) (L:List (Bs×Value)) (hg:Gives gf bm b tm L) (hL:L.length≤1000000) (H:Heap) (hb:Blk H bm #[.map (some b)] tm) (hm:MapO H b L):
  CallH Tryz.prog 80 [.func (.func gf) #[] #[.pointer (some ⟨bm,0,none⟩)]] H fun v H'=>(∃ ks a cap,v= .slice a ks.length cap∧SortT ks∧(∀ k,k∈ks↔ ∃ u,mget L k=some u)∧ks.length=L.length∧Own H' H.size 9 1 a ks.length cap (strs ks))∧Ext H H':=by
 refine Vc.CallH.body Tryz.func80 Tryz.call80 rfl (by decide+kernel) rfl ?_
 ((conv=>whnf);repeat(any_goals((first|refine Vc.stp ?_|refine Vc.spl ?_ ?_)<;>(intros;(conv=>whnf)))))
 refine(collect_any gf hcf bm b tm L hg hL _ hb hm).mono ?_
 rintro _ H1 ⟨⟨ks,a,cap,rfl,h1,h2⟩,hx1⟩
 have hkl:ks.length=L.length:=by rw[h1.length_eq,List.length_map]
 have hmem: ∀ k,k∈ks↔ ∃ u,mget L k=some u:=fun k=>by
  rw[h1.mem_iff]
  constructor
  ·intro hk
   cases e:mget L k with
   |some u=>exact⟨u,rfl⟩
   |none=>exact absurd hk (mget_none.1 e)
  ·rintro⟨u,hu⟩
   exact List.mem_map.2 ⟨_,mget_mem hu,rfl⟩
 cases a with
 |none=>
  have hk0:ks=[]:=by
   rcases h2.out with ⟨_,h,_⟩|⟨g,cur,h,_⟩
   ·exact List.eq_nil_of_length_eq_zero h
   ·cases h
  subst hk0
  ((conv=>whnf);repeat(any_goals((first|(refine(sort0_any _ _ _).mono ?_;rintro _ _ ⟨rfl,rfl⟩)|refine Vc.stp ?_|refine Vc.spl ?_ ?_)<;>(intros;(conv=>whnf)))))
  exact⟨⟨[],none,cap,rfl,List.Pairwise.nil,hmem,hkl,h2⟩,hx1⟩
 |some p=>
  obtain⟨g,hg0⟩: ∃ g,p=⟨g,0,none⟩:=by
   rcases h2.out with ⟨h,_⟩|⟨g,cur,h,_⟩
   ·cases h
   ·cases h;exact⟨g,rfl⟩
  subst hg0
  ((conv=>whnf);repeat(any_goals((first|(refine(sorts_any ks g _ cap H.size _ h2 rfl (by omega)).mono ?_;rintro _ H2 ⟨rfl,⟨l',hp',hs',ho'⟩,hw'⟩)|refine Vc.stp ?_|refine Vc.spl ?_ ?_)<;>(intros;(conv=>whnf)))))
  have hx2:Ext H H2:=hx1.wr h2 (Nat.le_refl _) hw'
  have hll:=hp'.length_eq
  have hnd:l'.Nodup:=hp'.nodup_iff.2 (h1.nodup_iff.2 hm.nodup)
  refine⟨⟨l',some ⟨g,0,none⟩,cap,by rw[hll];rfl,?_,fun k=>by rw[hp'.mem_iff];exact hmem k,by rw[hll];exact hkl,by rw[hll];exact ho'⟩,hx2⟩
  exact(hs'.and hnd).imp fun{x y} ⟨h1,h2⟩=>Go.Tre.lt_tri h1 (fun e=>h2 e.symm) |> fun h=>h
end Go.Proofs.YtjdieklgoepdjaaGreatDoor
