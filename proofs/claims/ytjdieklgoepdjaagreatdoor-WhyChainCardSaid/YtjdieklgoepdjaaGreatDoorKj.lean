import Derived.Test.YtjdieklgoepdjaaGreatDoorKg
import Derived.Test.YtjdieklgoepdjaaGreatDoorKp
import Derived.Test.YtjdieklgoepdjaaGreatDoorKd
import Derived.Test.YtjdieklgoepdjaaGreatDoorKk
set_option linter.unusedVariables false
set_option linter.unusedSimpArgs false
set_option maxRecDepth 100000
/- The code: which of two is better. -/
namespace Go.Proofs.YtjdieklgoepdjaaGreatDoor
open Go Go.Vc Go.Scr Go.Slv
def verT (v:VerP):Bs:=Lib.itoa (v.ma:Int)++[46]++Lib.itoa (v.mi:Int)++[46]++Lib.itoa (v.pa:Int)++(if v.pre=[]then []else [45]++Lib.join v.pre [46])
def rowN (H0 H:Heap) (r:RowP) (c:List Value):Prop:=∃ pa pc na nc,c=[.string (mkS r.name),.int .i64 r.v.ma,.int .i64 r.v.mi,.int .i64 r.v.pa,.slice pa r.v.pre.length pc]++strV r.sum++[.int .i64 r.size,.slice na r.needs.length nc]∧r.sum.length=32∧r.v.pre.length≤pc∧RowT 9 H pa (strs r.v.pre)∧r.needs.length≤nc∧RowL (constE needE H0) 45 H na r.needs
theorem rowN_keep {H0 H H':Heap} {r:RowP} {c:List Value} {F:Nat→Prop} (h:rowN H0 H r c) (k:Only F H H') (h1: ∀ b cc u,F b→Blk H b cc u→u≠9∧u≠45):rowN H0 H' r c:=by
 obtain⟨pa,pc,na,nc,e,h32,hl,hp,hn,hr⟩:=h
 exact⟨pa,pc,na,nc,e,h32,hl,hp.keep k fun b cc u f hb=>(h1 b cc u f hb).1,hn,hr.keep (const_ok need_ok H0) k fun b cc u f hb hu=>hu.elim (fun e=>(h1 b cc u f hb).2 e) id⟩
theorem rowN_E {H0 H:Heap} {r:RowP} {c:List Value} (h:rowN H0 H r c) (k:Ext H0 H):rowE H r c:=by
 obtain⟨pa,pc,na,nc,e,h32,hl,hp,hn,hr⟩:=h
 obtain⟨vs,h1,h2⟩:=hr
 exact⟨pa,pc,na,nc,e,h32,hl,hp.row,hn,RowE.unconst need_ok k ⟨vs,h1.row,h2⟩⟩
structure FndN (H0 H:Heap) (R:List RowP) (o:Option Nat) (x:Value):Prop where
 out:match o with
  |some i=>∃ r c,R[i]? =some r∧x= .tuple #[.agg c.toArray,.bool true]∧rowN H0 H r c
  |none=>x= .tuple #[.agg rowZ,.bool false]
set_option maxHeartbeats 4000000 in
theorem findN_any (R:List RowP) (hRB:RowsB R) (k:Bs) (v:VerP) (hv:VerB v) (a:Option Addr) (n cap:Nat) (y:Value) (H0 H:Heap) (k0:Ext H0 H) (hr:RowE rowE H0 a R) (hn:R.length=n) (hnl:n≤1000000) (hy:VerO H v y):CallH Tryz.prog 107 [.slice a n cap,.string (mkS k),y] H fun x H'=>FndN H0 H' R (idxR R k v) x∧Ext H H':=by
 have hat:=fun H' (k':Ext H H') y' hy'=>at_any R k v hv (rows_ver hRB) a n cap y' H0 H' (k0.trans k') hr hn hnl hy'
 obtain⟨ya,yc,ey,hyl,hyr⟩:=hy.out
 subst ey
 have hyV:VerO H v (verC v ya yc):=⟨ya,yc,rfl,hyl,hyr⟩
 obtain⟨I,hI⟩: ∃ I,idxR R k v=I:=⟨_,rfl⟩
 rw[hI]at hat ⊢
 refine Vc.CallH.body Tryz.func107 Tryz.call107 rfl (by decide+kernel) rfl ?_
 unfold verC
 ((conv=>whnf);repeat(any_goals((first|(refine SemH.load_verB (v:=v) (by assumption) ?_)|((with_reducible refine Vc.DrawH.held [0,1,2,4,5,3,7,8,6,9,10,11] [(3,[5])] mixed (by decide+kernel) ?_))|refine Vc.stp ?_)<;>(intros;(conv=>whnf)))))
 rename_i H1 z1 g1 x1 H2 z2 g2 x2
 cases I with
 |none=>
  have hat: ∀ H',Ext H H'→ ∀ y',VerO H' v y'→CallH Tryz.prog 142 [.slice a n cap,.string (mkS k),y'] H' fun x H''=>x= .int .i64 (-1)∧Ext H' H'':=hat
  ((conv=>whnf);repeat(any_goals((first|(refine(hat _ (by exact Vc.xt) _ (hyV.ext (by exact Vc.xt))).mono ?_;rintro _ H3 ⟨rfl,hx3⟩;have hz3:=hx3.size)|(refine PureH.build0 rowZ (by kernel_rfl) ?_)|((with_reducible refine Vc.DrawH.held [0,1,2,4,5,3,7,8,6,9,10,11] [(3,[5])] mixed (by decide+kernel) ?_))|refine Vc.stp ?_)<;>(intros;(conv=>whnf)))))
  rename_i H5 z5 b5 k5
  exact⟨⟨rfl⟩,(show Ext H H3 by exact Vc.xt).but k5 (by omega)⟩
 |some i=>
  have hat: ∀ H',Ext H H'→ ∀ y',VerO H' v y'→CallH Tryz.prog 142 [.slice a n cap,.string (mkS k),y'] H' fun x H''=>x= .int .i64 (i:Int)∧Ext H' H'':=hat
  obtain⟨r,hri,hrk,hrv⟩:=idx_some hI
  have hrm:=List.mem_of_getElem? hri
  have hps:=(hRB.small r hrm).len
  have hns:=hRB.needs r hrm
  ((conv=>whnf);repeat(any_goals((first|(refine(hat _ (by exact Vc.xt) _ (hyV.ext (by exact Vc.xt))).mono ?_;rintro _ H3 ⟨rfl,hx3⟩;have hz3:=hx3.size)|(refine IdxA.el row_ok (by decide) hr hn i r rfl hri ?_;intro b o c hcR hcl;obtain⟨pa,pc,na,nc,ec,h32,hpl,hpr,hnl2,hnr⟩:=(id hcR))|((with_reducible apply SemH.load_irow);(exact row_ok.len hcR);(exact hcl);(exact k0.trans (by exact Vc.xt));(conv=>whnf))|((fail_if_success (have:=b5));rename_i Hq zq bq xq;refine DoH.store_list bq rfl (by rw[row_ok.len hcR];rfl) (by rw[row_ok.len hcR];rfl) (row_ok.plain hcR) ?_;intro H5 z5 b5 k5;have hx35:Ext H3 H5:=(show Ext H3 Hq by exact Vc.xt).but k5 (by omega);have hx05:Ext H H5:=(show Ext H H3 by exact Vc.xt).trans hx35;have hp0:hcell H5 ⟨H3.size,0+1+3,none⟩=some (Value.slice pa r.v.pre.length pc):=blk_list b5 4 0 _ (by rw[ec];rfl);have hn0:hcell H5 ⟨H3.size,0+38,none⟩=some (Value.slice na r.needs.length nc):=blk_list b5 0 38 _ (by rw[Nat.zero_add];exact(row_last ec (by rw[strV_length];exact h32)).2))|(refine(cloneS_any str_ok r.v.pre pa _ pc _ (hpr.ext (k0.trans (hx05.trans (by exact Vc.xt)))).strE rfl (by omega)).mono ?_;rintro _ H6 ⟨⟨pa',pc',rfl,hop⟩,hx6⟩;have hz6:=hx6.size)|(refine(cloneN_any (const_ok need_ok H0) r.needs na _ nc _ (hnr.const.ext (const_ok need_ok H0).ok (k0.trans (hx05.trans (by exact Vc.xt)))) rfl (by omega)).mono ?_;rintro _ H7 ⟨⟨na',nc',rfl,hon⟩,hx7⟩;have hz7:=hx7.size)|((fail_if_success (have:=b8));refine DoH.store1 (o:=4) (b5.ext (by exact Vc.xt)) rfl rfl rfl (by rw[List.size_toArray,row_ok.len hcR];decide) ?_;intro H8 z8 b8 k8)|((fail_if_success (have:=b9));refine DoH.store1 (o:=38) b8 rfl rfl rfl (by rw[Array.size_setIfInBounds,List.size_toArray,row_ok.len hcR];decide) ?_;intro H9 z9 b9 k9;obtain⟨c2,hc2⟩: ∃ c2,c2=([.string (mkS r.name),.int .i64 r.v.ma,.int .i64 r.v.mi,.int .i64 r.v.pa,.slice pa' r.v.pre.length pc']++strV r.sum++[.int .i64 r.size,.slice na' r.needs.length nc']:List Value):=⟨_,rfl⟩;have b9':Blk H9 H3.size c2.toArray 54:=(by rw[ec,row_set _ _ _ _ _ _ _ _ _ _ (by rw[strV_length];exact h32)]at b9;rw[hc2];exact b9);have hl2:c2.length=39:=(by rw[hc2];simp[strV,h32]))|((fail_if_success (have:=b10));refine SemH.load_irow hl2 (fun k u hu=>blk_list b9' 0 k u (by rw[Nat.zero_add];exact hu)) (Ext.refl _) ?_)|((fail_if_success (have:=b10));have bR9:=((g2.ext (show Ext H2 H3 by exact Vc.xt)).ext hx35).ext (hx6.trans hx7);have bR9:=(bR9.but k8 (by omega)).but k9 (by omega);refine DoH.store_list (c:=c2) bR9 rfl (by rw[hl2];rfl) (by rw[hl2];rfl) (by rw[hc2];exact row_plainL _ _ _ _ _ _ _ _) ?_;intro H10 z10 b10 k10)|(refine SemH.load_irow hl2 (fun k u hu=>blk_list b10 0 k u (by rw[Nat.zero_add];exact hu)) (Ext.refl _) ?_)|((with_reducible refine Vc.DrawH.held [0,1,2,4,5,3,7,8,6,9,10,11] [(3,[5])] mixed (by decide+kernel) ?_))|refine Vc.stp ?_)<;>(intros;(conv=>whnf)))))
  have hx7:Ext H H7:=hx05.trans (hx6.trans hx7)
  have hx10:Ext H H10:=((hx7.but k8 (by omega)).but k9 (by omega)).but k10 (by omega)
  refine⟨⟨r,c2,hri,rfl,pa',pc',na',nc',hc2,h32,hop.cap_le,?_,hon.cap_le,?_⟩,hx10⟩
  ·have hk: ∀ p,pa'=some p→H5.size≤p.block:=fun p hp=>(hop.block p hp).1
   obtain⟨vs,h1,h2⟩:=((((hop.ext str_ok.ok (by assumption)).keep str_ok k8 (fun _ _ _ _ _ h=>h) fun p hp e=>by have:=hk p hp;omega).keep str_ok k9 (fun _ _ _ _ _ h=>h) fun p hp e=>by have:=hk p hp;omega).keep str_ok k10 (fun _ _ _ _ _ h=>h) fun p hp e=>by have:=hk p hp;omega).out
   rw[h2.strs_eq]at h1
   exact h1.rowT
  ·have hk: ∀ p,na'=some p→H6.size≤p.block:=fun p hp=>(hon.block p hp).1
   obtain⟨vs,h1,h2⟩:=(((hon.keep (const_ok need_ok H0) k8 (fun _ _ _ _ _ h=>h) fun p hp e=>by have:=hk p hp;omega).keep (const_ok need_ok H0) k9 (fun _ _ _ _ _ h=>h) fun p hp e=>by have:=hk p hp;omega).keep (const_ok need_ok H0) k10 (fun _ _ _ _ _ h=>h) fun p hp e=>by have:=hk p hp;omega).out
   exact⟨vs,h1.rowT,h2⟩
structure CntO (K:List Txt) (H:Heap) (cb:Nat) (seen:List Txt) (T:Nat):Prop where
 out: ∃ cf:Txt→Option Int,IntO H cb cf∧(∀ k j,cf k=some j→1≤j∧j≤T∧k∈seen)∧(∀ k∈seen,∃ j,cf k=some j)
 nodup:seen.Nodup
 sub: ∀ k∈seen,k∈K
theorem CntO.keep {K:List Txt} {H H':Heap} {cb:Nat} {seen:List Txt} {T:Nat} {F:Nat→Prop} (h:CntO K H cb seen T) (k:Only F H H') (hb: ¬F cb):CntO K H' cb seen T:=by
 obtain⟨cf,h1,h2,h3⟩:=h.out
 exact⟨⟨cf,h1.keep k hb,h2,h3⟩,h.nodup,h.sub⟩
theorem CntO.old {K:List Txt} {H:Heap} {cb:Nat} {seen:List Txt} {T:Nat} {l:List (Bs×Value)} {cf:Txt→Option Int} (hl: ∀ k,mget l k=intO (cf k)) (h2: ∀ k j,cf k=some j→1≤j∧j≤T∧k∈seen) (h3: ∀ k∈seen,∃ j,cf k=some j) (hn:seen.Nodup) (hs: ∀ k∈seen,k∈K) {k:Txt} {j:Int} (hk:k∈seen) (hj:1≤j∧j≤T+1) (hm:MapO H cb (mput l k (.int .i64 j))):CntO K H cb seen (T+1):=by
 refine⟨⟨_,IntO.put hl hm,fun q i e=> ?_,fun q hq=> ?_⟩,hn,hs⟩
 ·by_cases h:q=k
  ·rw[if_pos h]at e;cases e;subst h;exact⟨hj.1,by omega,hk⟩
  ·rw[if_neg h]at e
   have:=h2 q i e
   exact⟨this.1,by omega,this.2.2⟩
 ·by_cases h:q=k
  ·exact⟨j,by rw[if_pos h]⟩
  ·obtain⟨i,hi⟩:=h3 q hq
   exact⟨i,by rw[if_neg h];exact hi⟩
theorem CntO.new {K:List Txt} {H:Heap} {cb:Nat} {seen:List Txt} {T:Nat} {l:List (Bs×Value)} {cf:Txt→Option Int} (hl: ∀ k,mget l k=intO (cf k)) (h2: ∀ k j,cf k=some j→1≤j∧j≤T∧k∈seen) (h3: ∀ k∈seen,∃ j,cf k=some j) (hn:seen.Nodup) (hs: ∀ k∈seen,k∈K) {k:Txt} (hk:k∉seen) (hkK:k∈K) (hm:MapO H cb (mput l k (.int .i64 1))):CntO K H cb (seen++[k]) (T+1):=by
 refine⟨⟨_,IntO.put hl hm,fun q i e=> ?_,fun q hq=> ?_⟩,?_,fun q hq=> ?_⟩
 ·by_cases h:q=k
  ·rw[if_pos h]at e;cases e;subst h;exact⟨by omega,by omega,by simp⟩
  ·rw[if_neg h]at e
   have:=h2 q i e
   exact⟨this.1,by omega,List.mem_append_left _ this.2.2⟩
 ·by_cases h:q=k
  ·exact⟨1,by rw[if_pos h]⟩
  ·rcases List.mem_append.1 hq with hq|hq
   ·obtain⟨i,hi⟩:=h3 q hq
    exact⟨i,by rw[if_neg h];exact hi⟩
   ·rw[List.mem_singleton]at hq;exact absurd hq h
 ·rw[List.nodup_append]
  refine⟨hn,by simp,fun x hx y hy e=> ?_⟩
  rw[List.mem_singleton]at hy;subst hy;subst e;exact hk hx
 ·rcases List.mem_append.1 hq with hq|hq
  ·exact hs q hq
  ·rw[List.mem_singleton]at hq;subst hq;exact hkK
end Go.Proofs.YtjdieklgoepdjaaGreatDoor
