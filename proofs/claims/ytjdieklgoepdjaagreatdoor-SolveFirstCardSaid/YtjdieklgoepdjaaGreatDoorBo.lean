import Derived.Test.YtjdieklgoepdjaaGreatDoorKm
import Derived.Test.YtjdieklgoepdjaaGreatDoorKk
import Derived.Test.YtjdieklgoepdjaaGreatDoorKo
set_option linter.unusedVariables false
set_option linter.unusedSimpArgs false
set_option maxRecDepth 100000
/- The laws of solve: a registry in a heap, and what is asked of it. SolveGreatest. -/
namespace Go.Proofs.YtjdieklgoepdjaaGreatDoor
open Go Go.Vc Go.Scr Go.Slv
structure RegO (H:Heap) (R:List RowP) (N:List NeedP) (ra:Option Addr) (rc:Nat) (na:Option Addr) (nc:Nat):Prop where
 glb:Glb H
 ok:MadeOk R
 len:R.length≤19
 nlen:N.length≤10
 nb: ∀ n∈N,SpnB n.span
 row:RowE rowE H ra R
 need:RowE needE H na N
 cap:N.length≤nc
theorem RegO.ext {H H':Heap} {R:List RowP} {N:List NeedP} {ra na:Option Addr} {rc nc:Nat} (h:RegO H R N ra rc na nc) (k:Ext H H'):RegO H' R N ra rc na nc:=⟨h.glb.ext k,h.ok,h.len,h.nlen,h.nb,h.row.ext row_ok k,h.need.ext need_ok k,h.cap⟩
theorem RegO.solve {H:Heap} {R:List RowP} {N:List NeedP} {ra na:Option Addr} {rc nc:Nat} (h:RegO H R N ra rc na nc) (b:Int):CallH Tryz.prog 35 [.slice ra R.length rc,.slice na N.length nc,.int .i64 b] H fun v H'=>SolveR R N b H' v∧Ext H H':=by
 have:=h.nlen
 exact solve_small h.ok h.len (by omega) h.nb ra rc na nc b H h.glb h.row h.need
theorem RegO.rsolve {H:Heap} {R:List RowP} {N:List NeedP} {ra na:Option Addr} {rc nc:Nat} (h:RegO H R N ra rc na nc):CallH Tryz.prog 21 [.slice ra R.length rc,.slice na N.length nc,.int .i64 1] H fun x H'=>(∃ o,SolvR H' x o∧Solves R N o)∧Ext H H':=by
 have:=h.nlen
 have:=h.len
 exact rsolve_any R h.ok.apart (made_bounds h.ok) N h.nb ra na R.length rc N.length nc 1 (by decide) H h.row h.need rfl rfl (by omega) (by omega) h.cap
theorem RegO.fits {H:Heap} {R:List RowP} {N:List NeedP} {ra na:Option Addr} {rc nc:Nat} (h:RegO H R N ra rc na nc) {P:List PinP} (hs:SortP P) (hr: ∀ p∈P,∃ r∈R,pinR r=p) {pa:Option Addr} {pc:Nat} (hP:RowE pinE H pa P) (hl:P.length≤900):CallH Tryz.prog 37 [.slice ra R.length rc,.slice na N.length nc,.slice pa P.length pc] H fun x H'=>(∃ b:Bool,x= .bool b∧(b=true↔FitP R N P))∧Ext H H':=by
 have:=h.nlen
 have:=h.len
 exact sfits_any R h.ok.apart (made_bounds h.ok) (by omega) N h.nb P hs hr ra na pa rc N.length nc P.length pc H h.glb h.row h.need hP rfl rfl (by omega) hl
theorem RegO.rfits {H:Heap} {R:List RowP} {N:List NeedP} {ra na:Option Addr} {rc nc:Nat} (h:RegO H R N ra rc na nc) {P:List PinP} (hs:SortP P) (hr: ∀ p∈P,∃ r∈R,pinR r=p) {pa:Option Addr} {pc:Nat} (hP:RowE pinE H pa P) (hl:P.length≤900):CallH Tryz.prog 39 [.slice ra R.length rc,.slice na N.length nc,.slice pa P.length pc] H fun x H'=>(∃ b:Bool,x= .bool b∧(b=true↔FitP R N P))∧Ext H H':=by
 have:=h.nlen
 have:=h.len
 exact rfits_any R h.ok.apart (made_bounds h.ok) N h.nb P hs hr ra na pa R.length rc N.length nc P.length pc H h.row h.need hP rfl rfl rfl (by omega) (by omega) hl h.cap
theorem RegO.pinv {H:Heap} {R:List RowP} {N:List NeedP} {ra na:Option Addr} {rc nc:Nat} (h:RegO H R N ra rc na nc) {P:List PinP} (hr: ∀ p∈P,∃ r∈R,pinR r=p): ∀ p∈P,VerB p.v:=fun p hp=>by
 obtain⟨r,hr,rfl⟩:=hr p hp
 exact rows_ver (made_bounds h.ok) r hr
theorem RegO.pins {H:Heap} {R:List RowP} {N:List NeedP} {ra na:Option Addr} {rc nc:Nat} (h:RegO H R N ra rc na nc) {P Q:List PinP} (hp: ∀ p∈P,∃ r∈R,pinR r=p) (hq: ∀ p∈Q,∃ r∈R,pinR r=p) {pa qa:Option Addr} {pc qc:Nat} (hP:RowE pinE H pa P) (hQ:RowE pinE H qa Q) (hl:P.length≤900) (hl2:Q.length≤900):CallH Tryz.prog 36 [.slice pa P.length pc,.slice qa Q.length qc] H fun u H'=>u= .bool (decide (P=Q))∧Ext H H':=
 hpins_any P Q (fun p hp'=>(h.pinv hp p hp').len) (fun p hp'=>(h.pinv hq p hp').len) pa qa _ _ pc qc H hP hQ rfl rfl (by omega) (by omega)
theorem sortP_nodup {P:List PinP} (h:SortP P):(P.map (·.name)).Nodup:=by
 rw[List.Nodup,List.pairwise_map]
 exact h.imp fun{a b} h e=>by rw[e,Go.Tre.lt_irrefl]at h;cases h
theorem RegO.few {H:Heap} {R:List RowP} {N:List NeedP} {ra na:Option Addr} {rc nc:Nat} (h:RegO H R N ra rc na nc) {P:List PinP} (hs:SortP P) (hr: ∀ p∈P,∃ r∈R,pinR r=p):P.length≤19:=by
 have h1:=nodup_len (sortP_nodup hs) (l:=R.map (·.name)) fun k hk=>by
  obtain⟨p,hp,e⟩:=List.mem_map.1 hk
  obtain⟨r,hrm,e2⟩:=hr p hp
  exact List.mem_map.2 ⟨r,hrm,by rw[←e,←e2];rfl⟩
 rw[List.length_map,List.length_map]at h1
 have:=h.len
 omega
theorem some_any (L:List RowI) (a:Option Addr) (n cap:Nat) (H:Heap) (hr:RowE rinE H a L) (hn:L.length=n):CallH Tryz.prog 34 [.slice a n cap] H fun v H'=>v= .bool (lightI L 12)∧H=H':=by
 refine Vc.CallH.body Tryz.func34 Tryz.call34 rfl (by decide+kernel) rfl ?_
 ((conv=>whnf);repeat(any_goals((first|(refine(light_any L a n cap 12 H hr hn (by decide)).mono ?_;rintro _ _ ⟨rfl,rfl⟩)|refine Vc.stp ?_)<;>(intros;(conv=>whnf)))))
 exact⟨rfl,rfl⟩
theorem reg_made {H:Heap} (hg:Glb H) {L:List RowI} (hl4: ∀ r∈L,r.needs.length≤4) {la:Option Addr} {ln lc:Nat} (hL:RowE rinE H la L) (hLn:L.length=ln) (hl:ln≤19):CallH Tryz.prog 19 [.slice la ln lc] H fun v H'=>(∃ R ra rc aa an ac s,v= .tuple #[.slice ra (List.length R) rc,.slice aa an ac,.string s]∧MadeOk R∧R.length≤19∧RowE rowE H' ra R∧R.length≤rc)∧Ext H H':=by
 refine(smade_any L hl4 la ln lc H hL hLn (by omega)).mono ?_
 rintro _ H2 ⟨⟨S,ra,rc,ga,gn,gc,st,hS,rfl,hR,hRc⟩,hx2⟩
 have hMl:=madeF_len (L.zip S)
 rw[List.length_zip]at hMl
 exact⟨⟨_,ra,rc,ga,gn,gc,st,rfl,madeF_ok (L.zip S) (fun x hx=>hl4 x.1 (List.of_mem_zip hx).1),by omega,hR,hRc⟩,hx2⟩
set_option maxHeartbeats 4000000 in
theorem greatest_any {H:Heap} (hg:Glb H) (L:List RowI) (la:Option Addr) (ln lc:Nat) (hL:RowE rinE H la L) (hLn:L.length=ln) (W:List Nat) (wa:Option Addr) (wn wc:Nat) (hW:Row H wa (intsV .u16 W)) (hWn:W.length=wn) (hW16: ∀ x∈W,x<65536):
  CallH Tryz.prog 8 [.slice la ln lc,.slice wa wn wc] H fun v H'=>v= .bool true∧Ext H H':=by
 refine Vc.CallH.body Tryz.func8 Tryz.call8 rfl (by decide+kernel) rfl ?_
 cases hlt:lightI L 12 with
 |false=>
  ((conv=>whnf);repeat(any_goals((first|((fail_if_success (have:=hx1));show Go.Vc.CallH _ _ _ _ _;refine(known15_any hg).mono ?_;rintro _ H1 ⟨rfl,hx1⟩;have hz1:=hx1.size)|((fail_if_success (have:=hlq));show Go.Vc.CallH _ _ _ _ _;refine(some_any L la ln lc H1 (hL.ext rin_ok hx1) hLn).mono ?_;have hlq:=hlt;rintro _ _ ⟨rfl,rfl⟩;rw[hlt])|refine Vc.stp ?_)<;>(intros;(conv=>whnf)))))
  exact⟨rfl,hx1⟩
 |true=>
 obtain⟨hl20,hl4⟩:=(lightI_iff L 12).1 hlt
 by_cases h6:wn≤4
 ·((conv=>whnf);repeat(any_goals((first|((fail_if_success (have:=hx1));show Go.Vc.CallH _ _ _ _ _;refine(known15_any hg).mono ?_;rintro _ H1 ⟨rfl,hx1⟩;have hz1:=hx1.size)|((fail_if_success (have:=hlq));show Go.Vc.CallH _ _ _ _ _;refine(some_any L la ln lc H1 (hL.ext rin_ok hx1) hLn).mono ?_;have hlq:=hlt;rintro _ _ ⟨rfl,rfl⟩;rw[hlt])|(refine(reg_made (hg.ext hx1) hl4 (hL.ext rin_ok hx1) hLn (by omega)).mono ?_;rintro _ H2 ⟨⟨R,ra,rc,ga,gn,gc,st,rfl,hMok,hRl,hR,hRc⟩,hx2⟩;have hz2:=hx2.size)|(refine(sneeds_any W hW16 wa wn wc H2 (hW.ext (hx1.trans hx2)) hWn (by omega)).mono ?_;rintro _ H3 ⟨⟨na,nc,rfl,hNo⟩,hx3⟩;have hz3:=hx3.size)|refine Vc.stp ?_)<;>(intros;(conv=>whnf)))))
  have hnl:=needsM_len W
  have hnb:=needs_b (L:=W)
  have hO:RegO H3 R (needsM W) ra rc na nc:=⟨hg.ext (hx1.trans (hx2.trans hx3)),hMok,hRl,by omega,hnb,hR.ext row_ok hx3,hNo.rowL.to fun _ _=>needT_E,hNo.cap_le⟩
  obtain⟨N,hN⟩: ∃ N,needsM W=N:=⟨_,rfl⟩
  rw[hN]at hO ⊢
  have hx03:=hx1.trans (hx2.trans hx3)
  refine(hO.solve 1048576).mono ?_
  rintro _ H4 ⟨hs4,hx4⟩
  have hz4:=hx4.size
  rcases solveR_big hMok (by omega) hs4 with ⟨P,pa,pc,rfl,hpc,hsol,hP4⟩|⟨rfl,hsol⟩
  ·have hfit:FitP R N P:=hsol.fit
   have hPl:=hO.few hfit.sorted hfit.row
   ((conv=>whnf);repeat(any_goals((first|(refine(hO.ext hx4).rsolve.mono ?_;rintro _ H5 ⟨⟨o,ho,hso⟩,hx5⟩;have hz5:=hx5.size;obtain rfl:=solves_one hsol hso;obtain⟨qa,qn,qc,rfl,rfl,hqc,hQ⟩:=ho)|refine Vc.stp ?_)<;>(intros;(conv=>whnf)))))
   have hdd:decide (P=P)=true:=decide_eq_true rfl
   ((conv=>whnf);repeat(any_goals((first|((fail_if_success (have:=hx6));show Go.Vc.CallH _ _ _ _ _;refine((hO.ext (hx4.trans hx5)).pins hfit.row hfit.row (hP4.ext pin_ok hx5) hQ (by omega) (by omega)).mono ?_;rintro _ H6 ⟨rfl,hx6⟩;have hz6:=hx6.size;rw[hdd])|((fail_if_success (have:=hx7));show Go.Vc.CallH _ _ _ _ _;refine((hO.ext (hx4.trans (hx5.trans hx6))).fits hfit.sorted hfit.row (hP4.ext pin_ok (hx5.trans hx6)) (by omega)).mono ?_;rintro _ H7 ⟨⟨b,rfl,hb⟩,hx7⟩;obtain rfl:b=true:=hb.2 hfit)|refine Vc.stp ?_)<;>(intros;(conv=>whnf)))))
   exact⟨rfl,hx03.trans (hx4.trans (hx5.trans (hx6.trans hx7)))⟩
  ·((conv=>whnf);repeat(any_goals((first|(refine(hO.ext hx4).rsolve.mono ?_;rintro _ H5 ⟨⟨o,ho,hso⟩,hx5⟩;have hz5:=hx5.size;obtain rfl:=solves_one hsol hso;obtain rfl:=ho)|refine Vc.stp ?_)<;>(intros;(conv=>whnf)))))
   have hdd:decide (([]:List PinP)=[])=true:=rfl
   ((conv=>whnf);repeat(any_goals((first|((fail_if_success (have:=hx6));show Go.Vc.CallH _ _ _ _ _;refine((hO.ext (hx4.trans hx5)).pins (P:=[]) (Q:=[]) (fun p hp=>(by cases hp)) (fun p hp=>(by cases hp)) (RowE.nil _ _ _) (RowE.nil _ _ _) (by decide) (by decide)).mono ?_;rintro _ H6 ⟨rfl,hx6⟩;have hz6:=hx6.size;rw[hdd])|refine Vc.stp ?_)<;>(intros;(conv=>whnf)))))
   exact⟨rfl,hx03.trans (hx4.trans (hx5.trans hx6))⟩
 ·((conv=>whnf);repeat(any_goals((first|((fail_if_success (have:=hx1));show Go.Vc.CallH _ _ _ _ _;refine(known15_any hg).mono ?_;rintro _ H1 ⟨rfl,hx1⟩;have hz1:=hx1.size)|((fail_if_success (have:=hlq));show Go.Vc.CallH _ _ _ _ _;refine(some_any L la ln lc H1 (hL.ext rin_ok hx1) hLn).mono ?_;have hlq:=hlt;rintro _ _ ⟨rfl,rfl⟩;rw[hlt])|refine Vc.stp ?_|refine Vc.spl ?_ ?_)<;>(intros;(conv=>whnf)))))
  all_goals exact⟨rfl,hx1⟩
end Go.Proofs.YtjdieklgoepdjaaGreatDoor
