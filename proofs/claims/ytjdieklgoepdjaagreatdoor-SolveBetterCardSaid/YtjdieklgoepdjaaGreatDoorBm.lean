import Derived.Test.YtjdieklgoepdjaaGreatDoorKm
set_option linter.unusedVariables false
set_option linter.unusedSimpArgs false
set_option maxRecDepth 100000
/- SolveBetter: of two choices one is better, or they are alike; better goes on over a third. -/
namespace Go.Proofs.YtjdieklgoepdjaaGreatDoor
open Go Go.Vc Go.Scr Go.Slv
set_option maxHeartbeats 4000000 in
theorem better_any {H:Heap} (hg:Glb H) (L:List RowI) (la:Option Addr) (ln lc:Nat) (hL:RowE rinE H la L) (hLn:L.length=ln) (A:List Nat) (aa:Option Addr) (an ac:Nat) (hA:Row H aa (intsV .u8 A)) (hAn:A.length=an) (hA8: ∀ x∈A,x<256) (B:List Nat) (ba:Option Addr) (bn bc:Nat) (hB:Row H ba (intsV .u8 B)) (hBn:B.length=bn) (hB8: ∀ x∈B,x<256) (C:List Nat) (ca:Option Addr) (cn cc:Nat) (hC:Row H ca (intsV .u8 C)) (hCn:C.length=cn) (hC8: ∀ x∈C,x<256):
  CallH Tryz.prog 16 [.slice la ln lc,.slice aa an ac,.slice ba bn bc,.slice ca cn cc] H fun v H'=>v= .bool true∧Ext H H':=by
 refine Vc.CallH.body Tryz.func16 Tryz.call16 rfl (by decide+kernel) rfl ?_
 cases hlt:lightI L 20 with
 |false=>
  ((conv=>whnf);repeat(any_goals((first|((fail_if_success (have:=hx1));show Go.Vc.CallH _ _ _ _ _;refine(known15_any hg).mono ?_;rintro _ H1 ⟨rfl,hx1⟩;have hz1:=hx1.size)|((fail_if_success (have:=hlq));show Go.Vc.CallH _ _ _ _ _;refine(light_any L la ln lc 20 H1 (hL.ext rin_ok hx1) hLn (by decide)).mono ?_;have hlq:=hlt;rintro _ _ ⟨rfl,rfl⟩;rw[hlt])|refine Vc.stp ?_)<;>(intros;(conv=>whnf)))))
  exact⟨rfl,hx1⟩
 |true=>
 obtain⟨hl20,hl4⟩:=(lightI_iff L 20).1 hlt
 by_cases h6:an≤6∧bn≤6∧cn≤6
 ·obtain⟨h6a,h6b,h6c⟩:=h6
  ((conv=>whnf);repeat(any_goals((first|((fail_if_success (have:=hx1));show Go.Vc.CallH _ _ _ _ _;refine(known15_any hg).mono ?_;rintro _ H1 ⟨rfl,hx1⟩;have hz1:=hx1.size)|((fail_if_success (have:=hlq));show Go.Vc.CallH _ _ _ _ _;refine(light_any L la ln lc 20 H1 (hL.ext rin_ok hx1) hLn (by decide)).mono ?_;have hlq:=hlt;rintro _ _ ⟨rfl,rfl⟩;rw[hlt])|refine Vc.stp ?_)<;>(intros;(conv=>whnf)))))
  refine(smade_any L hl4 la ln lc H1 (hL.ext rin_ok hx1) hLn (by omega)).mono ?_
  rintro _ H2 ⟨⟨S,ra,rc,ga,gn,gc,st,hS,rfl,hR,hRc⟩,hx2⟩
  have hz2:=hx2.size
  have hMok:=madeF_ok (L.zip S) (fun x hx=>hl4 x.1 (List.of_mem_zip hx).1)
  have hMl:=madeF_len (L.zip S)
  rw[List.length_zip]at hMl
  obtain⟨R,hRe⟩: ∃ R,madeF (L.zip S)=R:=⟨_,rfl⟩
  rw[hRe]at hR hRc hMok hMl ⊢
  have hRl:R.length≤20:=by omega
  have hB':=made_bounds hMok
  have hx02:=hx1.trans hx2
  have hpk:=fun(Q:List Nat) (h8: ∀ x∈Q,x<256) qa qn qc (hQ:Row H qa (intsV .u8 Q)) (hn:Q.length=qn) (h6:qn≤6) H3 (k:Ext H2 H3)=>picked_any R hMok.apart hB' Q h8 ra qa R.length rc qn qc H3 (hR.ext row_ok k) rfl (by omega) (hQ.ext (hx02.trans k)) hn (by omega)
  obtain⟨X,hX⟩: ∃ X,pickF R A A.length=X:=⟨_,rfl⟩
  obtain⟨Y,hY⟩: ∃ Y,pickF R B B.length=Y:=⟨_,rfl⟩
  obtain⟨Z,hZ⟩: ∃ Z,pickF R C C.length=Z:=⟨_,rfl⟩
  have hXr: ∀ p∈X,∃ r∈R,pinR r=p:=fun p hp=>pick_all (by rw[hX];exact hp)
  have hYr: ∀ p∈Y,∃ r∈R,pinR r=p:=fun p hp=>pick_all (by rw[hY];exact hp)
  have hZr: ∀ p∈Z,∃ r∈R,pinR r=p:=fun p hp=>pick_all (by rw[hZ];exact hp)
  have hv: ∀ P:List PinP,(∀ p∈P,∃ r∈R,pinR r=p)→ ∀ p∈P,VerB p.v:=fun P h p hp=>by
   obtain⟨r,hr,rfl⟩:=h p hp
   exact rows_ver hB' r hr
  have hXl:X.length≤6:=by have:=pick_len R A A.length;rw[hX]at this;omega
  have hYl:Y.length≤6:=by have:=pick_len R B B.length;rw[hY]at this;omega
  have hZl:Z.length≤6:=by have:=pick_len R C C.length;rw[hZ]at this;omega
  ((conv=>whnf);repeat(any_goals((first|((fail_if_success (have:=hx3));show Go.Vc.CallH _ _ _ _ _;refine(hpk A hA8 aa an ac hA hAn h6a H2 (Ext.refl _)).mono ?_;rw[hX];rintro _ H3 ⟨⟨xa,xc,rfl,hXe,hXc⟩,hx3⟩;have hz3:=hx3.size)|((fail_if_success (have:=hx4));show Go.Vc.CallH _ _ _ _ _;refine(hpk B hB8 ba bn bc hB hBn h6b H3 hx3).mono ?_;rw[hY];rintro _ H4 ⟨⟨ya,yc,rfl,hYe,hYc⟩,hx4⟩;have hz4:=hx4.size)|((fail_if_success (have:=hx5));show Go.Vc.CallH _ _ _ _ _;refine(hpk C hC8 ca cn cc hC hCn h6c H4 (hx3.trans hx4)).mono ?_;rw[hZ];rintro _ H5 ⟨⟨za,zc,rfl,hZe,hZc⟩,hx5⟩;have hz5:=hx5.size)|refine Vc.stp ?_)<;>(intros;(conv=>whnf)))))
  have hXe5:=hXe.ext pin_ok (hx4.trans hx5)
  have hYe5:=hYe.ext pin_ok hx5
  have hx05:=And.intro trivial (hx02.trans (hx3.trans (hx4.trans hx5)))
  have hbt:=fun(P Q:List PinP) (hPr: ∀ p∈P,∃ r∈R,pinR r=p) (hQr: ∀ p∈Q,∃ r∈R,pinR r=p) pa qa pc qc H6 (k:Ext H5 H6) (hP:RowE pinE H5 pa P) (hQ:RowE pinE H5 qa Q) (hl:P.length≤6) (hl2:Q.length≤6)=>sbetter_any P Q (hv P hPr) (hv Q hQr) pa qa P.length Q.length pc qc H6 (hP.ext pin_ok k) (hQ.ext pin_ok k) rfl rfl (by omega) (by omega)
  have hpr: ∀ P:List PinP,(∀ p∈P,∃ r∈R,pinR r=p)→ ∀ p∈P,p.v.pre.length≤1000000000:=fun P h p hp=>(hv P h p hp).len
  cases hp:betterP X Y with
  |true=>
   have hq:=better_asymm hp
   cases hr:betterP Y Z with
   |true=>
    have ht:=better_trans hp hr
    ((conv=>whnf);repeat(any_goals((first|((fail_if_success (have:=hx6));show Go.Vc.CallH _ _ _ _ _;refine(hbt X Y hXr hYr xa ya xc yc H5 (Ext.refl _) hXe5 hYe5 hXl hYl).mono ?_;rintro _ H6 ⟨rfl,hx6⟩;have hz6:=hx6.size;rw[hp])|((fail_if_success (have:=hx7));show Go.Vc.CallH _ _ _ _ _;refine(hbt Y X hYr hXr ya xa yc xc H6 hx6 hYe5 hXe5 hYl hXl).mono ?_;rintro _ H7 ⟨rfl,hx7⟩;have hz7:=hx7.size;rw[hq])|((fail_if_success (have:=hx9));show Go.Vc.CallH _ _ _ _ _;refine(hbt Y Z hYr hZr ya za yc zc H7 (hx6.trans hx7) hYe5 hZe hYl hZl).mono ?_;rintro _ H9 ⟨rfl,hx9⟩;have hz9:=hx9.size;rw[hr])|((fail_if_success (have:=hx10));show Go.Vc.CallH _ _ _ _ _;refine(hbt X Z hXr hZr xa za xc zc H9 (hx6.trans (hx7.trans hx9)) hXe5 hZe hXl hZl).mono ?_;rintro _ H10 ⟨rfl,hx10⟩;have hz10:=hx10.size;rw[ht])|refine Vc.stp ?_)<;>(intros;(conv=>whnf)))))
    exact⟨rfl,hx05.2.trans (by exact Vc.xt)⟩
   |false=>
    ((conv=>whnf);repeat(any_goals((first|((fail_if_success (have:=hx6));show Go.Vc.CallH _ _ _ _ _;refine(hbt X Y hXr hYr xa ya xc yc H5 (Ext.refl _) hXe5 hYe5 hXl hYl).mono ?_;rintro _ H6 ⟨rfl,hx6⟩;have hz6:=hx6.size;rw[hp])|((fail_if_success (have:=hx7));show Go.Vc.CallH _ _ _ _ _;refine(hbt Y X hYr hXr ya xa yc xc H6 hx6 hYe5 hXe5 hYl hXl).mono ?_;rintro _ H7 ⟨rfl,hx7⟩;have hz7:=hx7.size;rw[hq])|((fail_if_success (have:=hx9));show Go.Vc.CallH _ _ _ _ _;refine(hbt Y Z hYr hZr ya za yc zc H7 (hx6.trans hx7) hYe5 hZe hYl hZl).mono ?_;rintro _ H9 ⟨rfl,hx9⟩;have hz9:=hx9.size;rw[hr])|refine Vc.stp ?_)<;>(intros;(conv=>whnf)))))
    exact⟨rfl,hx05.2.trans (by exact Vc.xt)⟩
  |false=>
   cases hq:betterP Y X with
   |true=>
    have hd:decide (X=Y)=false:=decide_eq_false fun e=>by rw[e,better_irrefl]at hq;cases hq
    ((conv=>whnf);repeat(any_goals((first|((fail_if_success (have:=hx6));show Go.Vc.CallH _ _ _ _ _;refine(hbt X Y hXr hYr xa ya xc yc H5 (Ext.refl _) hXe5 hYe5 hXl hYl).mono ?_;rintro _ H6 ⟨rfl,hx6⟩;have hz6:=hx6.size;rw[hp])|((fail_if_success (have:=hx7));show Go.Vc.CallH _ _ _ _ _;refine(hbt Y X hYr hXr ya xa yc xc H6 hx6 hYe5 hXe5 hYl hXl).mono ?_;rintro _ H7 ⟨rfl,hx7⟩;have hz7:=hx7.size;rw[hq])|((fail_if_success (have:=hx8));show Go.Vc.CallH _ _ _ _ _;refine(hpins_any X Y (hpr X hXr) (hpr Y hYr) xa ya X.length Y.length xc yc H7 (hXe5.ext pin_ok (hx6.trans hx7)) (hYe5.ext pin_ok (hx6.trans hx7)) rfl rfl (by omega) (by omega)).mono ?_;rintro _ H8 ⟨rfl,hx8⟩;have hz8:=hx8.size;rw[hd])|refine Vc.stp ?_)<;>(intros;(conv=>whnf)))))
    exact⟨rfl,hx05.2.trans (by exact Vc.xt)⟩
   |false=>
    have hd:decide (X=Y)=true:=decide_eq_true (better_law hMok.apart hXr hYr hp hq)
    ((conv=>whnf);repeat(any_goals((first|((fail_if_success (have:=hx6));show Go.Vc.CallH _ _ _ _ _;refine(hbt X Y hXr hYr xa ya xc yc H5 (Ext.refl _) hXe5 hYe5 hXl hYl).mono ?_;rintro _ H6 ⟨rfl,hx6⟩;have hz6:=hx6.size;rw[hp])|((fail_if_success (have:=hx7));show Go.Vc.CallH _ _ _ _ _;refine(hbt Y X hYr hXr ya xa yc xc H6 hx6 hYe5 hXe5 hYl hXl).mono ?_;rintro _ H7 ⟨rfl,hx7⟩;have hz7:=hx7.size;rw[hq])|((fail_if_success (have:=hx8));show Go.Vc.CallH _ _ _ _ _;refine(hpins_any X Y (hpr X hXr) (hpr Y hYr) xa ya X.length Y.length xc yc H7 (hXe5.ext pin_ok (hx6.trans hx7)) (hYe5.ext pin_ok (hx6.trans hx7)) rfl rfl (by omega) (by omega)).mono ?_;rintro _ H8 ⟨rfl,hx8⟩;have hz8:=hx8.size;rw[hd])|refine Vc.stp ?_)<;>(intros;(conv=>whnf)))))
    exact⟨rfl,hx05.2.trans (by exact Vc.xt)⟩
 ·((conv=>whnf);repeat(any_goals((first|((fail_if_success (have:=hx1));show Go.Vc.CallH _ _ _ _ _;refine(known15_any hg).mono ?_;rintro _ H1 ⟨rfl,hx1⟩;have hz1:=hx1.size)|((fail_if_success (have:=hlq));show Go.Vc.CallH _ _ _ _ _;refine(light_any L la ln lc 20 H1 (hL.ext rin_ok hx1) hLn (by decide)).mono ?_;have hlq:=hlt;rintro _ _ ⟨rfl,rfl⟩;rw[hlt])|refine Vc.stp ?_|refine Vc.spl ?_ ?_)<;>(intros;(conv=>whnf)))))
  all_goals exact⟨rfl,hx1⟩
end Go.Proofs.YtjdieklgoepdjaaGreatDoor
