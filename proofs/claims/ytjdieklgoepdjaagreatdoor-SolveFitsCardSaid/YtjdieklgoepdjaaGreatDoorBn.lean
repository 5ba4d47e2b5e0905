import Derived.Test.YtjdieklgoepdjaaGreatDoorKq
import Derived.Test.YtjdieklgoepdjaaGreatDoorKm
import Derived.Test.YtjdieklgoepdjaaGreatDoorKk
set_option linter.unusedVariables false
set_option linter.unusedSimpArgs false
set_option maxRecDepth 100000
/- SolveFits: which pins fit, which are better, is what the document says. -/
namespace Go.Proofs.YtjdieklgoepdjaaGreatDoor
open Go Go.Vc Go.Scr Go.Slv
theorem bool_iff {a b:Bool} {p:Prop} (ha:a=true↔p) (hb:b=true↔p):a=b:=by
 rw[Bool.eq_iff_iff,ha,hb]
set_option maxHeartbeats 4000000 in
theorem fitsL_any {H:Heap} (hg:Glb H) (L:List RowI) (la:Option Addr) (ln lc:Nat) (hL:RowE rinE H la L) (hLn:L.length=ln) (W:List Nat) (wa:Option Addr) (wn wc:Nat) (hW:Row H wa (intsV .u16 W)) (hWn:W.length=wn) (hW16: ∀ x∈W,x<65536) (A:List Nat) (aa:Option Addr) (an ac:Nat) (hA:Row H aa (intsV .u8 A)) (hAn:A.length=an) (hA8: ∀ x∈A,x<256) (B:List Nat) (ba:Option Addr) (bn bc:Nat) (hB:Row H ba (intsV .u8 B)) (hBn:B.length=bn) (hB8: ∀ x∈B,x<256):
  CallH Tryz.prog 9 [.slice la ln lc,.slice wa wn wc,.slice aa an ac,.slice ba bn bc] H fun v H'=>v= .bool true∧Ext H H':=by
 refine Vc.CallH.body Tryz.func9 Tryz.call9 rfl (by decide+kernel) rfl ?_
 cases hlt:lightI L 20 with
 |false=>
  ((conv=>whnf);repeat(any_goals((first|((fail_if_success (have:=hx1));show Go.Vc.CallH _ _ _ _ _;refine(known15_any hg).mono ?_;rintro _ H1 ⟨rfl,hx1⟩;have hz1:=hx1.size)|((fail_if_success (have:=hlq));show Go.Vc.CallH _ _ _ _ _;refine(light_any L la ln lc 20 H1 (hL.ext rin_ok hx1) hLn (by decide)).mono ?_;have hlq:=hlt;rintro _ _ ⟨rfl,rfl⟩;rw[hlt])|refine Vc.stp ?_)<;>(intros;(conv=>whnf)))))
  exact⟨rfl,hx1⟩
 |true=>
 obtain⟨hl20,hl4⟩:=(lightI_iff L 20).1 hlt
 by_cases h6:wn≤6∧an≤6∧bn≤6
 ·obtain⟨h6w,h6a,h6b⟩:=h6
  ((conv=>whnf);repeat(any_goals((first|((fail_if_success (have:=hx1));show Go.Vc.CallH _ _ _ _ _;refine(known15_any hg).mono ?_;rintro _ H1 ⟨rfl,hx1⟩;have hz1:=hx1.size)|((fail_if_success (have:=hlq));show Go.Vc.CallH _ _ _ _ _;refine(light_any L la ln lc 20 H1 (hL.ext rin_ok hx1) hLn (by decide)).mono ?_;have hlq:=hlt;rintro _ _ ⟨rfl,rfl⟩;rw[hlt])|refine Vc.stp ?_)<;>(intros;(conv=>whnf)))))
  refine(smade_any L hl4 la ln lc H1 (hL.ext rin_ok hx1) hLn (by omega)).mono ?_
  rintro _ H2 ⟨⟨S,ra,rc,ga,gn,gc,st,hS,rfl,hR,hRc⟩,hx2⟩
  have hz2:=hx2.size
  have hMok:=madeF_ok (L.zip S) (fun x hx=>hl4 x.1 (List.of_mem_zip hx).1)
  have hMl:=madeF_len (L.zip S)
  rw[List.length_zip]at hMl
  obtain⟨R,hRe⟩: ∃ R,madeF (L.zip S)=R:=⟨_,rfl⟩
  rw[hRe]at hR hRc hMok hMl ⊢
  have hRl:R.length≤20:=by omega
  have hB':=made_bounds hMok
  have hx02:=hx1.trans hx2
  have hnd:=sneeds_any W hW16 wa wn wc H2 (hW.ext hx02) hWn (by omega)
  have hnl:=needsM_len W
  have hnb:=needs_b (L:=W)
  obtain⟨N,hN⟩: ∃ N,needsM W=N:=⟨_,rfl⟩
  rw[hN]at hnd hnl hnb
  have hpk:=fun(Q:List Nat) (h8: ∀ x∈Q,x<256) qa qn qc (hQ:Row H qa (intsV .u8 Q)) (hn:Q.length=qn) (h6:qn≤6) H3 (k:Ext H2 H3)=>picked_any R hMok.apart hB' Q h8 ra qa R.length rc qn qc H3 (hR.ext row_ok k) rfl (by omega) (hQ.ext (hx02.trans k)) hn (by omega)
  have hXs:=pick_sort R A A.length
  have hYs:=pick_sort R B B.length
  obtain⟨X,hX⟩: ∃ X,pickF R A A.length=X:=⟨_,rfl⟩
  obtain⟨Y,hY⟩: ∃ Y,pickF R B B.length=Y:=⟨_,rfl⟩
  rw[hX]at hXs
  rw[hY]at hYs
  have hXr: ∀ p∈X,∃ r∈R,pinR r=p:=fun p hp=>pick_all (by rw[hX];exact hp)
  have hYr: ∀ p∈Y,∃ r∈R,pinR r=p:=fun p hp=>pick_all (by rw[hY];exact hp)
  have hv: ∀ P:List PinP,(∀ p∈P,∃ r∈R,pinR r=p)→ ∀ p∈P,VerB p.v:=fun P h p hp=>by
   obtain⟨r,hr,rfl⟩:=h p hp
   exact rows_ver hB' r hr
  have hXl:X.length≤6:=by have:=pick_len R A A.length;rw[hX]at this;omega
  have hYl:Y.length≤6:=by have:=pick_len R B B.length;rw[hY]at this;omega
  ((conv=>whnf);repeat(any_goals((first|((fail_if_success (have:=hx3));show Go.Vc.CallH _ _ _ _ _;refine hnd.mono ?_;rintro _ H3 ⟨⟨na,nc,rfl,hNo⟩,hx3⟩;have hz3:=hx3.size)|((fail_if_success (have:=hx4));show Go.Vc.CallH _ _ _ _ _;refine(hpk A hA8 aa an ac hA hAn h6a H3 hx3).mono ?_;rw[hX];rintro _ H4 ⟨⟨xa,xc,rfl,hXe,hXc⟩,hx4⟩;have hz4:=hx4.size)|((fail_if_success (have:=hx5));show Go.Vc.CallH _ _ _ _ _;refine(hpk B hB8 ba bn bc hB hBn h6b H4 (hx3.trans hx4)).mono ?_;rw[hY];rintro _ H5 ⟨⟨ya,yc,rfl,hYe,hYc⟩,hx5⟩;have hz5:=hx5.size)|refine Vc.stp ?_)<;>(intros;(conv=>whnf)))))
  have hXe5:=hXe.ext pin_ok hx5
  have hN5:=(hNo.rowL.to fun _ _=>needT_E).ext need_ok (hx4.trans hx5)
  have hR5:=hR.ext row_ok (hx3.trans (hx4.trans hx5))
  have hncl:=hNo.cap_le
  have hx05:=And.intro trivial (hx02.trans (hx3.trans (hx4.trans hx5)))
  have hg5:=hg.ext hx05.2
  have hsf:=fun(P:List PinP) (hs:SortP P) (hPr: ∀ p∈P,∃ r∈R,pinR r=p) pa pc H6 (k:Ext H5 H6) (hP:RowE pinE H5 pa P) (hl:P.length≤6)=>sfits_any R hMok.apart hB' (by omega) N hnb P hs hPr ra na pa rc N.length nc P.length pc H6 (hg5.ext k) (hR5.ext row_ok k) (hN5.ext need_ok k) (hP.ext pin_ok k) rfl rfl (by omega) (by omega)
  have hrf:=fun(P:List PinP) (hs:SortP P) (hPr: ∀ p∈P,∃ r∈R,pinR r=p) pa pc H6 (k:Ext H5 H6) (hP:RowE pinE H5 pa P) (hl:P.length≤6)=>rfits_any R hMok.apart hB' N hnb P hs hPr ra na pa R.length rc N.length nc P.length pc H6 (hR5.ext row_ok k) (hN5.ext need_ok k) (hP.ext pin_ok k) rfl rfl rfl (by omega) (by omega) (by omega) hncl
  have hsb:=fun(P Q:List PinP) (hPr: ∀ p∈P,∃ r∈R,pinR r=p) (hQr: ∀ p∈Q,∃ r∈R,pinR r=p) pa qa pc qc H6 (k:Ext H5 H6) (hP:RowE pinE H5 pa P) (hQ:RowE pinE H5 qa Q) (hl:P.length≤6) (hl2:Q.length≤6)=>sbetter_any P Q (hv P hPr) (hv Q hQr) pa qa P.length Q.length pc qc H6 (hP.ext pin_ok k) (hQ.ext pin_ok k) rfl rfl (by omega) (by omega)
  have hrb:=fun(P Q:List PinP) (hPr: ∀ p∈P,∃ r∈R,pinR r=p) (hQr: ∀ p∈Q,∃ r∈R,pinR r=p) pa qa pc qc H6 (k:Ext H5 H6) (hP:RowE pinE H5 pa P) (hQ:RowE pinE H5 qa Q) (hl:P.length≤6) (hl2:Q.length≤6)=>rbetter_any P Q (hv P hPr) (hv Q hQr) pa qa P.length Q.length pc qc H6 (hP.ext pin_ok k) (hQ.ext pin_ok k) rfl rfl (by omega) (by omega)
  obtain⟨b1,hb1⟩: ∃ b1,betterP X Y=b1:=⟨_,rfl⟩
  obtain⟨b2,hb2⟩: ∃ b2,betterP Y X=b2:=⟨_,rfl⟩
  have hq3:(b1==b1)=true:=beq_self_eq_true _
  have hq4:(b2==b2)=true:=beq_self_eq_true _
  ((conv=>whnf);repeat(any_goals((first|((fail_if_success (have:=hxa));show Go.Vc.CallH _ _ _ _ _;refine(hsf X hXs hXr xa xc H5 (Ext.refl _) hXe5 hXl).mono ?_;rintro _ Ha ⟨⟨f1,rfl,hf1⟩,hxa⟩;have hza:=hxa.size)|((fail_if_success (have:=hxb));show Go.Vc.CallH _ _ _ _ _;refine(hrf X hXs hXr xa xc Ha hxa hXe5 hXl).mono ?_;rintro _ Hb ⟨⟨f2,rfl,hf2⟩,hxb⟩;have hzb:=hxb.size;obtain rfl:=bool_iff hf1 hf2;have hq1:(f1==f1)=true:=beq_self_eq_true _)|((fail_if_success (have:=hxc));show Go.Vc.CallH _ _ _ _ _;refine(hsf Y hYs hYr ya yc Hb (hxa.trans hxb) hYe hYl).mono ?_;rintro _ Hc ⟨⟨f3,rfl,hf3⟩,hxc⟩;have hzc:=hxc.size)|((fail_if_success (have:=hxd));show Go.Vc.CallH _ _ _ _ _;refine(hrf Y hYs hYr ya yc Hc (hxa.trans (hxb.trans hxc)) hYe hYl).mono ?_;rintro _ Hd ⟨⟨f4,rfl,hf4⟩,hxd⟩;have hzd:=hxd.size;obtain rfl:=bool_iff hf3 hf4;have hq2:(f3==f3)=true:=beq_self_eq_true _)|((fail_if_success (have:=hxe));show Go.Vc.CallH _ _ _ _ _;refine(hsb X Y hXr hYr xa ya xc yc Hd (hxa.trans (hxb.trans (hxc.trans hxd))) hXe5 hYe hXl hYl).mono ?_;rintro _ He ⟨rfl,hxe⟩;have hze:=hxe.size;rw[hb1])|((fail_if_success (have:=hxf));show Go.Vc.CallH _ _ _ _ _;refine(hrb X Y hXr hYr xa ya xc yc He (hxa.trans (hxb.trans (hxc.trans (hxd.trans hxe)))) hXe5 hYe hXl hYl).mono ?_;rintro _ Hf ⟨rfl,hxf⟩;have hzf:=hxf.size;rw[hb1])|((fail_if_success (have:=hxg));show Go.Vc.CallH _ _ _ _ _;refine(hsb Y X hYr hXr ya xa yc xc Hf (hxa.trans (hxb.trans (hxc.trans (hxd.trans (hxe.trans hxf))))) hYe hXe5 hYl hXl).mono ?_;rintro _ Hg ⟨rfl,hxg⟩;have hzg:=hxg.size;rw[hb2])|((fail_if_success (have:=hxh));show Go.Vc.CallH _ _ _ _ _;refine(hrb Y X hYr hXr ya xa yc xc Hg (hxa.trans (hxb.trans (hxc.trans (hxd.trans (hxe.trans (hxf.trans hxg)))))) hYe hXe5 hYl hXl).mono ?_;rintro _ Hh ⟨rfl,hxh⟩;have hzh:=hxh.size;rw[hb2])|refine Vc.stp ?_)<;>(intros;(conv=>whnf)))))
  exact⟨by rw[hq4];rfl,hx05.2.trans (by exact Vc.xt)⟩
 ·((conv=>whnf);repeat(any_goals((first|((fail_if_success (have:=hx1));show Go.Vc.CallH _ _ _ _ _;refine(known15_any hg).mono ?_;rintro _ H1 ⟨rfl,hx1⟩;have hz1:=hx1.size)|((fail_if_success (have:=hlq));show Go.Vc.CallH _ _ _ _ _;refine(light_any L la ln lc 20 H1 (hL.ext rin_ok hx1) hLn (by decide)).mono ?_;have hlq:=hlt;rintro _ _ ⟨rfl,rfl⟩;rw[hlt])|refine Vc.stp ?_|refine Vc.spl ?_ ?_)<;>(intros;(conv=>whnf)))))
  all_goals exact⟨rfl,hx1⟩
end Go.Proofs.YtjdieklgoepdjaaGreatDoor
