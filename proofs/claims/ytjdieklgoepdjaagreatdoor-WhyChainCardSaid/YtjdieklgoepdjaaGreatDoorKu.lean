import Derived.Test.YtjdieklgoepdjaaGreatDoorKm
import Derived.Test.YtjdieklgoepdjaaGreatDoorKk
import Derived.Test.YtjdieklgoepdjaaGreatDoorKo
import Derived.Test.YtjdieklgoepdjaaGreatDoorKt
import Derived.Test.YtjdieklgoepdjaaGreatDoorKs
import Derived.Test.YtjdieklgoepdjaaGreatDoorKr
set_option linter.unusedVariables false
set_option linter.unusedSimpArgs false
set_option maxRecDepth 100000
/- The laws of solve: a registry in a heap, and what is asked of it. SolveGreatest. -/
namespace Go.Proofs.YtjdieklgoepdjaaGreatDoor
open Go Go.Vc Go.Scr Go.Slv
structure RegO (H:Heap) (R:List RowP) (N:List NeedP) (ra:Option Addr) (rc:Nat) (na:Option Addr) (nc:Nat):Prop where
 glb:Glb H
 ok:MadeOk R
 len:R.length≤19
 nlen:N.length≤10
 nb: ∀ n∈N,SpnB n.span
 row:RowE rowE H ra R
 need:RowE needE H na N
 cap:N.length≤nc
theorem RegO.ext {H H':Heap} {R:List RowP} {N:List NeedP} {ra na:Option Addr} {rc nc:Nat} (h:RegO H R N ra rc na nc) (k:Ext H H'):RegO H' R N ra rc na nc:=⟨h.glb.ext k,h.ok,h.len,h.nlen,h.nb,h.row.ext row_ok k,h.need.ext need_ok k,h.cap⟩
theorem RegO.rsolve {H:Heap} {R:List RowP} {N:List NeedP} {ra na:Option Addr} {rc nc:Nat} (h:RegO H R N ra rc na nc):CallH Tryz.prog 21 [.slice ra R.length rc,.slice na N.length nc,.int .i64 1] H fun x H'=>(∃ o,SolvR H' x o∧Solves R N o)∧Ext H H':=by
 have:=h.nlen
 have:=h.len
 exact rsolve_any R h.ok.apart (made_bounds h.ok) N h.nb ra na R.length rc N.length nc 1 (by decide) H h.row h.need rfl rfl (by omega) (by omega) h.cap
theorem RegO.pinv {H:Heap} {R:List RowP} {N:List NeedP} {ra na:Option Addr} {rc nc:Nat} (h:RegO H R N ra rc na nc) {P:List PinP} (hr: ∀ p∈P,∃ r∈R,pinR r=p): ∀ p∈P,VerB p.v:=fun p hp=>by
 obtain⟨r,hr,rfl⟩:=hr p hp
 exact rows_ver (made_bounds h.ok) r hr
end Go.Proofs.YtjdieklgoepdjaaGreatDoor
namespace Go.Proofs.YtjdieklgoepdjaaGreatDoor
open Go Go.Vc Go.Scr Go.Slv
open Go.Why (SortN FailsR coreF pathF usersF nextN needsP)
theorem RegO.as {H:Heap} {R:List RowP} {N:List NeedP} {ra na:Option Addr} {rc nc:Nat} (h:RegO H R N ra rc na nc) {fails:List NeedP→Bool} (hf:FailsR R fails):SolvesAs R fails N ra rc H:=fun M na' nc' H' k hl hm hr=>by
 refine(solve_small h.ok h.len (by have:=h.nlen;omega) (fun n hn=>h.nb n (hm n hn)) ra rc na' nc' 1048576 H' (h.glb.ext k) (h.row.ext row_ok k) hr).mono ?_
 rintro v H'' ⟨hs,hx⟩
 refine⟨?_,hx⟩
 rcases solveR_big h.ok (by have:=h.len;omega) hs with ⟨P,a,cap,e,_,h2,h3⟩|⟨e,h2⟩
 ·have:fails M=false:=by
   cases e:fails M with
   |false=>rfl
   |true=>exact absurd h2.fit ((hf.iff M).1 e P)
  exact⟨a,_,cap,by rw[this];exact e⟩
 ·have:fails M=true:=(hf.iff M).2 h2
  exact⟨none,0,0,by rw[this];exact e⟩
theorem RegO.core {H:Heap} {R:List RowP} {N:List NeedP} {ra na:Option Addr} {rc nc:Nat} (h:RegO H R N ra rc na nc) (hs:SortN N) {fails:List NeedP→Bool} (hf:FailsR R fails):CallH Tryz.prog 28 [.slice ra R.length rc,.slice na N.length nc] H fun x H'=>(∃ a c,x= .slice a (coreF fails N).length c∧(coreF fails N).length≤c∧Row H' a (strs (coreF fails N)))∧Ext H H':=
 wcore_any R fails hf.nil N hs ra na rc _ nc H (h.as hf) h.need rfl (by have:=h.nlen;omega)
section
variable {H:Heap} {R:List RowP} {N:List NeedP} {ra na pa:Option Addr} {rc nc pc:Nat} {P:List PinP}
theorem RegO.pinB (h:RegO H R N ra rc na nc) (hP:FitP R N P): ∀ p∈P,VerB p.v:=h.pinv hP.row
theorem RegO.path (h:RegO H R N ra rc na nc) (hp: ∀ p∈P,VerB p.v) (hl:P.length≤19) (hE:RowE pinE H pa P) (name:Bs):CallH Tryz.prog 24 [.slice ra R.length rc,.slice na N.length nc,.slice pa P.length pc,.string (mkS name)] H fun x H'=>(∃ a c,x= .slice a (pathF R N P name).length c∧(pathF R N P name).length≤c∧Row H' a (strs (pathF R N P name)))∧Ext H H':=
 wpath_any R (made_bounds h.ok) (by have:=h.len;omega) N P hp name ra na pa _ rc _ nc _ pc H h.row h.need hE rfl rfl (by have:=h.nlen;omega) rfl (by omega)
theorem RegO.users (h:RegO H R N ra rc na nc) (hs:SortP P) (hp: ∀ p∈P,VerB p.v) (hl:P.length≤19) (hE:RowE pinE H pa P) (name:Bs):CallH Tryz.prog 26 [.slice ra R.length rc,.slice na N.length nc,.slice pa P.length pc,.string (mkS name)] H fun x H'=>(∃ a c,x= .slice a (usersF R N P name).length c∧Row H' a (strs (usersF R N P name))∧(usersF R N P name).length≤c)∧Ext H H':=
 wusers_any R (made_bounds h.ok) N P hs hp name ra na pa _ rc _ nc _ pc H h.row h.need hE rfl (by have:=h.len;omega) rfl (by have:=h.nlen;omega) rfl (by omega)
end
end Go.Proofs.YtjdieklgoepdjaaGreatDoor
namespace Go.Proofs.YtjdieklgoepdjaaGreatDoor
open Go Go.Vc Go.Scr Go.Slv
open Go.Why (SortN FailsR coreF pathF usersF kwL kwR kwP)
theorem kwL_row {H:Heap} {g1 g2 g3:Nat} (b1:Blk H g1 #[.int .u16 1] 81) (b2:Blk H g2 #[.int .u16 2] 81) (b3:Blk H g3 #[.int .u8 0,.int .u8 0,.slice (some ⟨g1,0,none⟩) 1 1,.int .u8 0,.int .u8 0,.int .u8 1,.int .u8 1,.slice (some ⟨g2,0,none⟩) 1 1,.int .u8 0,.int .u8 0,.int .u8 2,.int .u8 0,.slice none 0 0,.int .u8 0,.int .u8 0] 83):RowE rinE H (some ⟨g3,0,none⟩) kwL:=by
 refine⟨_,Blk.row (c:=[.int .u8 0,.int .u8 0,.slice (some ⟨g1,0,none⟩) 1 1,.int .u8 0,.int .u8 0]++([.int .u8 1,.int .u8 1,.slice (some ⟨g2,0,none⟩) 1 1,.int .u8 0,.int .u8 0]++[.int .u8 2,.int .u8 0,.slice none 0 0,.int .u8 0,.int .u8 0])) b3,?_⟩
 have hB: ∀ x∈kwL,RowIB x:=by
  intro x hx
  simp only[kwL,List.mem_cons,List.not_mem_nil,or_false]at hx
  rcases hx with rfl|rfl|rfl<;>constructor<;>simp
 exact .cons (x:=(⟨0,0,[1],0,0⟩:RowI)) ⟨_,1,rfl,Nat.le_refl _,Blk.row (c:=[.int .u16 1]) b1,hB _ (by simp[kwL])⟩ (.cons (x:=(⟨1,1,[2],0,0⟩:RowI)) ⟨_,1,rfl,Nat.le_refl _,Blk.row (c:=[.int .u16 2]) b2,hB _ (by simp[kwL])⟩ (LstV.one (x:=(⟨2,0,[],0,0⟩:RowI)) ⟨none,0,rfl,Nat.le_refl _,Row.nil _ _,hB _ (by simp[kwL])⟩))
set_option maxHeartbeats 8000000 in
theorem known16_any {H:Heap} (hg:Glb H):CallH Tryz.prog 17 [] H fun v H'=>v= .bool true∧Ext H H':=by
 refine Vc.CallH.body Tryz.func17 Tryz.call17 rfl (by decide+kernel) rfl ?_
 ((conv=>whnf);repeat(any_goals((first|(show Go.Vc.PureH _ _ _;refine PureH.build3 _ rin_built3 ?_)|(show Go.Vc.PureH _ _ _;refine PureH.build2 _ rin_built2 ?_)|refine Vc.stp ?_)<;>(intros;(conv=>whnf)))))
 rename_i H1 z1 b1 x1 H2 z2 b2 x2 H3 z3 b3 x3
 have hkn:=kwL_row (b1.ext (x2.trans x3)) (b2.ext x3) b3
 refine(smade_any kwL (by decide) _ 3 _ H3 hkn rfl (by decide)).mono ?_
 rintro _ H4 ⟨⟨S,ra,rc,aa,an,ac,st,hS,rfl,hR,hRc⟩,hx4⟩
 obtain⟨s1,s2,s3,hmd⟩:=Go.Why.kw_made S hS
 have hMok:=madeF_ok (kwL.zip S) (fun x hx=>by
  have hx1:=(List.of_mem_zip hx).1
  simp only[kwL,List.mem_cons,List.not_mem_nil,or_false]at hx1
  rcases hx1 with h|h|h<;>rw[h]<;>simp)
 rw[hmd]at hR hRc hMok ⊢
 have hz4:=hx4.size
 have hx04:=And.intro trivial (x1.trans (x2.trans (x3.trans hx4)))
 have hRl:(kwR s1 s2 s3).length=3:=rfl
 have hbest:=Go.Why.kw_best s1 s2 s3
 have hpath:=Go.Why.kw_path s1 s2 s3
 have hus1:=Go.Why.kw_users1 s1 s2 s3
 have hus2:=Go.Why.kw_users2 s1 s2 s3
 obtain⟨fails,hfl⟩:=Go.Why.fails_ex (kwR s1 s2 s3)
 have hcore:=Go.Why.kw_core s1 s2 s3 hfl
 have hPl:(kwP s1 s2 s3).length=3:=rfl
 obtain⟨R,hRe⟩: ∃ R,kwR s1 s2 s3=R:=⟨_,rfl⟩
 obtain⟨P,hPe⟩: ∃ P,kwP s1 s2 s3=P:=⟨_,rfl⟩
 rw[hRe]at hR hRc hMok hRl hbest hpath hus1 hus2 hfl ⊢
 rw[hPe]at hbest hpath hus1 hus2 hPl
 have hfR:FailsR R fails:=⟨hfl⟩
 have hcore0:coreF fails (needsM [0])=[]:=by
  unfold Go.Why.coreF
  cases e:fails (needsM [0])with
  |false=>rfl
  |true=>exact absurd hbest.fit ((hfl _).1 e P)
 have hg4:=hg.ext hx04.2
 have hs0:=Go.Why.needsM_sort [0]
 have hs5:=Go.Why.needsM_sort [0,5]
 have hn0:(needsM [0]).length=1:=rfl
 have hn5:(needsM [0,5]).length=2:=by kernel_rfl
 have hb0:=needs_b (L:=[0])
 have hb5:=needs_b (L:=[0,5])
 ((conv=>whnf);repeat(any_goals((first|refine Vc.stp ?_)<;>(intros;(conv=>whnf)))))
 rename_i H5 z5 b5 x5
 refine(sneeds_any [0] (by decide) (some ⟨H4.size,0,none⟩) 1 1 H5 (Blk.row (c:=[.int .u16 0]) b5) rfl (by decide)).mono ?_
 rintro _ H6 ⟨⟨na,nc,rfl,hNo⟩,hx6⟩
 have hz6:=hx6.size
 obtain⟨N0,hN0⟩: ∃ N0,needsM [0]=N0:=⟨_,rfl⟩
 rw[hN0]at hbest hpath hus1 hus2 hcore0 hs0 hn0 hb0 hNo ⊢
 have hO:RegO H6 R N0 ra rc na nc:=⟨hg4.ext (x5.trans hx6),hMok,by omega,by omega,hb0,hR.ext row_ok (x5.trans hx6),hNo.rowL.to fun _ _=>needT_E,hNo.cap_le⟩
 have hx06:=And.intro trivial (hx04.2.trans (x5.trans hx6))
 ((conv=>whnf);repeat(any_goals((first|refine Vc.stp ?_)<;>(intros;(conv=>whnf)))))
 refine hO.rsolve.mono ?_
 rintro _ H7 ⟨⟨o,hso,hsol⟩,hx7⟩
 have hz7:=hx7.size
 obtain rfl:=solves_one hsol hbest
 obtain⟨pa,pn,pc,rfl,hpl,hpc,hPE⟩:=hso
 subst hpl
 have hO7:=hO.ext hx7
 have hfit:=hbest.fit
 have hpB:=hO7.pinB hfit
 have hx07:=And.intro trivial (hx06.2.trans hx7)
 clear hNo hR hx7 hx6 x5 b5
 have hp3:=fun H' (k:Ext H7 H')=>(hO7.ext k).path (pc:=pc) hpB (by omega) (hPE.ext pin_ok k) [99]
 have hu1:=fun H' (k:Ext H7 H')=>(hO7.ext k).users (pc:=pc) hfit.sorted hpB (by omega) (hPE.ext pin_ok k) [97]
 have hu3:=fun H' (k:Ext H7 H')=>(hO7.ext k).users (pc:=pc) hfit.sorted hpB (by omega) (hPE.ext pin_ok k) [99]
 have hc0:=fun H' (k:Ext H7 H')=>(hO7.ext k).core hs0 hfR
 rw[hpath]at hp3
 rw[hus1]at hu1
 rw[hus2]at hu3
 rw[hcore0]at hc0
 ((conv=>whnf);repeat(any_goals((first|((fail_if_success (have:=hx8));show Go.Vc.CallH _ _ _ _ _;refine(hp3 _ (by exact Vc.xt)).mono ?_;rintro _ H8 ⟨⟨a8,c8,rfl,_,hr8⟩,hx8⟩;have hz8:=hx8.size)|refine Vc.stp ?_)<;>(intros;(conv=>whnf)))))
 rename_i HA8 zA8 bA8 xA8
 refine(strings_any [[97],[98],[99]] [[97],[98],[99]] a8 (some ⟨H8.size,0,none⟩) _ 3 c8 3 HA8 (hr8.ext xA8) (Blk.row (c:=strs [[97],[98],[99]]) bA8) rfl rfl (by decide) (by decide)).mono ?_
 rintro _ _ ⟨rfl,rfl⟩
 rw[decide_eq_true (Eq.refl ([[97],[98],[99]]:List Bs))]
 have hx78:=hx8.trans xA8
 ((conv=>whnf);repeat(any_goals((first|((fail_if_success (have:=hx9));show Go.Vc.CallH _ _ _ _ _;refine(hu1 _ (by exact Vc.xt)).mono ?_;rintro _ H9 ⟨⟨a9,c9,rfl,hr9,_⟩,hx9⟩;have hz9:=hx9.size)|refine Vc.stp ?_)<;>(intros;(conv=>whnf)))))
 rename_i HA9 zA9 bA9 xA9
 refine(strings_any [[]] [[]] a9 (some ⟨H9.size,0,none⟩) _ 1 c9 1 HA9 (hr9.ext xA9) (Blk.row (c:=strs [[]]) bA9) rfl rfl (by decide) (by decide)).mono ?_
 rintro _ _ ⟨rfl,rfl⟩
 rw[decide_eq_true (Eq.refl ([[]]:List Bs))]
 have hx79:=hx78.trans (hx9.trans xA9)
 ((conv=>whnf);repeat(any_goals((first|((fail_if_success (have:=hx10));show Go.Vc.CallH _ _ _ _ _;refine(hu3 _ (by exact Vc.xt)).mono ?_;rintro _ H10 ⟨⟨a10,c10,rfl,hr10,_⟩,hx10⟩;have hz10:=hx10.size)|refine Vc.stp ?_)<;>(intros;(conv=>whnf)))))
 rename_i HA10 zA10 bA10 xA10
 refine(strings_any [[98]] [[98]] a10 (some ⟨H10.size,0,none⟩) _ 1 c10 1 HA10 (hr10.ext xA10) (Blk.row (c:=strs [[98]]) bA10) rfl rfl (by decide) (by decide)).mono ?_
 rintro _ _ ⟨rfl,rfl⟩
 rw[decide_eq_true (Eq.refl ([[98]]:List Bs))]
 have hx710:=hx79.trans (hx10.trans xA10)
 ((conv=>whnf);repeat(any_goals((first|((fail_if_success (have:=hx11));show Go.Vc.CallH _ _ _ _ _;refine(hc0 _ (by exact Vc.xt)).mono ?_;rintro _ H11 ⟨⟨a11,c11,rfl,_⟩,hx11⟩;have hz11:=hx11.size)|refine Vc.stp ?_)<;>(intros;(conv=>whnf)))))
 rename_i HB zB bB xB
 have hx7B:=And.intro trivial (hx710.trans (hx11.trans xB))
 refine(sneeds_any [0,5] (by decide) (some ⟨H11.size,0,none⟩) 2 2 HB (Blk.row (c:=[.int .u16 0,.int .u16 5]) bB) rfl (by decide)).mono ?_
 rintro _ H12 ⟨⟨ma,mc,rfl,hMo⟩,hx12⟩
 have hz12:=hx12.size
 obtain⟨N5,hN5⟩: ∃ N5,needsM [0,5]=N5:=⟨_,rfl⟩
 rw[hN5]at hcore hs5 hn5 hb5 hMo ⊢
 have hx712:=And.intro trivial (hx7B.2.trans hx12)
 have hO12:RegO H12 R N5 ra rc ma mc:=⟨(hO7.ext hx712.2).glb,hMok,by omega,by omega,hb5,(hO7.ext hx712.2).row,hMo.rowL.to fun _ _=>needT_E,hMo.cap_le⟩
 have hc5:=hO12.core hs5 hfR
 rw[hcore]at hc5
 ((conv=>whnf);repeat(any_goals((first|((fail_if_success (have:=hx13));show Go.Vc.CallH _ _ _ _ _;refine hc5.mono ?_;rintro _ H13 ⟨⟨a13,c13,rfl,_,hr13⟩,hx13⟩;have hz13:=hx13.size)|refine Vc.stp ?_)<;>(intros;(conv=>whnf)))))
 rename_i HC zC bC xC
 refine(strings_any [[102]] [[102]] a13 (some ⟨H13.size,0,none⟩) _ 1 c13 1 HC (hr13.ext xC) (Blk.row (c:=strs [[102]]) bC) rfl rfl (by decide) (by decide)).mono ?_
 rintro _ _ ⟨rfl,rfl⟩
 rw[decide_eq_true (Eq.refl ([[102]]:List Bs))]
 ((conv=>whnf);repeat(any_goals((first|refine Vc.stp ?_)<;>(intros;(conv=>whnf)))))
 exact⟨rfl,hx07.2.trans (hx712.2.trans (hx13.trans xC))⟩
end Go.Proofs.YtjdieklgoepdjaaGreatDoor
