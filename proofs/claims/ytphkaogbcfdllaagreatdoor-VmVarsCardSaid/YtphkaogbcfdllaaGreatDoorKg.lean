import Derived.Shelf.SlGeneric
import Derived.Shelf.SlSortCmp.WholeK
import Derived.Ground.SlsfProg
import Derived.Test.YtphkaogbcfdllaaGreatDoorProg
import Derived.Test.YtphkaogbcfdllaaGreatDoorKe
import Derived.Test.YtphkaogbcfdllaaGreatDoorKf
import Derived.Lib.Walk
import Derived.Laws.Cover1
import Derived.Test.YtphkaogbcfdllaaGreatDoorKb
set_option linter.unusedVariables false
set_option linter.unusedSimpArgs false
set_option maxRecDepth 100000
/-
 DERIVED:THE SHELF's CONTRACTS AT THIS DUMP,IN PLAIN WORDS (tools/lay-plain.mjs out of 'TryzShelf.lean',which tools/lay-shelf.mjs wrote):THE SAME DECLARATIONS UNDER THE SAME NAMES:'import','namespace','open','def','theorem' AND NOTHING ELSE:no command of the shelf's:FOR A HAND-IN. Each laying:the table of numbers ('.._ren') and one theorem,a field a fact of the dump's own or the kernel's comparison;each contract:ONE APPLICATION.
-/
namespace Go.Proofs
open Go.Shelf
def Tryz.sortF_ren:Go.Shelf.Ren:=⟨fun|6=>75|15=>135|14=>134|28=>190|29=>191|20=>182|21=>183|22=>184|23=>185|24=>186|25=>187|26=>188|27=>189|46=>222|47=>223|48=>224|49=>225|50=>226|57=>253|n=>n,fun|22=>46|24=>71|25=>166|3=>3|39=>226|0=>0|53=>234|55=>187|4=>4|46=>283|45=>282|50=>190|5=>5|9=>9|66=>330|70=>334|76=>357|77=>157|n=>n,fun|n=>n⟩
theorem Tryz.sortF:Go.Proofs.SlLaysF0.n6 Tryz.prog Tryz.sortF_ren:={
 mixed:=by kernel_rfl
 f6:=⟨Tryz.f75.name,by decide,Tryz.func75.trans (congrArg some (by kernel_rfl))⟩
 f14:=⟨Tryz.f134.name,by decide,Tryz.func134.trans (congrArg some (by kernel_rfl))⟩
 f15:=Tryz.func135.trans (congrArg some (by kernel_rfl))
 f20:=⟨Tryz.f182.name,by decide,Tryz.func182.trans (congrArg some (by kernel_rfl))⟩
 f21:=⟨Tryz.f183.name,by decide,Tryz.func183.trans (congrArg some (by kernel_rfl))⟩
 f22:=⟨Tryz.f184.name,by decide,Tryz.func184.trans (congrArg some (by kernel_rfl))⟩
 f23:=⟨Tryz.f185.name,by decide,Tryz.func185.trans (congrArg some (by kernel_rfl))⟩
 f24:=⟨Tryz.f186.name,by decide,Tryz.func186.trans (congrArg some (by kernel_rfl))⟩
 f25:=⟨Tryz.f187.name,by decide,Tryz.func187.trans (congrArg some (by kernel_rfl))⟩
 f26:=⟨Tryz.f188.name,by decide,Tryz.func188.trans (congrArg some (by kernel_rfl))⟩
 f27:=⟨Tryz.f189.name,by decide,Tryz.func189.trans (congrArg some (by kernel_rfl))⟩
 f28:=Tryz.func190.trans (congrArg some (by kernel_rfl))
 f29:=Tryz.func191.trans (congrArg some (by kernel_rfl))
 f46:=⟨Tryz.f222.name,by decide,Tryz.func222.trans (congrArg some (by kernel_rfl))⟩
 f47:=Tryz.func223.trans (congrArg some (by kernel_rfl))
 f48:=Tryz.func224.trans (congrArg some (by kernel_rfl))
 f49:=⟨Tryz.f225.name,by decide,Tryz.func225.trans (congrArg some (by kernel_rfl))⟩
 f50:=⟨Tryz.f226.name,by decide,Tryz.func226.trans (congrArg some (by kernel_rfl))⟩
 f57:=⟨Tryz.f253.name,by decide,Tryz.func253.trans (congrArg some (by kernel_rfl))⟩
 t0:=Tryz.underlying0
 a0:=Tryz.isAgg0
 z0:=Tryz.sizeOf0
 v0:=Tryz.zeroValue0
 t3:=Tryz.underlying3
 a3:=Tryz.isAgg3
 z3:=Tryz.sizeOf3
 v3:=Tryz.zeroValue3
 t4:=Tryz.underlying4
 a4:=Tryz.isAgg4
 z4:=Tryz.sizeOf4
 v4:=Tryz.zeroValue4
 t5:=Tryz.underlying5
 a5:=Tryz.isAgg5
 z5:=Tryz.sizeOf5
 v5:=Tryz.zeroValue5
 t9:=Tryz.underlying9
 a9:=Tryz.isAgg9
 z9:=Tryz.sizeOf9
 v9:=Tryz.zeroValue9
 t22:=Tryz.underlying46
 a22:=Tryz.isAgg46
 z22:=Tryz.sizeOf46
 v22:=Tryz.zeroValue46
 t25:=Tryz.underlying166
 a25:=Tryz.isAgg166
 z25:=Tryz.sizeOf166
 v25:=Tryz.zeroValue166
 t39:=Tryz.underlying226
 a39:=Tryz.isAgg226
 z39:=Tryz.sizeOf226
 v39:=Tryz.zeroValue226
 t45:=Tryz.underlying282
 a45:=Tryz.isAgg282
 z45:=Tryz.sizeOf282
 v45:=Tryz.zeroValue282
 t46:=Tryz.underlying283
 a46:=Tryz.isAgg283
 z46:=Tryz.sizeOf283
 v46:=Tryz.zeroValue283
 t50:=Tryz.underlying190
 a50:=Tryz.isAgg190
 z50:=Tryz.sizeOf190
 v50:=Tryz.zeroValue190
 t53:=Tryz.underlying234
 a53:=Tryz.isAgg234
 z53:=Tryz.sizeOf234
 v53:=Tryz.zeroValue234
 t55:=Tryz.underlying187
 a55:=Tryz.isAgg187
 z55:=Tryz.sizeOf187
 v55:=Tryz.zeroValue187
 t66:=Tryz.underlying330
 a66:=Tryz.isAgg330
 z66:=Tryz.sizeOf330
 v66:=Tryz.zeroValue330
 t70:=Tryz.underlying334
 a70:=Tryz.isAgg334
 z70:=Tryz.sizeOf334
 v70:=Tryz.zeroValue334
 t76:=Tryz.underlying357
 a76:=Tryz.isAgg357
 z76:=Tryz.sizeOf357
 v76:=Tryz.zeroValue357
 t77:=Tryz.underlying157
 a77:=Tryz.isAgg157
 z77:=Tryz.sizeOf157
 v77:=Tryz.zeroValue157}
end Go.Proofs
namespace Go.Tre
open Go.Scr
def cfF (x y:SF):Int:=if Op.bytesLess x.1 y.1=true then-1 else if Op.bytesLess y.1 x.1=true then 1 else 0
theorem lt_cf (x y:SF):Go.Proofs.ltOf cfF x y=Op.bytesLess x.1 y.1:=by
 unfold Go.Proofs.ltOf cfF
 by_cases h1:Op.bytesLess x.1 y.1=true
 ·rw[if_pos h1,h1];rfl
 ·rw[if_neg h1]
  have h1:Op.bytesLess x.1 y.1=false:=by simpa using h1
  rw[h1]
  split<;>rfl
theorem swoF:Go.Sort.SWO (Go.Proofs.ltOf cfF) where
 irrefl x:=by rw[lt_cf];exact lt_irrefl _
 trans x y z h1 h2:=by rw[lt_cf]at*;exact lt_trans h1 h2
 ntrans x y z h1 h2:=by
  rw[lt_cf]at*
  cases h:Op.bytesLess x.1 z.1 with
  |false=>rfl
  |true=>
   by_cases hxy:x.1=y.1
   ·rw[hxy]at h;rw[h]at h2;cases h2
   ·have:=lt_trans (lt_tri h1 hxy) h
    rw[this]at h2;cases h2
end Go.Tre
namespace Go.Proofs.YtphkaogbcfdllaaGreatDoor
open Go Go.Vc Go.Tre Go.Proofs Go.Shelf Go.Lib Go.Sort
theorem nan_calls (s:ByteArray) (w:World):Calls Tryz.prog 136 #[.string s] w fun e w'=>e= .returned (.bool false)∧w'=w:=by
 go_enter Tryz.func136,Tryz.ntmps136
 go_wp2
 go_ret
 exact⟨by simp,rfl⟩
theorem cmp_calls (x y:Bs) (w:World):Calls Tryz.prog 77 #[.string (mkS x),.string (mkS y)] w fun e w'=>e= .returned (.int .i64 (if Op.bytesLess x y=true then-1 else if Op.bytesLess y x=true then 1 else 0))∧w'=w:=by
 have e7: ∀ args w,(callFunc 136 args).run Tryz.prog w= .ok (.enter 136 args) w:=Tryz.call136
 go_enter Tryz.func77,Tryz.ntmps77
 go_wp2_with (go_at_fn 136;refine(nan_calls _ _).mono ?_;rintro e w' ⟨rfl,hw⟩;rw[hw])
 all_goals go_ret
 all_goals have ht:= @lt_tri x y
 all_goals have hi:=lt_irrefl x
 all_goals(refine⟨?_,rfl⟩;first|rfl|(exfalso;simp_all;done)|(exfalso;rename_i h1 h2 h3;simp at h1 h2;simp_all))
theorem less_calls (x y:SF) (W:World):Calls Tryz.prog 76 #[.agg (encF x).toArray,.agg (encF y).toArray] W fun e w'=>e= .returned (.int .i64 (cfF x y))∧ ∃ q os',w'=grow (W.drewN q) os':=by
 have hcon:=fun W'=>cmp_calls x.1 y.1 W'
 unfold cfF
 generalize (if Op.bytesLess x.1 y.1=true then(-1:Int)else if Op.bytesLess y.1 x.1=true then 1 else 0)=r at hcon ⊢
 unfold encF
 go_enter Tryz.func76,Tryz.ntmps76
 go_wp2_with (go_at_call 77;refine(hcon _).mono ?_;rintro e w' ⟨rfl,rfl⟩)
 go_ret
 exact⟨rfl,0,_,by rw[alloc_eq_grow,alloc_eq_grow,grow_grow];rfl⟩
theorem flat_enc (d:List SF):flatK encF 3 d.toArray=(d.flatMap encF).toArray:=by
 induction d with
 |nil=>simp[flatK]
 |cons x d ih=>
  apply Array.ext'
  apply List.ext_getElem?
  intro t
  have hsz: ∀ l:List SF,(flatK encF 3 l.toArray).size=l.length*3:=fun l=>by simp
  have hl: ∀ l:List SF,(l.flatMap encF).length=l.length*3:=fun l=>by
   induction l with
   |nil=>rfl
   |cons y l ih=>rw[List.flatMap_cons,List.length_append,ih,List.length_cons];show 3+_=_;omega
  have hg: ∀ (l:List SF) (t:Nat),t<l.length*3→(flatK encF 3 l.toArray)[t]? =some ((encF l.toArray[t / 3]!)[t % 3]!):=fun l t h=>by
   rw[Array.getElem?_eq_getElem (by rw[hsz];exact h),←getElem!_pos _ t (by rw[hsz];exact h),get_flatK _ _ _ _ (by simpa using h)]
  rw[Array.getElem?_toList]
  show _=((x::d).flatMap encF)[t]?
  by_cases ht:t<(x::d).length*3
  ·rw[hg _ _ ht,List.flatMap_cons]
   by_cases h3:t<3
   ·rw[List.getElem?_append_left (by show t<3;exact h3),Nat.div_eq_of_lt h3,Nat.mod_eq_of_lt h3]
    rw[List.getElem?_eq_getElem (by show t<3;exact h3)]
    simp[encF,h3]
   ·rw[List.getElem?_append_right (by show 3≤t;omega)]
    show _=(d.flatMap encF)[t-3]?
    have:=congrArg (·[t-3]?) ih
    have h4:t-3<d.length*3:=by rw[List.length_cons]at ht;omega
    rw[hg _ _ h4]at this
    simp only[List.getElem?_toArray]at this
    rw[←this,show t / 3=(t-3) / 3+1 by omega,show t % 3=(t-3) % 3 by omega]
    simp
  ·rw[Array.getElem?_eq_none (by rw[hsz];omega),List.getElem?_eq_none (by rw[hl];omega)]
theorem sortf_any (l:List SF) (g n cap base:Nat) (H:Heap) (ho:Own H base 71 3 (some ⟨g,0,none⟩) n cap (l.flatMap encF)) (hn:l.length=n) (hm:n≤1000000000):
  CallH Tryz.prog 75 [.slice (some ⟨g,0,none⟩) n cap,.func (.func 76) #[] #[]] H fun v H'=>v= .tuple #[]∧(∃ l':List SF,l'.Perm l∧l'.Pairwise (fun x y=>Op.bytesLess y.1 x.1=false)∧Own H' base 71 3 (some ⟨g,0,none⟩) n cap (l'.flatMap encF))∧Wr (some ⟨g,0,none⟩) H H':=by
 subst hn
 refine CallH.calls Tryz.call75 fun w hw=> ?_
 subst hw
 have hb:=(ho.block _ rfl).2
 have hH:HoldsK encF 3 w g 0 l.toArray:=by unfold HoldsK;rw[flat_enc];exact own_holds ho
 have hcon:=AnyQ.slices_SortFunc Tryz.sortF 3 Tryz.isAgg71 Tryz.sizeOf71 encF (fun _=>rfl) (fun x v hv=>by simp[encF]at hv;rcases hv with rfl|rfl|rfl<;>rfl) cfF swoF 76 #[] g 0 cap l.toArray w Tryz.call76 (fun _ _ _ _ x y=>less_calls x y _) hH hb (by simp;omega)
 have hcon:Calls Tryz.prog 75 _ _ _:=hcon
 rw[show l.toArray.size=l.length from by simp]at hcon
 refine Calls.mono hcon ?_
 rintro e w' ⟨h1,d',m,os,hp,hs,rfl⟩
 have hsz:d'.size=l.length:=by have:=hp.1;simpa using this
 have hperm:d'.toList.Perm l:=by
  have:=hp.2.2
  simp[←hsz]at this
  rw[hsz]at this
  simpa using this
 have hd:d'=d'.toList.toArray:=by simp
 unfold sortWorldK putRowK
 rw[hd,flat_enc]
 have hll:(d'.toList.flatMap encF).length=(l.flatMap encF).length:=(hperm.flatMap_right encF).length_eq
 obtain⟨g1,g2⟩:=own_put (ys:=d'.toList.flatMap encF) ho hll m os
 refine⟨_,h1,⟨rfl,rfl,rfl⟩,rfl,⟨d'.toList,hperm,?_,g1⟩,g2⟩
 rw[List.pairwise_iff_getElem]
 intro i j hi hj hij
 have:=hs i j (Nat.zero_le _) hij (by simpa [hsz]using hj)
 rw[lt_cf]at this
 rw[getElem!_pos d' i (by simpa using hi),getElem!_pos d' j (by simpa using hj)]at this
 simpa using this
end Go.Proofs.YtphkaogbcfdllaaGreatDoor
namespace Go.Proofs.YtphkaogbcfdllaaGreatDoor
open Go Go.Vc Go.Scr Go.Pth Go.Tre
variable {Z:Nat→Prop}
theorem len64_any (H:Heap):CallH Tryz.prog 191 [.int .u64 0] H fun v H'=>(∃ l:Int,v= .int .i64 l)∧H=H':=by
 refine Vc.CallH.body Tryz.func191 Tryz.call191 rfl (by decide+kernel) rfl ?_
 ((conv=>whnf);repeat(any_goals((first|(refine IdxH.nat 0 rfl (by decide) ?_)|refine Vc.stp ?_|refine Vc.spl ?_ ?_)<;>(intros;(conv=>whnf)))))
 all_goals exact⟨⟨_,rfl⟩,rfl⟩
theorem len_any (H:Heap):CallH Tryz.prog 135 [.int .u64 0] H fun v H'=>(∃ l:Int,v= .int .i64 l)∧H=H':=by
 refine Vc.CallH.body Tryz.func135 Tryz.call135 rfl (by decide+kernel) rfl ?_
 ((conv=>whnf);repeat(any_goals((first|(refine(len64_any _).mono ?_;rintro _ _ ⟨⟨l,rfl⟩,rfl⟩)|refine Vc.stp ?_|refine Vc.spl ?_ ?_)<;>(intros;(conv=>whnf)))))
 all_goals exact⟨⟨_,rfl⟩,rfl⟩
theorem ins0_any (fv:Value) (H:Heap):CallH Tryz.prog 182 [.slice none 0 0,.int .i64 0,.int .i64 0,fv] H fun v H'=>v= .tuple #[]∧H=H':=by
 refine Vc.CallH.body Tryz.func182 Tryz.call182 rfl (by decide+kernel) rfl ?_
 ((conv=>whnf);repeat(any_goals((first|refine Vc.stp ?_|refine Vc.spl ?_ ?_)<;>(intros;(conv=>whnf)))))
 refine LoopH.intro (fun(_:Nat)=>[(8,.int .i64 1)]) (fun _ H'=>H=H') (fun i=>i) 0 ⟨rfl,trivial⟩ rfl ?_
 rintro _ _ rfl
 ((conv=>whnf);repeat(any_goals((first|refine Vc.stp ?_|refine Vc.spl ?_ ?_)<;>(intros;(conv=>whnf)))))
 exact⟨rfl,rfl⟩
theorem pdq0_any (fv:Value) (l:Int) (H:Heap):CallH Tryz.prog 134 [.slice none 0 0,.int .i64 0,.int .i64 0,.int .i64 l,fv] H fun v H'=>v= .tuple #[]∧H=H':=by
 refine Vc.CallH.body Tryz.func134 Tryz.call134 rfl (by decide+kernel) rfl ?_
 ((conv=>whnf);repeat(any_goals((first|refine Vc.stp ?_|refine Vc.spl ?_ ?_)<;>(intros;(conv=>whnf)))))
 refine LoopH.intro (fun(_:Nat)=>[(1,.int .i64 0),(2,.int .i64 0)]) (fun _ H'=>H=H') (fun i=>i) 0 ⟨rfl,rfl,trivial⟩ rfl ?_
 rintro _ _ rfl
 ((conv=>whnf);repeat(any_goals((first|(refine(ins0_any fv _).mono ?_;rintro _ _ ⟨rfl,rfl⟩)|refine Vc.stp ?_|refine Vc.spl ?_ ?_)<;>(intros;(conv=>whnf)))))
 exact⟨rfl,rfl⟩
theorem sortf0_any (fv:Value) (H:Heap):CallH Tryz.prog 75 [.slice none 0 0,fv] H fun v H'=>v= .tuple #[]∧H=H':=by
 refine Vc.CallH.body Tryz.func75 Tryz.call75 rfl (by decide+kernel) rfl ?_
 ((conv=>whnf);repeat(any_goals((first|(refine(len_any _).mono ?_;rintro _ _ ⟨⟨l,rfl⟩,rfl⟩)|(refine(pdq0_any fv l _).mono ?_;rintro _ _ ⟨rfl,rfl⟩)|refine Vc.stp ?_|refine Vc.spl ?_ ?_)<;>(intros;(conv=>whnf)))))
 exact⟨rfl,rfl⟩
structure FiS where
 vis:List Bs
 fs:List SF
 a:Option Addr
 cap:Nat
set_option maxHeartbeats 4000000 in
theorem files_any {b mb:Nat} {A:Tr} {H:Heap} (h:TreeO Z H b mb A) (hA:Sorted A) (hAl:A.length≤1000000) (hf: ∀ k n,mget A k=some n→n.2.length≤1000000000):CallH Tryz.prog 30 [.pointer (some ⟨b,0,none⟩)] H fun v H'=>
  (∃ a cap,v= .slice a A.length cap∧A.length≤cap∧RowF H' a A∧ ∀ p,a=some p→H.size≤p.block)∧Ext H H':=by
 have hb:=h.blk
 obtain⟨lm,hm,h2,h3⟩:=h.map.out
 have hkeys:=maps_keys h2 h3
 have hlen:=MapT.len hA.nodup hm h2 h3
 refine Vc.CallH.body Tryz.func30 Tryz.call30 rfl (by decide+kernel) rfl ?_
 ((conv=>whnf);repeat(any_goals((first|((with_reducible apply SemH.rangeMap hm);(focus(rfl));(focus((intro H1 z1 it1 x1;(conv=>whnf)))))|refine Vc.stp ?_|refine Vc.spl ?_ ?_)<;>(intros;(conv=>whnf)))))
 refine LoopH.intro (fun(x:FiS)=>[(3,.slice x.a x.vis.length x.cap)])
  (fun x H'=>IterO H' H.size mb lm x.vis∧Own H' H1.size 71 3 x.a x.vis.length x.cap (x.fs.flatMap encF)∧ToldL H' x.fs (x.vis.map fun k=>(k,nodeOf A k))∧Ext H H') (fun x=>lm.length-x.vis.length) ⟨[],[],none,0⟩ ⟨rfl,trivial⟩ ⟨it1,Own.nil _ _ _ _,trivial,x1⟩ ?_
 rintro⟨vis,fs,a,cap⟩ H2 ⟨hit,ho2,hto,hx2⟩
 dsimp only at hit ho2 hto ⊢
 have hz2:=hx2.size
 have hvl:=nodup_len hit.nodup hit.sub
 rw[List.length_map]at hvl
 have hfl:=hto.len
 rw[List.length_map]at hfl
 have hso: ∀ H',Own H' H1.size 71 3 a vis.length cap (fs.flatMap encF)→CallH Tryz.prog 75 [.slice a vis.length cap,.func (.func 76) #[] #[]] H' fun v H''=>v= .tuple #[]∧(∃ l':List SF,l'.Perm fs∧l'.Pairwise (fun x y=>Op.bytesLess y.1 x.1=false)∧Own H'' H1.size 71 3 a vis.length cap (l'.flatMap encF))∧Wr a H' H'':=fun H' ho=>by
  rcases ho.out with ⟨rfl,h0,rfl⟩|⟨g,cur,rfl,_⟩
  ·have e:fs=[]:=List.eq_nil_of_length_eq_zero (by omega)
   subst e
   rw[h0]
   exact(sortf0_any _ H').mono fun v H'' ⟨h1,h2⟩=>⟨h1,⟨[],List.Perm.refl _,List.Pairwise.nil,Own.nil _ _ _ _⟩,by subst h2;exact Only.refl _ _⟩
  ·exact sortf_any fs g vis.length cap H1.size H' ho hfl (by omega)
 ((conv=>whnf);repeat(any_goals((first|((with_reducible refine SemH.nextMap hit ?_ ?_);rotate_left;intro k v H5 hkv hkn z5 hit5 hcur hx5;(conv=>whnf);rotate_left;intro hall;(conv=>whnf))|(refine(hso _ ho2).mono ?_;rintro _ H6 ⟨rfl,⟨l',hp',hpw,ho6⟩,hx6⟩;have hz6:=hx6.size)|refine Vc.stp ?_)<;>(intros;(conv=>whnf)))))
 ·have hx26:Ext H H6:=hx2.wr ho2 (by omega) hx6
  have hto6:ToldL H6 fs (vis.map fun k=>(k,nodeOf A k)):=hto.keep hx6 fun x c hxp hc=>by
   rcases ho2.out with ⟨h1,_⟩|⟨g,cur,h1,_,hb,_⟩
   ·rw[h1]at hxp;obtain⟨p,hp,_⟩:=hxp;cases hp
   ·rw[h1]at hxp;obtain⟨p,hp,e⟩:=hxp;cases hp;subst e
    exact absurd (blk_one hb hc).1 (by decide)
  obtain⟨xs',hxp,hto7⟩:=hto6.perm hp'
  have hvp:vis.Perm (A.map (·.1)):=(List.perm_ext_iff_of_nodup hit.nodup hA.nodup).2 fun k=>⟨fun hk=>(hkeys k).1 (hit.sub k hk),fun hk=>hall k ((hkeys k).2 hk)⟩
  have hvA:(vis.map fun k=>(k,nodeOf A k)).Perm A:=by
   refine(hvp.map fun k=>(k,nodeOf A k)).trans (List.Perm.of_eq ?_)
   rw[List.map_map]
   refine(List.map_congr_left fun x hx=> ?_).trans (List.map_id A)
   show(x.1,nodeOf A x.1)=x
   unfold nodeOf
   rw[mget_of_mem hA.nodup hx];rfl
  have hxA:=hxp.trans hvA
  have hxn:(xs'.map (·.1)).Nodup:=(hxA.map _).nodup_iff.2 hA.nodup
  have hxs:=hto7.sorted hpw hxn
  have e:=sorted_perm hxs hA hxA
  rw[e]at hto7
  have el:vis.length=A.length:=by have:=hvp.length_eq;rwa[List.length_map]at this
  rw[el]at ho6
  refine⟨⟨a,cap,by rw[←el];rfl,ho6.cap_le,⟨_,ho6.row,hto7.files⟩,fun p hp=>by have:=(ho6.block p hp).1;omega⟩,hx26⟩
 ·have hkm:mget lm k=some v:=mget_of_mem hm.nodup hkv
  obtain⟨n,hg⟩: ∃ n,mget A k=some n:=by
   cases hg:mget A k with
   |none=>rw[h2 k hg]at hkm;cases hkm
   |some n=>exact⟨n,rfl⟩
  obtain⟨v',hv',hno⟩:=h3 k n hg
  rw[hkm]at hv';cases hv'
  have hx05:Ext H H5:=hx2.but hx5 (Nat.le_refl _)
  obtain⟨g1,a1,c1,rfl,hb1,hr1⟩:=(hno.ext hx05).out
  have hnl:=hf k n hg
  have hno:nodeOf A k=n:=by unfold nodeOf;rw[hg];rfl
  have ho5:=ho2.keep hx5 fun p hp e=>ho2.low (b:=H.size) (by omega) ⟨p,hp,e⟩
  have hto5:=hto.keep hx5 fun x c e hc=>by subst e;exact hit.neB hc rfl
  ((conv=>whnf);repeat(any_goals((first|((with_reducible apply SemH.entryMap hcur);(focus((conv=>whnf))))|(refine(clone_any n.2 a1 n.2.length c1 _ (hr1.ext (by exact Vc.xt)) rfl (by omega)).mono ?_;rintro _ H6 ⟨⟨a6,c6,rfl,ho6⟩,hx6⟩;have hz6:=hx6.size)|((with_reducible apply fileB);(focus((conv=>whnf))))|(refine NextH.pushF (f:=(k,n.1,a6,n.2.length,c6)) (fs:=fs) (by assumption) (ho5.ext (by exact Vc.xt)) (by omega) (by omega) ⟨_,rfl,fun _ h=>by cases h⟩ ?_;intro a8 c8 H8 ho8 hz8 hw8)|((with_reducible refine Vc.DrawH.held [0,1,2,3,4,5,6,7,8,9,10,11,12,13,14] [(10,[5])] mixed (by decide+kernel) ?_))|refine Vc.stp ?_|refine Vc.spl ?_ ?_)<;>(intros;(conv=>whnf)))))
  rename_i H7 z7 b7 x7
  have ho7:=(ho5.ext hx6).ext x7
  have hx57:=hx6.trans x7
  have ht7:ToldL H7 (fs++[(k,n.1,a6,n.2.length,c6)]) ((vis++[k]).map fun k=>(k,nodeOf A k)):=by
   rw[List.map_append,List.map_singleton]
   refine(hto5.ext hx57).snoc ⟨rfl,by rw[hno],by rw[hno],?_⟩
   rw[hno]
   exact(ho6.base (Nat.zero_le _)).ext x7
  have ht8:=ht7.keep hw8 fun x c hxp hc=>by
   rcases ho7.out with ⟨h1,_⟩|⟨g,cur,h1,_,hb,_⟩
   ·rw[h1]at hxp;obtain⟨p,hp,_⟩:=hxp;cases hp
   ·rw[h1]at hxp;obtain⟨p,hp,e⟩:=hxp;cases hp;subst e
    exact absurd (blk_one hb hc).1 (by decide)
  have hvl5:(vis++[k]).length=vis.length+1:=by simp
  rw[←hvl5]at ho8
  have hvn:=nodup_len hit5.nodup hit5.sub
  rw[List.length_map]at hvn
  exact⟨⟨vis++[k],fs++[(k,n.1,a6,n.2.length,c6)],a8,c8⟩,⟨by dsimp only;rw[hvl5];rfl,trivial⟩,⟨(hit5.ext hx57).wr ho7 hw8,ho8,ht8,(hx05.trans hx57).wr ho7 (by omega) hw8⟩,by show lm.length-(vis++[k]).length<lm.length-vis.length;omega⟩
theorem MapT.congr {H:Heap} {mb:Nat} {A B:Tr} (h:MapT Z H mb A) (e: ∀ k,mget A k=mget B k):MapT Z H mb B:=by
 obtain⟨l,h1,h2,h3⟩:=h.out
 exact⟨l,h1,fun k hk=>h2 k (by rw[e];exact hk),fun k n hk=>h3 k n (by rw[e];exact hk)⟩
end Go.Proofs.YtphkaogbcfdllaaGreatDoor
namespace Go.Proofs.YtphkaogbcfdllaaGreatDoor
open Go Go.Vc Go.Scr Go.Pth Go.Tre
theorem hfiles_any (A B:Tr) (a b:Option Addr) (n m ca cb:Nat) (H:Heap) (hra:RowF H a A) (hrb:RowF H b B) (hn:A.length=n) (hm:B.length=m) (hl:n≤1000000000) (hl2:m≤1000000000):CallH Tryz.prog 29 [.slice a n ca,.slice b m cb] H fun v H'=>v= .bool (decide (A=B))∧H=H':=by
 refine Vc.CallH.body Tryz.func29 Tryz.call29 rfl (by decide+kernel) rfl ?_
 by_cases hnm:n=m
 ·subst hnm
  ((conv=>whnf);repeat(any_goals((first|refine Vc.stp ?_)<;>(intros;(conv=>whnf)))))
  refine LoopH.intro (fun(i:Nat)=>[(5,.int .i64 i)]) (fun i H'=>H=H'∧i≤n∧(A=B↔A.drop i=B.drop i)) (fun i=>n-i) 0 ⟨rfl,trivial⟩ ⟨rfl,Nat.zero_le _,Iff.rfl⟩ ?_
  rintro i _ ⟨rfl,hi,hinv⟩
  by_cases hlt:i<n
  ·obtain⟨x,hx⟩: ∃ x,A[i]? =some x:=⟨_,List.getElem?_eq_getElem (by omega)⟩
   obtain⟨y,hy⟩: ∃ y,B[i]? =some y:=⟨_,List.getElem?_eq_getElem (by omega)⟩
   have hda:A.drop i=x::A.drop (i+1):=by
    rw[List.drop_eq_getElem_cons (by omega)];congr 1;rw[List.getElem?_eq_getElem (by omega)]at hx;exact Option.some.inj hx
   have hdb:B.drop i=y::B.drop (i+1):=by
    rw[List.drop_eq_getElem_cons (by omega)];congr 1;rw[List.getElem?_eq_getElem (by omega)]at hy;exact Option.some.inj hy
   rw[hda,hdb,List.cons.injEq]at hinv
   obtain⟨xp,xd,xb⟩:=x
   obtain⟨yp,yd,yb⟩:=y
   have e1:((mkS xp).toList==(mkS yp).toList)=decide (xp=yp):=by rw[str_beq];simp[mkS_inj]
   have e3:((mkS xb).toList==(mkS yb).toList)=decide (xb=yb):=by rw[str_beq];simp[mkS_inj]
   have no: ¬(xp=yp∧xd=yd∧xb=yb)→(Vc.one [Value.bool false]=Value.bool (decide (A=B))):=by
    intro h
    rw[decide_eq_false (fun e=>h (by have:=(hinv.1 e).1;simpa using this))];rfl
   by_cases hp:xp=yp
   ·rw[decide_eq_true hp]at e1
    by_cases hd:xd=yd
    ·have e2:(xd==yd)=true:=by rw[hd];exact beq_self_eq_true _
     by_cases hb:xb=yb
     ·rw[decide_eq_true hb]at e3
      ((conv=>whnf);repeat(any_goals((first|(refine IdxA.file hra hn i (xp,xd,xb) rfl hx ?_;intro bi oi ai ci hri hci;have hc0:=hci 0 _ rfl;have hc1:=hci 1 _ rfl;have hc2:=hci 2 _ rfl)|(refine IdxA.file hrb hm i (yp,yd,yb) rfl hy ?_;intro bj oj aj cj hrj hcj;have hd0:=hcj 0 _ rfl;have hd1:=hcj 1 _ rfl;have hd2:=hcj 2 _ rfl)|(refine to_string' rfl rfl rfl hri rfl ?_)|(refine to_string' rfl rfl rfl hrj rfl ?_)|refine Vc.stp ?_)<;>(intros;(conv=>whnf)))))
      exact⟨i+1,⟨rfl,trivial⟩,⟨rfl,hlt,hinv.trans ⟨fun h=>h.2,fun h=>⟨by rw[hp,hd,hb],h⟩⟩⟩,by omega⟩
     ·rw[decide_eq_false hb]at e3
      ((conv=>whnf);repeat(any_goals((first|(refine IdxA.file hra hn i (xp,xd,xb) rfl hx ?_;intro bi oi ai ci hri hci;have hc0:=hci 0 _ rfl;have hc1:=hci 1 _ rfl;have hc2:=hci 2 _ rfl)|(refine IdxA.file hrb hm i (yp,yd,yb) rfl hy ?_;intro bj oj aj cj hrj hcj;have hd0:=hcj 0 _ rfl;have hd1:=hcj 1 _ rfl;have hd2:=hcj 2 _ rfl)|(refine to_string' rfl rfl rfl hri rfl ?_)|(refine to_string' rfl rfl rfl hrj rfl ?_)|refine Vc.stp ?_)<;>(intros;(conv=>whnf)))))
      exact⟨no (fun h=>hb h.2.2),rfl⟩
    ·have e2:(xd==yd)=false:=by simpa using hd
     ((conv=>whnf);repeat(any_goals((first|(refine IdxA.file hra hn i (xp,xd,xb) rfl hx ?_;intro bi oi ai ci hri hci;have hc0:=hci 0 _ rfl;have hc1:=hci 1 _ rfl;have hc2:=hci 2 _ rfl)|(refine IdxA.file hrb hm i (yp,yd,yb) rfl hy ?_;intro bj oj aj cj hrj hcj;have hd0:=hcj 0 _ rfl;have hd1:=hcj 1 _ rfl;have hd2:=hcj 2 _ rfl)|(refine to_string' rfl rfl rfl hri rfl ?_)|(refine to_string' rfl rfl rfl hrj rfl ?_)|refine Vc.stp ?_)<;>(intros;(conv=>whnf)))))
     exact⟨no (fun h=>hd h.2.1),rfl⟩
   ·rw[decide_eq_false hp]at e1
    ((conv=>whnf);repeat(any_goals((first|(refine IdxA.file hra hn i (xp,xd,xb) rfl hx ?_;intro bi oi ai ci hri hci;have hc0:=hci 0 _ rfl;have hc1:=hci 1 _ rfl;have hc2:=hci 2 _ rfl)|(refine IdxA.file hrb hm i (yp,yd,yb) rfl hy ?_;intro bj oj aj cj hrj hcj;have hd0:=hcj 0 _ rfl;have hd1:=hcj 1 _ rfl;have hd2:=hcj 2 _ rfl)|(refine to_string' rfl rfl rfl hri rfl ?_)|(refine to_string' rfl rfl rfl hrj rfl ?_)|refine Vc.stp ?_)<;>(intros;(conv=>whnf)))))
    exact⟨no (fun h=>hp h.1),rfl⟩
  ·rw[List.drop_of_length_le (by omega),List.drop_of_length_le (by omega)]at hinv
   ((conv=>whnf);repeat(any_goals((first|refine Vc.stp ?_|refine Vc.spl ?_ ?_)<;>(intros;(conv=>whnf)))))
   exact⟨by rw[decide_eq_true (hinv.2 rfl)];rfl,rfl⟩
 ·((conv=>whnf);repeat(any_goals((first|refine Vc.stp ?_|refine Vc.spl ?_ ?_)<;>(intros;(conv=>whnf)))))
  exact⟨by rw[decide_eq_false (fun e=>hnm (by rw[←hn,←hm,e]))];rfl,rfl⟩
end Go.Proofs.YtphkaogbcfdllaaGreatDoor
namespace Go.Proofs.YtphkaogbcfdllaaGreatDoor
open Go Go.Vc Go.Scr Go.Pth Go.Tre
def lightF (L:Tr):Bool:=decide (L.length≤20)&&L.all fun f=>decide (f.1.length≤300)&&decide (f.2.2.length≤500)
theorem light_iff (L:Tr):lightF L=true↔L.length≤20∧ ∀ f∈L,f.1.length≤300∧f.2.2.length≤500:=by
 unfold lightF
 simp[List.all_eq_true]
theorem hlight_any (L:Tr) (a:Option Addr) (n cap:Nat) (H:Heap) (hr:RowF H a L) (hn:L.length=n):CallH Tryz.prog 42 [.slice a n cap] H fun v H'=>v= .bool (lightF L)∧H=H':=by
 refine Vc.CallH.body Tryz.func42 Tryz.call42 rfl (by decide+kernel) rfl ?_
 by_cases h20:n≤20
 ·((conv=>whnf);repeat(any_goals((first|refine Vc.stp ?_|refine Vc.spl ?_ ?_)<;>(intros;(conv=>whnf)))))
  refine LoopH.intro (fun(i:Nat)=>[(3,.int .i64 i)]) (fun i H'=>H=H'∧i≤n∧ ∀ f∈L.take i,f.1.length≤300∧f.2.2.length≤500) (fun i=>n-i) 0 ⟨rfl,trivial⟩ ⟨rfl,Nat.zero_le _,by(show ∀ f∈L.take 0,_;rw[List.take_zero];intro f hf;cases hf)⟩ ?_
  rintro i _ ⟨rfl,hi,hall⟩
  by_cases hlt:i<n
  ·obtain⟨f,hf⟩: ∃ f,L[i]? =some f:=⟨_,List.getElem?_eq_getElem (by omega)⟩
   have hm:=List.mem_of_getElem? hf
   have hsz:(mkS f.1).size=f.1.length:=rfl
   by_cases h1:f.1.length≤300
   ·by_cases h2:f.2.2.length≤500
    ·((conv=>whnf);repeat(any_goals((first|(refine IdxA.file hr hn i f (by omega) hf ?_;intro bi oi ai ci hri hci;have hc0:=hci 0 _ rfl;have hc1:=hci 1 _ rfl;have hc2:=hci 2 _ rfl)|refine Vc.stp ?_|refine Vc.spl ?_ ?_)<;>(intros;(conv=>whnf)))))
     refine⟨i+1,⟨rfl,trivial⟩,⟨rfl,by omega,?_⟩,by omega⟩
     rw[List.take_add_one,hf]
     intro g hg
     rcases List.mem_append.1 hg with hg|hg
     ·exact hall g hg
     ·rw[List.mem_singleton.1 hg];exact⟨h1,h2⟩
    ·have hfa:lightF L=false:=by
      rw[Bool.eq_false_iff];intro h;exact h2 ((light_iff L).1 h |>.2 f hm).2
     rw[hfa]
     ((conv=>whnf);repeat(any_goals((first|(refine IdxA.file hr hn i f (by omega) hf ?_;intro bi oi ai ci hri hci;have hc0:=hci 0 _ rfl;have hc1:=hci 1 _ rfl;have hc2:=hci 2 _ rfl)|refine Vc.stp ?_|refine Vc.spl ?_ ?_)<;>(intros;(conv=>whnf)))))
     exact⟨rfl,rfl⟩
   ·have hfa:lightF L=false:=by
     rw[Bool.eq_false_iff];intro h;exact h1 ((light_iff L).1 h |>.2 f hm).1
    rw[hfa]
    ((conv=>whnf);repeat(any_goals((first|(refine IdxA.file hr hn i f (by omega) hf ?_;intro bi oi ai ci hri hci;have hc0:=hci 0 _ rfl;have hc1:=hci 1 _ rfl;have hc2:=hci 2 _ rfl)|refine Vc.stp ?_|refine Vc.spl ?_ ?_)<;>(intros;(conv=>whnf)))))
    exact⟨rfl,rfl⟩
  ·obtain rfl:i=n:=by omega
   have ht:lightF L=true:=(light_iff L).2 ⟨by omega,fun f hf=>hall f (by rw[List.take_of_length_le (by omega)];exact hf)⟩
   rw[ht]
   ((conv=>whnf);repeat(any_goals((first|refine Vc.stp ?_|refine Vc.spl ?_ ?_)<;>(intros;(conv=>whnf)))))
   exact⟨rfl,rfl⟩
 ·have hfa:lightF L=false:=by
   rw[Bool.eq_false_iff];intro h;have:=((light_iff L).1 h).1;omega
  rw[hfa]
  ((conv=>whnf);repeat(any_goals((first|refine Vc.stp ?_|refine Vc.spl ?_ ?_)<;>(intros;(conv=>whnf)))))
  exact⟨rfl,rfl⟩
end Go.Proofs.YtphkaogbcfdllaaGreatDoor
