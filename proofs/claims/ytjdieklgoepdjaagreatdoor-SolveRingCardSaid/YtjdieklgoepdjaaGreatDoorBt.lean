import Derived.Test.YtjdieklgoepdjaaGreatDoorBv
set_option linter.unusedVariables false
set_option linter.unusedSimpArgs false
set_option maxRecDepth 100000
/- SolveChain, walked. -/
namespace Go.Proofs.YtjdieklgoepdjaaGreatDoor
open Go Go.Vc Go.Scr Go.Slv
structure ChI where
 i:Nat
 a:Option Addr
 cap:Nat
def chC (s:Txt) (v:VerP) (pa:Option Addr) (pc:Nat) (na:Option Addr) (n nc:Nat):List Value:=[.string (mkS s),.int .i64 v.ma,.int .i64 v.mi,.int .i64 v.pa,.slice pa v.pre.length pc]++strV z32++[.int .i64 0,.slice na n nc]
theorem row_built2 {s:ByteArray} {v:VerP} {va:Option Addr} {vc:Nat}:Go.Program.built Tryz.prog 54 [(0,.string s),(1,verC v va vc)]=some (([.string s,.int .i64 v.ma,.int .i64 v.mi,.int .i64 v.pa,.slice va v.pre.length vc]:List Value)++strV z32++([.int .i64 0,.slice none 0 0]:List Value)).toArray:=by kernel_rfl
theorem rowB2 {K:Value→Prop} {o1 o2:Operand} {s:ByteArray} {v:VerP} {va:Option Addr} {vc:Nat} (h:K (.agg (([.string s,.int .i64 v.ma,.int .i64 v.mi,.int .i64 v.pa,.slice va v.pre.length vc]:List Value)++strV z32++([.int .i64 0,.slice none 0 0]:List Value)).toArray)):PureH Tryz.prog (Instr.build 54 ((List.map (fun x:Nat×Operand=>x.1) (#[(0,o1),(1,o2)]:Array (Nat×Operand)).toList).zip [.string s,verC v va vc]).toArray) K:=PureH.build2 _ row_built2 h
theorem needBc {K:Value→Prop} {o1 o2 o3:Operand} {s t:ByteArray} {b:Bool} {a:Option Addr} {n c:Nat} (h:K (.agg #[.string s,.bool b,.slice a n c,.string t])):PureH Tryz.prog (Instr.build 45 ((List.map (fun x:Nat×Operand=>x.1) (#[(0,o1),(1,o2),(2,o3)]:Array (Nat×Operand)).toList).zip [.string s,.agg #[.bool b,.slice a n c],.string t]).toArray) K:=PureH.build3 _ need_built h
theorem flat_1 {H:Heap} {b:Nat} {c:List Value} {t:TypeId} (h:Blk H b (List.flatMap (fun v:Value=>v.cells.toList) [Value.agg c.toArray]).toArray t):Blk H b c.toArray t:=by simpa [Value.cells]using h
theorem flat_2 {H:Heap} {b:Nat} {c d:List Value} {t:TypeId} (h:Blk H b (List.flatMap (fun v:Value=>v.cells.toList) [Value.agg c.toArray,Value.agg d.toArray]).toArray t):Blk H b (c++d).toArray t:=by simpa [Value.cells]using h
def verL (v:VerP) (a:Option Addr) (c:Nat):List Value:=[.int .i64 v.ma,.int .i64 v.mi,.int .i64 v.pa,.slice a v.pre.length c]
structure ChS (H:Heap) (b1 b2 b3:Nat) (va wa sa:Option Addr) (vc wc sc:Nat):Prop where
 v:Blk H b1 (verL v100 va vc).toArray 48
 w:Blk H b2 (verL v150 wa wc).toArray 48
 s:Blk H b3 ([.bool spCaret.any,.slice sa spCaret.or_.length sc]:List Value).toArray 43
 o:RowL bndsT 136 H sa spCaret.or_
 c:spCaret.or_.length≤sc
theorem ChS.ext {H H':Heap} {b1 b2 b3:Nat} {va wa sa:Option Addr} {vc wc sc:Nat} (h:ChS H b1 b2 b3 va wa sa vc wc sc) (k:Ext H H'):ChS H' b1 b2 b3 va wa sa vc wc sc:=⟨h.v.ext k,h.w.ext k,h.s.ext k,h.o.ext bndsT_ok k,h.c⟩
theorem blk_off {a:Option Addr} {H:Heap} {t u:TypeId} {b:Nat} {c:Array Value} (hne:u≠t) (ho: ∀ p,a=some p→ ∃ c,Blk H p.block c t) (h:Blk H b c u): ¬ ∃ p,a=some p∧p.block=b:=fun⟨p,hp,e⟩=>by
 obtain⟨c',g⟩:=ho p hp
 rw[e]at g
 exact hne (h.typ g)
theorem ChS.wr {H H':Heap} {a:Option Addr} {b1 b2 b3:Nat} {va wa sa:Option Addr} {vc wc sc:Nat} (h:ChS H b1 b2 b3 va wa sa vc wc sc) (k:Wr a H H') (ho: ∀ p,a=some p→ ∃ c,Blk H p.block c 54):ChS H' b1 b2 b3 va wa sa vc wc sc:=⟨h.v.keep k (blk_off (by decide) ho h.v),h.w.keep k (blk_off (by decide) ho h.w),h.s.keep k (blk_off (by decide) ho h.s),h.o.keep bndsT_ok k (fun b c u f hb hT=>by
 refine blk_off ?_ ho hb f
 rcases hT with rfl|rfl|rfl<;>decide),h.c⟩
theorem ver_two {H:Heap} {b:Nat} {va wa:Option Addr} {vc wc:Nat} (h:Blk H b (verL v100 va vc++verL v150 wa wc).toArray 48):RowE verE H (some ⟨b,0,none⟩) [v100,v150]:=
 (own_litE (l:=[v100,v150]) ver_ok h ((LstV.one (E:=verE) ⟨va,vc,rfl,Nat.zero_le _,Row.nil _ _⟩).app (LstV.one ⟨wa,wc,rfl,Nat.zero_le _,Row.nil _ _⟩)) (Nat.le_refl _) (by decide)).row
theorem row_rowT {H:Heap} {i k:Nat} {cut:Bool} {v:VerP} {pa na:Option Addr} {pc nc n:Nat} (hp:v.pre=[]) (hn:(chRow k cut i v).needs.length=n) (hc:n≤nc) (hr:RowL needT 45 H na (chRow k cut i v).needs):rowT H (chRow k cut i v) (chC (numName 112 i) v pa pc na n nc):=by
 subst hn
 refine⟨pa,pc,na,nc,rfl,rfl,?_,?_,hc,hr⟩
 ·show v.pre.length≤pc
  rw[hp];exact Nat.zero_le _
 ·show RowT _ _ _ (strs v.pre)
  rw[hp];exact RowT.nil _ _ _
set_option maxHeartbeats 8000000 in
theorem chain_any {H:Heap} (hg:Glb H) (n:Nat) (hn:n<256) (cut:Bool):
  CallH Tryz.prog 11 [.int .u8 n,.bool cut] H fun v H'=>v= .bool true∧Ext H H':=by
 refine Vc.CallH.body Tryz.func11 Tryz.call11 rfl (by decide+kernel) rfl ?_
 obtain⟨k,hk⟩: ∃ k,n % 11+1=k:=⟨_,rfl⟩
 have hk1:1≤k:=by omega
 have hk2:k≤11:=by omega
 have hki:(n:Int) % 11+1=(k:Int):=by rw[←hk];push_cast;rfl
 have v1:=fun H=>rver_any [49,46,48,46,48] (by decide) H
 rw[ver100]at v1
 have v2:=fun H=>rver_any [49,46,53,46,48] (by decide) H
 rw[ver150]at v2
 have v3:=fun H=>rspan_any tCaret (by decide) H
 rw[span_caret]at v3
 ((conv=>whnf);repeat(any_goals((first|((fail_if_success (have:=hx1));show Go.Vc.CallH _ _ _ _ _;refine(known15_any hg).mono ?_;rintro _ H1 ⟨rfl,hx1⟩;have hz1:=hx1.size)|refine Vc.stp ?_)<;>(intros;(conv=>whnf)))))
 refine(v1 _).mono ?_
 rintro _ H2 ⟨⟨va,vc,rfl,_⟩,hx2⟩
 have hz2:=hx2.size
 ((conv=>whnf);repeat(any_goals((first|refine Vc.stp ?_)<;>(intros;(conv=>whnf)))))
 rename_i Hl zl bl xl
 unfold verC
 refine DoH.store_list (c:=verL v100 va vc) bl rfl rfl rfl (fun u hu=>by simp[verL]at hu;rcases hu with rfl|rfl|rfl|rfl<;>rfl) ?_
 intro H3 z3 c1 k3
 have hx23:Ext H2 H3:=xl.but k3 (Nat.le_refl _)
 clear xl bl k3
 ((conv=>whnf);repeat(any_goals((first|refine Vc.stp ?_)<;>(intros;(conv=>whnf)))))
 refine(v2 _).mono ?_
 rintro _ H4 ⟨⟨wa,wc,rfl,_⟩,hx4⟩
 have hz4:=hx4.size
 ((conv=>whnf);repeat(any_goals((first|refine Vc.stp ?_)<;>(intros;(conv=>whnf)))))
 rename_i Hm zm bm xm
 unfold verC
 refine DoH.store_list (c:=verL v150 wa wc) bm rfl rfl rfl (fun u hu=>by simp[verL]at hu;rcases hu with rfl|rfl|rfl|rfl<;>rfl) ?_
 intro H5 z5 c2 k5
 have hx45:Ext H4 H5:=xm.but k5 (Nat.le_refl _)
 clear xm bm k5
 ((conv=>whnf);repeat(any_goals((first|refine Vc.stp ?_)<;>(intros;(conv=>whnf)))))
 refine(v3 _).mono ?_
 rintro _ H6 ⟨⟨sa,sc,rfl,hso⟩,hx6⟩
 have hz6:=hx6.size
 ((conv=>whnf);repeat(any_goals((first|refine Vc.stp ?_)<;>(intros;(conv=>whnf)))))
 rename_i Hn zn bn xn H7 z7 c3 k7
 have hx67:Ext H6 H7:=xn.but k7 (Nat.le_refl _)
 clear xn bn k7
 have hS7:ChS H7 H2.size H4.size H6.size va wa sa vc wc sc:=⟨c1.ext (hx4.trans (hx45.trans (hx6.trans hx67))),c2.ext (hx6.trans hx67),c3,hso.rowL.ext bndsT_ok hx67,hso.cap_le⟩
 have hx07:Ext H H7:=hx1.trans (hx2.trans (hx23.trans (hx4.trans (hx45.trans (hx6.trans hx67)))))
 have hg7:=hg.ext hx07
 clear c1 c2 c3 hso hx1 hx2 hx23 hx4 hx45 hx6 hx67 v1 v2 v3
 rw[hki]
 have hT0:OwnE rowT 39 H7 H7.size 54 none (chA k cut 0) 0:=OwnE.nil _ _ _ _ _
 refine LoopH.intro (fun(x:ChI)=>[(13,.int .i64 x.i),(6,.slice x.a (chA k cut x.i).length x.cap)]) (fun x H'=>x.i≤k∧OwnE rowT 39 H' H7.size 54 x.a (chA k cut x.i) x.cap∧ChS H' H2.size H4.size H6.size va wa sa vc wc sc∧Ext H7 H') (fun x=>k-x.i) ⟨0,none,0⟩ ⟨rfl,rfl,trivial⟩ ⟨Nat.zero_le _,hT0,hS7,Ext.refl _⟩ ?_
 clear hS7 hT0
 rintro⟨i,oa,oc⟩ H8 ⟨hi,ho8,hS8,hx8⟩
 dsimp only at hi ho8 ⊢
 have hz8:=hx8.size
 have hl8:=chA_len k cut i
 by_cases hik:i<k
 ·have hvv: ∀ (j:Nat) (u:Value),(verL v100 va vc)[j]? =some u→hcell H8 ⟨H2.size,0+j,none⟩=some u:=fun j u hu=>blk_list hS8.v 0 j u (by rw[Nat.zero_add];exact hu)
  have hww: ∀ (j:Nat) (u:Value),(verL v150 wa wc)[j]? =some u→hcell H8 ⟨H4.size,0+j,none⟩=some u:=fun j u hu=>blk_list hS8.w 0 j u (by rw[Nat.zero_add];exact hu)
  ((conv=>whnf);repeat(any_goals((first|((with_reducible apply SemH.load_ver);(focus((exact hvv)));(focus((exact Vc.xt)));(focus((conv=>whnf))))|((with_reducible apply SemH.load_ver);(focus((exact hww)));(focus((exact Vc.xt)));(focus((conv=>whnf))))|refine Vc.stp ?_)<;>(intros;(conv=>whnf)))))
  rename_i H9 z9 b9 x9
  have b9:=flat_2 (c:=verL v100 va vc) (d:=verL v150 wa wc) b9
  have ho9:=ho8.ext rowT_ok.ok x9
  have hS9:=hS8.ext x9
  have hx79:=hx8.trans x9
  refine LoopH.intro (fun(x:ChI)=>[(47,.int .i64 x.i),(6,.slice x.a (chA k cut i++chI k cut i x.i).length x.cap)]) (fun x H'=>x.i≤2∧OwnE rowT 39 H' H7.size 54 x.a (chA k cut i++chI k cut i x.i) x.cap∧ChS H' H2.size H4.size H6.size va wa sa vc wc sc∧Blk H' H8.size (verL v100 va vc++verL v150 wa wc).toArray 48∧Ext H7 H') (fun x=>2-x.i) ⟨0,oa,oc⟩ ⟨rfl,(by rw[show chI k cut i 0=[]from rfl,List.append_nil];rfl),trivial⟩ ⟨Nat.zero_le _,(by rw[show chI k cut i 0=[]from rfl,List.append_nil];exact ho9),hS9,b9,hx79⟩ ?_
  clear ho8 ho9 hS8 hS9 hx79 b9 x9 hvv hww hx8
  rintro⟨j,oa,oc⟩ H10 ⟨hj,hoA,hSA,bA,hxA⟩
  dsimp only at hj hoA ⊢
  have hzA:=hxA.size
  by_cases hj2:j<2
  ·obtain⟨x,hx⟩: ∃ x,[v100,v150][j]? =some x:=⟨_,List.getElem?_eq_getElem hj2⟩
   have hxp:x.pre=[]:=by
    rcases (show j=0∨j=1 by omega)with rfl|rfl<;>(obtain rfl:=Option.some.inj hx;rfl)
   have hcs:chI k cut i (j+1)=chI k cut i j++[chRow k cut i x]:=by
    rcases (show j=0∨j=1 by omega)with rfl|rfl<;>(obtain rfl:=Option.some.inj hx;rfl)
   have hcl:(chI k cut i j).length=j:=by
    rcases (show j=0∨j=1 by omega)with rfl|rfl<;>rfl
   obtain⟨M,hM⟩: ∃ M,chI k cut i j=M:=⟨_,rfl⟩
   rw[hM]at hoA hcs hcl ⊢
   obtain⟨bV,oV,cV,hcV,hclV,hixV⟩:=(ver_two bA).fix ver_ok (by decide) rfl hx
   obtain⟨xa,xc,ecV,_,_⟩:=(id hcV)
   have hvv: ∀ (j:Nat) (u:Value),([.int .i64 x.ma,.int .i64 x.mi,.int .i64 x.pa,.slice xa x.pre.length xc]:List Value)[j]? =some u→hcell H10 ⟨bV,oV+j,none⟩=some u:=fun j u hu=>hclV j u (by rw[ecV];exact hu)
   ((conv=>whnf);repeat(any_goals((first|(refine hixV _ _ rfl ?_)|((with_reducible apply SemH.load_ver);(focus((exact hvv)));(focus((exact Vc.xt)));(focus((conv=>whnf))))|refine Vc.stp ?_)<;>(intros;(conv=>whnf)))))
   rename_i HB zB bB xB
   unfold verC
   refine DoH.store_list (c:=verL x xa xc) bB rfl rfl rfl (fun u hu=>by simp[verL]at hu;rcases hu with rfl|rfl|rfl|rfl<;>rfl) ?_
   intro HC zC bC kC
   have hxC:Ext H10 HC:=xB.but kC (Nat.le_refl _)
   have hzC:=hxC.size
   clear xB bB kC
   have hvC: ∀ (j:Nat) (u:Value),([.int .i64 x.ma,.int .i64 x.mi,.int .i64 x.pa,.slice xa x.pre.length xc]:List Value)[j]? =some u→hcell HC ⟨H10.size,0+j,none⟩=some u:=fun j u hu=>blk_list bC 0 j u (by rw[Nat.zero_add];exact hu)
   have hdl:=itoa_len (i:Int) ⟨by omega,by omega⟩
   have hnm:(⟨#[112]⟩:ByteArray)++mkS (Lib.itoa (i:Int))=mkS (numName 112 i):=by
    rw[show(⟨#[112]⟩:ByteArray)=mkS [112]from rfl,mkS_app,itoa_decT i (by omega)];rfl
   ((conv=>whnf);repeat(any_goals((first|(show Go.Vc.CallH _ _ _ _ _;refine(rdec_any i (by omega) _).mono ?_;rintro _ _ ⟨rfl,rfl⟩)|((with_reducible apply SemH.load_ver);(focus((exact hvC)));(focus((exact Vc.xt)));(focus((conv=>whnf))))|((with_reducible apply rowB2);(focus((conv=>whnf))))|(refine NeedH.mk ⟨by(simp only[ByteArray.size_append,szL2,szM2,List.length_cons,List.length_nil];omega),?_⟩)|(first|(with_reducible refine Vc.DrawH.lin (id:=14) mixed ?_)|(with_reducible refine Vc.DrawL.split (es:=[]) 1 5 (by decide) (by decide) (by decide) ?_ ?_)|(with_reducible refine Vc.DrawL.held (es:=[(1,5)]) [0,3,1,2,4,5,6] [(1,[3]),(5,[3])] (by decide+kernel) ?_)|(with_reducible refine Vc.DrawL.held (es:=[(5,1)]) [0,3,5,1,2,4,6] [(5,[3]),(1,[3])] (by decide+kernel) ?_))|((with_reducible refine Vc.DrawH.held [0,1,4,2,3,5,6,7,8] [(2,[4])] mixed (by decide+kernel) ?_))|refine Vc.stp ?_)<;>(intros;(conv=>whnf)))))
   all_goals
    rename_i HD zD bD xD HE zE bE' kE
    rw[hnm]at bE'
    have bE:Blk HE HC.size (chC (numName 112 i) x xa xc none 0 0).toArray 54:=bE'
    have hxE:Ext HC HE:=xD.but kE (Nat.le_refl _)
    have hzE:=hxE.size
    have hx10E:=hxC.trans hxE
    clear bE' xD bD kE
    rcases (show(i+1<k)∨(¬i+1<k∧cut=true)∨(¬i+1<k∧cut=false)by cases cut<;>simp<;>omega)with h1|⟨h1,hct⟩|⟨h1,hct⟩
    ·have hss: ∀ (k:Nat) (w:Value),([.bool spCaret.any,.slice sa spCaret.or_.length sc]:List Value)[k]? =some w→hcell HE ⟨H6.size,0+k,none⟩=some w:=fun k w hw=>blk_list (hSA.ext hx10E).s 0 k w (by rw[Nat.zero_add];exact hw)
     have hdl2:=itoa_len ((i+1:Nat):Int) ⟨by omega,by omega⟩
     have hnm2:(⟨#[112]⟩:ByteArray)++mkS (Lib.itoa ((i+1:Nat):Int))=mkS (numName 112 (i+1)):=by
      rw[show(⟨#[112]⟩:ByteArray)=mkS [112]from rfl,mkS_app,itoa_decT (i+1) (by omega)];rfl
     have hneed:(chRow k cut i x).needs=[chNeed (i+1)]:=by
      unfold chRow
      dsimp only
      rw[if_pos (by simp[*])]
     ((conv=>whnf);repeat(any_goals((first|(show Go.Vc.CallH _ _ _ _ _;refine(rdec_any (i+1) (by omega) _).mono ?_;rintro _ _ ⟨rfl,rfl⟩)|(refine Vc.StillsH.load rfl rfl rfl rfl rfl rfl (by exact SemH.load_spn hss (by exact Vc.xt) rfl) ?_)|((with_reducible apply SemH.load_spn);(focus((exact hss)));(focus((exact Vc.xt)));(focus((conv=>whnf))))|((with_reducible apply needBc);(focus((conv=>whnf))))|(refine NeedH.mk ⟨by(simp only[ByteArray.size_append,szL2,szM2,List.length_cons,List.length_nil];omega),?_⟩)|(first|(with_reducible refine Vc.DrawH.lin (id:=14) mixed ?_)|(with_reducible refine Vc.DrawL.split (es:=[]) 1 5 (by decide) (by decide) (by decide) ?_ ?_)|(with_reducible refine Vc.DrawL.held (es:=[(1,5)]) [0,3,1,2,4,5,6] [(1,[3]),(5,[3])] (by decide+kernel) ?_)|(with_reducible refine Vc.DrawL.held (es:=[(5,1)]) [0,3,5,1,2,4,6] [(5,[3]),(1,[3])] (by decide+kernel) ?_))|((with_reducible refine Vc.DrawH.held [0,1,4,2,3,5,6,7,8] [(2,[4])] mixed (by decide+kernel) ?_))|refine Vc.stp ?_)<;>(intros;(conv=>whnf)))))
     rename_i HF zF bF xF HG zG bG kG HL zL bL' xL
     rw[hnm2]at bF
     have bF':=(flat_1 (c:=[.string (mkS (numName 112 (i+1))),.bool spCaret.any,.slice sa spCaret.or_.length sc,.string (mkS tCaret)]) bF).but kG (by omega)
     have hxp0:Ext H10 HG:=(hx10E.trans xF).but kG (by omega)
     have bL:=flat_1 (c:=chC (numName 112 i) x xa xc (some ⟨HE.size,0,none⟩) 1 1) bL'
     have hnL:RowL needT 45 HL (some ⟨HE.size,0,none⟩) [chNeed (i+1)]:=(own_litE needT_ok.ok (bF'.ext xL) (LstV.one (c:=[.string (mkS (numName 112 (i+1))),.bool spCaret.any,.slice sa spCaret.or_.length sc,.string (mkS tCaret)]) ⟨sa,sc,rfl,hSA.c,hSA.o.ext bndsT_ok (hxp0.trans xL)⟩) (Nat.le_refl _) (by simp)).rowL
     have hrT:rowT HL (chRow k cut i x) (chC (numName 112 i) x xa xc (some ⟨HE.size,0,none⟩) 1 1):=row_rowT hxp (by rw[hneed];rfl) (Nat.le_refl _) (by rw[hneed];exact hnL)
     have hxL:Ext H10 HL:=hxp0.trans xL
     have hoL:=hoA.ext rowT_ok.ok hxL
     have hlM:(chA k cut i++M).length≤30:=by rw[List.length_append,hcl,chA_len];omega
     refine NextH.appE rowT_ok rfl ⟨_,rfl,fun _ h=>by cases h⟩ rfl rfl rfl rfl (by decide) (by unfold rowTT;decide) hoL rfl (Blk.row bL) (LstV.one hrT) rfl (by omega) (by omega) ?_
     intro aX cX HX hoX hwX hfX
     have hxX:Ext H7 HX:=ext_wr2 (n:=HL.size) (hxA.trans hxL) (fun p hp=>hoL.block p hp) hwX
     have hSX:=(hSA.ext hxL).wr hwX (fun p hp=>hoL.typ p hp)
     have bX:=(bA.ext hxL).keep hwX (blk_off (by decide) (fun p hp=>hoL.typ p hp) (bA.ext hxL))
     have hlX:(chA k cut i++M++[chRow k cut i x]).length=(chA k cut i++M).length+1:=List.length_append
     clear hrT bL hoL hSA bA hoA
     ((conv=>whnf);repeat(any_goals((first|refine Vc.stp ?_)<;>(intros;(conv=>whnf)))))
     exact⟨⟨j+1,aX,cX⟩,⟨rfl,by(show Value.slice _ _ _=Value.slice _ _ _;rw[hcs,←List.append_assoc,hlX]),trivial⟩,⟨hj2,by(dsimp only;rw[hcs,←List.append_assoc];exact hoX),hSX,bX,hxX⟩,by show 2-(j+1)<2-j;omega⟩
    ·subst hct
     have hss: ∀ (k:Nat) (w:Value),([.bool spCaret.any,.slice sa spCaret.or_.length sc]:List Value)[k]? =some w→hcell HE ⟨H6.size,0+k,none⟩=some w:=fun k w hw=>blk_list (hSA.ext hx10E).s 0 k w (by rw[Nat.zero_add];exact hw)
     have hdl2:=itoa_len ((i+1:Nat):Int) ⟨by omega,by omega⟩
     have hnm2:(⟨#[112]⟩:ByteArray)++mkS (Lib.itoa ((i+1:Nat):Int))=mkS (numName 112 (i+1)):=by
      rw[show(⟨#[112]⟩:ByteArray)=mkS [112]from rfl,mkS_app,itoa_decT (i+1) (by omega)];rfl
     have hneed:(chRow k true i x).needs=[chNeed (i+1)]:=by
      unfold chRow
      dsimp only
      rw[if_pos (by simp[*])]
     ((conv=>whnf);repeat(any_goals((first|(show Go.Vc.CallH _ _ _ _ _;refine(rdec_any (i+1) (by omega) _).mono ?_;rintro _ _ ⟨rfl,rfl⟩)|(refine Vc.StillsH.load rfl rfl rfl rfl rfl rfl (by exact SemH.load_spn hss (by exact Vc.xt) rfl) ?_)|((with_reducible apply SemH.load_spn);(focus((exact hss)));(focus((exact Vc.xt)));(focus((conv=>whnf))))|((with_reducible apply needBc);(focus((conv=>whnf))))|(refine NeedH.mk ⟨by(simp only[ByteArray.size_append,szL2,szM2,List.length_cons,List.length_nil];omega),?_⟩)|(first|(with_reducible refine Vc.DrawH.lin (id:=14) mixed ?_)|(with_reducible refine Vc.DrawL.split (es:=[]) 1 5 (by decide) (by decide) (by decide) ?_ ?_)|(with_reducible refine Vc.DrawL.held (es:=[(1,5)]) [0,3,1,2,4,5,6] [(1,[3]),(5,[3])] (by decide+kernel) ?_)|(with_reducible refine Vc.DrawL.held (es:=[(5,1)]) [0,3,5,1,2,4,6] [(5,[3]),(1,[3])] (by decide+kernel) ?_))|((with_reducible refine Vc.DrawH.held [0,1,4,2,3,5,6,7,8] [(2,[4])] mixed (by decide+kernel) ?_))|refine Vc.stp ?_)<;>(intros;(conv=>whnf)))))
     rename_i HF zF bF xF HG zG bG kG HL zL bL' xL
     rw[hnm2]at bF
     have bF':=(flat_1 (c:=[.string (mkS (numName 112 (i+1))),.bool spCaret.any,.slice sa spCaret.or_.length sc,.string (mkS tCaret)]) bF).but kG (by omega)
     have hxp0:Ext H10 HG:=(hx10E.trans xF).but kG (by omega)
     have bL:=flat_1 (c:=chC (numName 112 i) x xa xc (some ⟨HE.size,0,none⟩) 1 1) bL'
     have hnL:RowL needT 45 HL (some ⟨HE.size,0,none⟩) [chNeed (i+1)]:=(own_litE needT_ok.ok (bF'.ext xL) (LstV.one (c:=[.string (mkS (numName 112 (i+1))),.bool spCaret.any,.slice sa spCaret.or_.length sc,.string (mkS tCaret)]) ⟨sa,sc,rfl,hSA.c,hSA.o.ext bndsT_ok (hxp0.trans xL)⟩) (Nat.le_refl _) (by simp)).rowL
     have hrT:rowT HL (chRow k true i x) (chC (numName 112 i) x xa xc (some ⟨HE.size,0,none⟩) 1 1):=row_rowT hxp (by rw[hneed];rfl) (Nat.le_refl _) (by rw[hneed];exact hnL)
     have hxL:Ext H10 HL:=hxp0.trans xL
     have hoL:=hoA.ext rowT_ok.ok hxL
     have hlM:(chA k true i++M).length≤30:=by rw[List.length_append,hcl,chA_len];omega
     refine NextH.appE rowT_ok rfl ⟨_,rfl,fun _ h=>by cases h⟩ rfl rfl rfl rfl (by decide) (by unfold rowTT;decide) hoL rfl (Blk.row bL) (LstV.one hrT) rfl (by omega) (by omega) ?_
     intro aX cX HX hoX hwX hfX
     have hxX:Ext H7 HX:=ext_wr2 (n:=HL.size) (hxA.trans hxL) (fun p hp=>hoL.block p hp) hwX
     have hSX:=(hSA.ext hxL).wr hwX (fun p hp=>hoL.typ p hp)
     have bX:=(bA.ext hxL).keep hwX (blk_off (by decide) (fun p hp=>hoL.typ p hp) (bA.ext hxL))
     have hlX:(chA k true i++M++[chRow k true i x]).length=(chA k true i++M).length+1:=List.length_append
     clear hrT bL hoL hSA bA hoA
     ((conv=>whnf);repeat(any_goals((first|refine Vc.stp ?_)<;>(intros;(conv=>whnf)))))
     exact⟨⟨j+1,aX,cX⟩,⟨rfl,by(show Value.slice _ _ _=Value.slice _ _ _;rw[hcs,←List.append_assoc,hlX]),trivial⟩,⟨hj2,by(dsimp only;rw[hcs,←List.append_assoc];exact hoX),hSX,bX,hxX⟩,by show 2-(j+1)<2-j;omega⟩
    ·subst hct
     ((conv=>whnf);repeat(any_goals((first|refine Vc.stp ?_)<;>(intros;(conv=>whnf)))))
     rename_i HL zL bL' xL
     have bL:=flat_1 bL'
     have hneed:(chRow k false i x).needs=[]:=by
      unfold chRow
      dsimp only
      rw[if_neg (by simp[h1])]
     have hrT:rowT HL (chRow k false i x) (chC (numName 112 i) x xa xc none 0 0):=row_rowT hxp (by rw[hneed];rfl) (Nat.le_refl _) (by rw[hneed];exact RowL.nil _ _ _ _)
     have hxp0:=hx10E
     have hxL:Ext H10 HL:=hxp0.trans xL
     have hoL:=hoA.ext rowT_ok.ok hxL
     have hlM:(chA k false i++M).length≤30:=by rw[List.length_append,hcl,chA_len];omega
     refine NextH.appE rowT_ok rfl ⟨_,rfl,fun _ h=>by cases h⟩ rfl rfl rfl rfl (by decide) (by unfold rowTT;decide) hoL rfl (Blk.row bL) (LstV.one hrT) rfl (by omega) (by omega) ?_
     intro aX cX HX hoX hwX hfX
     have hxX:Ext H7 HX:=ext_wr2 (n:=HL.size) (hxA.trans hxL) (fun p hp=>hoL.block p hp) hwX
     have hSX:=(hSA.ext hxL).wr hwX (fun p hp=>hoL.typ p hp)
     have bX:=(bA.ext hxL).keep hwX (blk_off (by decide) (fun p hp=>hoL.typ p hp) (bA.ext hxL))
     have hlX:(chA k false i++M++[chRow k false i x]).length=(chA k false i++M).length+1:=List.length_append
     clear hrT bL hoL hSA bA hoA
     ((conv=>whnf);repeat(any_goals((first|refine Vc.stp ?_)<;>(intros;(conv=>whnf)))))
     exact⟨⟨j+1,aX,cX⟩,⟨rfl,by(show Value.slice _ _ _=Value.slice _ _ _;rw[hcs,←List.append_assoc,hlX]),trivial⟩,⟨hj2,by(dsimp only;rw[hcs,←List.append_assoc];exact hoX),hSX,bX,hxX⟩,by show 2-(j+1)<2-j;omega⟩
  ·obtain rfl:j=2:=by omega
   ((conv=>whnf);repeat(any_goals((first|refine Vc.stp ?_)<;>(intros;(conv=>whnf)))))
   exact⟨⟨i+1,oa,oc⟩,⟨rfl,(by(show Value.slice _ _ _=Value.slice _ _ _;rw[chA_succ];rfl)),trivial⟩,⟨hik,(by dsimp only;rw[chA_succ];exact hoA),hSA,hxA⟩,by show k-(i+1)<k-i;omega⟩
 ·obtain rfl:i=k:=by omega
  rw[chA_all]at ho8 hl8 ⊢
  have hss: ∀ (k:Nat) (w:Value),([.bool spCaret.any,.slice sa spCaret.or_.length sc]:List Value)[k]? =some w→hcell H8 ⟨H6.size,0+k,none⟩=some w:=fun k w hw=>blk_list hS8.s 0 k w (by rw[Nat.zero_add];exact hw)
  ((conv=>whnf);repeat(any_goals((first|((with_reducible apply SemH.load_spn);(focus((exact hss)));(focus((exact Vc.xt)));(focus((conv=>whnf))))|((with_reducible apply needBc);(focus((conv=>whnf))))|refine Vc.stp ?_)<;>(intros;(conv=>whnf)))))
  rename_i HL zL bL' xL
  have bL:=flat_1 (c:=[.string (mkS (numName 112 0)),.bool spCaret.any,.slice sa spCaret.or_.length sc,.string (mkS tCaret)]) bL'
  have hnL:RowL needT 45 HL (some ⟨H8.size,0,none⟩) [chNeed 0]:=(own_litE needT_ok.ok bL (LstV.one (c:=[.string (mkS (numName 112 0)),.bool spCaret.any,.slice sa spCaret.or_.length sc,.string (mkS tCaret)]) ⟨sa,sc,rfl,hS8.c,hS8.o.ext bndsT_ok xL⟩) (Nat.le_refl _) (by simp)).rowL
  have hrE:RowE rowE HL oa (chR i cut):=(ho8.ext rowT_ok.ok xL).rowL.to fun _ _=>rowT_E
  refine(solve_chain hk1 hk2 cut oa oc _ 1 HL ((hg7.ext hx8).ext xL) hrE (hnL.to fun _ _=>needT_E)).mono ?_
  rintro v HM ⟨hv,hxM⟩
  have hxF:Ext H HM:=hx07.trans (hx8.trans (xL.trans hxM))
  have hzM:=hxM.size
  clear hss bL' bL hnL hrE hS8 ho8
  cases cut with
  |true=>
   rw[if_pos rfl]at hv
   subst hv
   ((conv=>whnf);repeat(any_goals((first|refine Vc.stp ?_)<;>(intros;(conv=>whnf)))))
   exact⟨rfl,hxF⟩
  |false=>
   rw[if_neg (by decide)]at hv
   obtain⟨P,pa,pc,rfl,hPl,hP5,hP⟩:=hv
   ((conv=>whnf);repeat(any_goals((first|refine Vc.stp ?_)<;>(intros;(conv=>whnf)))))
   refine LoopH.intro (fun(x:Nat)=>[(19,.int .i64 x)]) (fun x H'=>x≤i∧HM=H') (fun x=>i-x) 0 ⟨rfl,trivial⟩ ⟨Nat.zero_le _,rfl⟩ ?_
   rintro j _ ⟨hj,rfl⟩
   by_cases hji:j<i
   ·obtain⟨p,hp⟩: ∃ p,P[j]? =some p:=⟨_,List.getElem?_eq_getElem (by omega)⟩
    have hpm:p.v.mi=5:=hP5 p (List.mem_of_getElem? hp)
    obtain⟨bV,oV,cV,hcV,hclV,hixV⟩:=hP.fix pin_ok (by decide) hPl hp
    obtain⟨xa,xc,ecV,_,_⟩:=(id hcV)
    have hmi:hcell HM ⟨bV,oV+1+1,none⟩=some (.int .i64 5):=hclV 2 _ (by rw[ecV];show some (Value.int .i64 (p.v.mi:Int))=_;rw[hpm];rfl)
    ((conv=>whnf);repeat(any_goals((first|(refine hixV _ _ rfl ?_)|refine Vc.stp ?_)<;>(intros;(conv=>whnf)))))
    exact⟨j+1,⟨rfl,trivial⟩,⟨hji,rfl⟩,by omega⟩
   ·obtain rfl:j=i:=by omega
    ((conv=>whnf);repeat(any_goals((first|refine Vc.stp ?_)<;>(intros;(conv=>whnf)))))
    exact⟨rfl,hxF⟩
end Go.Proofs.YtjdieklgoepdjaaGreatDoor
