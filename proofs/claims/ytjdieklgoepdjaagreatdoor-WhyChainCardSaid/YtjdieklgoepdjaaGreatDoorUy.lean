import Derived.Test.YtjdieklgoepdjaaGreatDoorKu
import Derived.Test.YtjdieklgoepdjaaGreatDoorKe
import Derived.Test.YtjdieklgoepdjaaGreatDoorKd
set_option linter.unusedVariables false
set_option linter.unusedSimpArgs false
set_option maxRecDepth 100000
/- WhyChain, walked. -/
namespace Go.Why
open Go.Scr Go.Tre Go.Slv
theorem wver100:verF [49,46,48,46,48]=some v100:=by decide+kernel
def wcA (k i:Nat):List RowP:=(List.range i).map (wcRow k)
def wcQ (i:Nat):List PinP:=(List.range i).map fun i=>⟨numName 112 i,v100,z32⟩
theorem wcA_succ (k i:Nat):wcA k (i+1)=wcA k i++[wcRow k i]:=by unfold wcA;rw[List.range_succ,List.map_append];rfl
theorem wcQ_succ (i:Nat):wcQ (i+1)=wcQ i++[⟨numName 112 i,v100,z32⟩]:=by unfold wcQ;rw[List.range_succ,List.map_append];rfl
theorem wcA_len (k i:Nat):(wcA k i).length=i:=by unfold wcA;rw[List.length_map,List.length_range]
theorem wcSort_all:((List.range 10).all fun k=>decide ((wcP k).Pairwise fun p q=>Op.bytesLess p.name q.name=true))=true:=by decide+kernel
theorem wcSort {k:Nat} (h:k≤9):SortP (wcP k):=by
 have h9:=List.all_eq_true.1 wcSort_all k (List.mem_range.2 (by omega))
 exact of_decide_eq_true (p:=(wcP k).Pairwise fun p q=>Op.bytesLess p.name q.name=true) h9
theorem wcQ_len (i:Nat):(wcQ i).length=i:=by unfold wcQ;rw[List.length_map,List.length_range]
end Go.Why
namespace Go.Proofs.YtjdieklgoepdjaaGreatDoor
open Go Go.Vc Go.Scr Go.Slv
open Go.Why (wcA wcQ wcR wcP wcN wcRow wcNeed wcA_succ wcQ_succ wcA_len wcQ_len pathF usersF)
structure WcI where
 i:Nat
 a:Option Addr
 cap:Nat
 pa:Option Addr
 pcap:Nat
def wverL (v:VerP) (a:Option Addr) (c:Nat):List Value:=[.int .i64 v.ma,.int .i64 v.mi,.int .i64 v.pa,.slice a v.pre.length c]
def wchC (s:Txt) (v:VerP) (pa:Option Addr) (pc:Nat) (na:Option Addr) (n nc:Nat):List Value:=[.string (mkS s),.int .i64 v.ma,.int .i64 v.mi,.int .i64 v.pa,.slice pa v.pre.length pc]++strV z32++[.int .i64 0,.slice na n nc]
theorem wrow_built2 {s:ByteArray} {v:VerP} {va:Option Addr} {vc:Nat}:Go.Program.built Tryz.prog 54 [(0,.string s),(1,verC v va vc)]=some (([.string s,.int .i64 v.ma,.int .i64 v.mi,.int .i64 v.pa,.slice va v.pre.length vc]:List Value)++strV z32++([.int .i64 0,.slice none 0 0]:List Value)).toArray:=by kernel_rfl
theorem wrowB2 {K:Value→Prop} {o1 o2:Operand} {s:ByteArray} {v:VerP} {va:Option Addr} {vc:Nat} (h:K (.agg (([.string s,.int .i64 v.ma,.int .i64 v.mi,.int .i64 v.pa,.slice va v.pre.length vc]:List Value)++strV z32++([.int .i64 0,.slice none 0 0]:List Value)).toArray)):PureH Tryz.prog (Instr.build 54 ((List.map (fun x:Nat×Operand=>x.1) (#[(0,o1),(1,o2)]:Array (Nat×Operand)).toList).zip [.string s,verC v va vc]).toArray) K:=PureH.build2 _ wrow_built2 h
theorem wneedB {K:Value→Prop} {o1 o2 o3:Operand} {s t:ByteArray} {b:Bool} {a:Option Addr} {n c:Nat} (h:K (.agg #[.string s,.bool b,.slice a n c,.string t])):PureH Tryz.prog (Instr.build 45 ((List.map (fun x:Nat×Operand=>x.1) (#[(0,o1),(1,o2),(2,o3)]:Array (Nat×Operand)).toList).zip [.string s,.agg #[.bool b,.slice a n c],.string t]).toArray) K:=PureH.build3 _ need_built h
theorem wpin_built {s:ByteArray} {v:VerP} {va:Option Addr} {vc:Nat}:Go.Program.built Tryz.prog 52 [(0,.string s),(1,verC v va vc)]=some (([.string s,.int .i64 v.ma,.int .i64 v.mi,.int .i64 v.pa,.slice va v.pre.length vc]:List Value)++strV z32).toArray:=by kernel_rfl
theorem wpinB {K:Value→Prop} {o1 o2:Operand} {s:ByteArray} {v:VerP} {va:Option Addr} {vc:Nat} (h:K (.agg (([.string s,.int .i64 v.ma,.int .i64 v.mi,.int .i64 v.pa,.slice va v.pre.length vc]:List Value)++strV z32).toArray)):PureH Tryz.prog (Instr.build 52 ((List.map (fun x:Nat×Operand=>x.1) (#[(0,o1),(1,o2)]:Array (Nat×Operand)).toList).zip [.string s,verC v va vc]).toArray) K:=PureH.build2 _ wpin_built h
theorem wcB (k:Nat):RowsB (wcR k):=by
 have hz: ∀ r∈wcR k,VerS r.v∧r.needs.length≤1000∧ ∀ n∈r.needs,SpnB n.span:=fun r hr=>by
  obtain⟨i,_,rfl⟩:=List.mem_map.1 hr
  refine⟨verS_small (v:=v100) (by decide),?_⟩
  unfold Go.Why.wcRow
  dsimp only
  split
  ·exact⟨by show 1≤1000;decide,fun n hn=>by rw[List.mem_singleton]at hn;subst hn;exact spn_b (s:=spAny) (by decide)⟩
  ·exact⟨Nat.zero_le _,fun n hn=>by cases hn⟩
 exact⟨fun r hr=>(hz r hr).1,fun r hr=>(hz r hr).2.1,fun r hr=>(hz r hr).2.2⟩
theorem wcPB (k:Nat): ∀ p∈wcP k,VerB p.v:=fun p hp=>by
 obtain⟨i,_,rfl⟩:=List.mem_map.1 hp
 exact verS_b (verS_small (v:=v100) (by decide))
theorem wflat {H:Heap} {b:Nat} {c:List Value} {t:TypeId} (h:Blk H b (List.flatMap (fun v:Value=>v.cells.toList) [Value.agg c.toArray]).toArray t):Blk H b c.toArray t:=by simpa [Value.cells]using h
theorem wblk_off {a:Option Addr} {H:Heap} {t u:TypeId} {b:Nat} {c:Array Value} (hne:u≠t) (ho: ∀ p,a=some p→ ∃ c,Blk H p.block c t) (h:Blk H b c u): ¬ ∃ p,a=some p∧p.block=b:=fun⟨p,hp,e⟩=>by
 obtain⟨c',g⟩:=ho p hp
 rw[e]at g
 exact hne (h.typ g)
theorem SemH.wrowLit {H:Heap} {c:List Value} {K:Value→Heap→Prop} (op:Operand) (hl:c.length=39) (hk: ∀ H',H'.size=H.size+1→Blk H' H.size c.toArray 54→Ext H H'→K (.slice (some ⟨H.size,0,none⟩) 1 1) H'):
  SemH Tryz.prog (Instr.buildSlice 26 1 ((List.map (fun x:Nat×Operand=>x.1) (#[(0,op)]:Array (Nat×Operand)).toList).zip [.agg c.toArray]).toArray) H K:=by
 refine SemH.lit (vs:=[.agg c.toArray]) rfl rfl rfl rfl rfl rfl ?_ fun H' h1 h2 h3=>hk H' h1 (wflat h2) h3
 show(Nat.beq c.toArray.size 39&&true)=true
 rw[List.size_toArray,hl];rfl
theorem wown_off {α:Type} {E:Heap→α→List Value→Prop} {s:Nat} {H:Heap} {base:Nat} {t u:TypeId} {a:Option Addr} {l:List α} {cap b:Nat} {c:Array Value} (ho:OwnE E s H base t a l cap) (h:Blk H b c u) (hne:u≠t): ¬ ∃ p,a=some p∧p.block=b:=wblk_off hne (fun p hp=>ho.typ p hp) h
set_option maxHeartbeats 8000000 in
theorem wchain_any {H:Heap} (hg:Glb H) (n:Nat) (hn:n<256) (sh:Nat) (hsh:sh<256):
  CallH Tryz.prog 7 [.int .u8 n,.int .u8 sh] H fun v H'=>v= .bool true∧Ext H H':=by
 refine Vc.CallH.body Tryz.func7 Tryz.call7 rfl (by decide+kernel) rfl ?_
 obtain⟨k,hk⟩: ∃ k,n % 8+2=k:=⟨_,rfl⟩
 have hk1:2≤k:=by omega
 have hk2:k≤9:=by omega
 have hki:(n:Int) % 8+2=(k:Int):=by rw[←hk];push_cast;rfl
 have v1:=fun H=>rver_any [49,46,48,46,48] (by decide) H
 rw[Go.Why.wver100]at v1
 ((conv=>whnf);repeat(any_goals((first|((fail_if_success (have:=hx1));show Go.Vc.CallH _ _ _ _ _;refine(known16_any hg).mono ?_;rintro _ H1 ⟨rfl,hx1⟩;have hz1:=hx1.size)|refine Vc.stp ?_)<;>(intros;(conv=>whnf)))))
 refine(v1 _).mono ?_
 rintro _ H2 ⟨⟨va,vc,rfl,_⟩,hx2⟩
 have hz2:=hx2.size
 ((conv=>whnf);repeat(any_goals((first|refine Vc.stp ?_)<;>(intros;(conv=>whnf)))))
 rename_i Hl zl bl xl
 unfold verC
 refine DoH.store_list (c:=wverL v100 va vc) bl rfl rfl rfl (fun u hu=>by simp[wverL]at hu;rcases hu with rfl|rfl|rfl|rfl<;>rfl) ?_
 intro H3 z3 c1 k3
 have hx23:Ext H2 H3:=xl.but k3 (Nat.le_refl _)
 clear xl bl k3
 ((conv=>whnf);repeat(any_goals((first|refine Vc.stp ?_)<;>(intros;(conv=>whnf)))))
 have hx03:=And.intro trivial (hx1.trans (hx2.trans hx23))
 clear hx1 hx2 hx23 v1
 rw[hki]
 have hR0:OwnE rowT 39 H3 H3.size 54 none (wcA k 0) 0:=OwnE.nil _ _ _ _ _
 have hP0:OwnE pinT 37 H3 H3.size 52 none (wcQ 0) 0:=OwnE.nil _ _ _ _ _
 refine LoopH.intro (fun(x:WcI)=>[(10,.int .i64 x.i),(8,.slice x.a (wcA k x.i).length x.cap),(9,.slice x.pa (wcQ x.i).length x.pcap)]) (fun x H'=>x.i≤k∧OwnE rowT 39 H' H3.size 54 x.a (wcA k x.i) x.cap∧OwnE pinT 37 H' H3.size 52 x.pa (wcQ x.i) x.pcap∧Blk H' H2.size (wverL v100 va vc).toArray 48∧And True (Ext H3 H')) (fun x=>k-x.i) ⟨0,none,0,none,0⟩ ⟨rfl,rfl,rfl,trivial⟩ ⟨Nat.zero_le _,hR0,hP0,c1,trivial,Ext.refl _⟩ ?_
 clear hR0 hP0 c1
 rintro⟨i,oa,oc,qa,qc⟩ H4 ⟨hi,ho4,hq4,c4,hx4⟩
 dsimp only at hi ho4 hq4 ⊢
 have hz4:=hx4.2.size
 have hl4:=wcA_len k i
 have hm4:=wcQ_len i
 by_cases hik:i<k
 ·have hvv: ∀ (j:Nat) (u:Value),([.int .i64 v100.ma,.int .i64 v100.mi,.int .i64 v100.pa,.slice va v100.pre.length vc]:List Value)[j]? =some u→hcell H4 ⟨H2.size,0+j,none⟩=some u:=fun j u hu=>blk_list c4 0 j u (by rw[Nat.zero_add];exact hu)
  have hdl:=itoa_len (i:Int) ⟨by omega,by omega⟩
  have hnm:(⟨#[112]⟩:ByteArray)++mkS (Lib.itoa (i:Int))=mkS (numName 112 i):=by
   rw[show(⟨#[112]⟩:ByteArray)=mkS [112]from rfl,mkS_app,itoa_decT i (by omega)];rfl
  ((conv=>whnf);repeat(any_goals((first|(first|(with_reducible refine Vc.DrawH.lin (id:=10) mixed ?_)|(with_reducible refine Vc.DrawL.split (es:=[]) 1 5 (by decide) (by decide) (by decide) ?_ ?_)|(with_reducible refine Vc.DrawL.held (es:=[(1,5)]) [0,3,1,2,4,5,6] [(1,[3]),(5,[3])] (by decide+kernel) ?_)|(with_reducible refine Vc.DrawL.held (es:=[(5,1)]) [0,3,5,1,2,4,6] [(5,[3]),(1,[3])] (by decide+kernel) ?_))|(show Go.Vc.CallH _ _ _ _ _;refine(rdec_any i (by omega) _).mono ?_;rintro _ _ ⟨rfl,rfl⟩)|((with_reducible apply SemH.load_ver);(focus((exact hvv)));(focus((exact Vc.xt)));(focus((conv=>whnf))))|((with_reducible apply wrowB2);(focus((conv=>whnf))))|(refine NeedH.mk ⟨by(simp only[ByteArray.size_append,szL2,szM2,List.length_cons,List.length_nil];omega),?_⟩)|(refine Vc.StillsH.load rfl rfl rfl rfl rfl rfl (by exact SemH.load_ver hvv (by exact Vc.xt) rfl) ?_)|refine Vc.stp ?_)<;>(intros;(conv=>whnf)))))
  all_goals
   rename_i HD zD bD xD HE zE bE' kE
   rw[hnm]at bE'
   have bE:Blk HE H4.size (wchC (numName 112 i) v100 va vc none 0 0).toArray 54:=bE'
   have hxE:Ext H4 HE:=xD.but kE (Nat.le_refl _)
   have hzE:=hxE.size
   clear bE' xD bD kE
   by_cases h1:i+1<k
   have hdl2:=itoa_len ((i+1:Nat):Int) ⟨by omega,by omega⟩
   have hnm2:(⟨#[112]⟩:ByteArray)++mkS (Lib.itoa ((i+1:Nat):Int))=mkS (numName 112 (i+1)):=by
    rw[show(⟨#[112]⟩:ByteArray)=mkS [112]from rfl,mkS_app,itoa_decT (i+1) (by omega)];rfl
   have hneed:(wcRow k i).needs=[wcNeed (i+1)]:=by
    unfold Go.Why.wcRow
    dsimp only
    rw[if_pos h1]
   have hn0:hcell HE ⟨H4.size,0+38,none⟩=some (Value.slice none 0 0):=blk_list bE 0 38 _ (by rw[Nat.zero_add];rfl)
   ((conv=>whnf);repeat(any_goals((first|((with_reducible refine Vc.DrawH.held [0,1,2,3,6,4,5,7,8,9,10,11] [(4,[1]),(8,[1])] mixed (by decide+kernel) ?_))|(show Go.Vc.CallH _ _ _ _ _;refine(rdec_any (i+1) (by omega) _).mono ?_;rintro _ _ ⟨rfl,rfl⟩)|((with_reducible apply spanB);(focus((conv=>whnf))))|((with_reducible apply wneedB);(focus((conv=>whnf))))|(refine NeedH.mk ⟨by(simp only[ByteArray.size_append,szL2,szM2,List.length_cons,List.length_nil];omega),?_⟩)|refine Vc.stp ?_)<;>(intros;(conv=>whnf)))))
   rename_i HF zF bF xF
   rw[hnm2]at bF
   have bF':=wflat (c:=[.string (mkS (numName 112 (i+1))),.bool true,.slice none 0 0,.string (mkS [42])]) bF
   have hnT:needT HF (wcNeed (i+1)) [.string (mkS (numName 112 (i+1))),.bool true,.slice none 0 0,.string (mkS [42])]:=⟨none,0,rfl,Nat.le_refl _,RowL.nil _ _ _ _⟩
   have hzF:=xF.size
   refine NextH.appE (l2:=[wcNeed (i+1)]) (base:=HF.size) needT_ok rfl ⟨_,rfl,fun _ h=>by cases h⟩ rfl rfl rfl rfl (by decide) (by decide) (OwnE.nil needT 4 HF HF.size 45) rfl (Blk.row bF') (LstV.one hnT) rfl (by decide) (Nat.le_refl _) ?_
   intro nA nc' HG hoG hwG hfG
   have hxG:Ext HF HG:=Only.mono hwG fun b ⟨p,hp,_⟩=>(by cases hp)
   have hzG:=hxG.size
   have bEG:=bE.ext (xF.trans hxG)
   have hcG:=hoG.cap_le
   clear hwG hfG bF bF' hnT bE hn0
   refine DoH.store1 (o:=0+38) bEG rfl rfl rfl (show 38<39 from by decide) ?_
   intro HH zH bH' kH
   have hxH:Ext H4 HH:=(hxE.trans (xF.trans hxG)).but kH (Nat.le_refl _)
   obtain⟨nn,hnn⟩: ∃ nn,(wcRow k i).needs.length=nn:=⟨_,rfl⟩
   have hnn1:nn=1:=by rw[←hnn,hneed];rfl
   have bH:Blk HH H4.size (wchC (numName 112 i) v100 va vc nA nn nc').toArray 54:=by rw[hnn1];exact bH'
   have hnr:RowL needT 45 HH nA (wcRow k i).needs:=by
    rw[hneed]
    exact hoG.rowL.keep needT_ok kH fun b c u hb hB hu=>by
     subst hb
     have h9:=hB.typ bEG
     rw[h9]at hu
     revert hu;decide
   have hncl:nn≤nc':=by rw[hnn1];exact hcG
   clear bH' bEG hoG hcG hneed
   ((conv=>whnf);repeat(any_goals((first|refine Vc.stp ?_)<;>(intros;(conv=>whnf)))))
   rotate_left
   obtain⟨HH,hHH⟩: ∃ HH,HH=HE:=⟨_,rfl⟩
   obtain⟨nn,hnn⟩: ∃ nn,(wcRow k i).needs.length=nn:=⟨_,rfl⟩
   have hneed:(wcRow k i).needs=[]:=by
    unfold Go.Why.wcRow
    dsimp only
    rw[if_neg h1]
   have hnn1:nn=0:=by rw[←hnn,hneed];rfl
   obtain⟨nA,hnA⟩: ∃ nA:Option Addr,nA=none:=⟨_,rfl⟩
   obtain⟨nc',hnc'⟩: ∃ nc':Nat,nc'=0:=⟨_,rfl⟩
   have bH:Blk HH H4.size (wchC (numName 112 i) v100 va vc nA nn nc').toArray 54:=by rw[hnn1,hnA,hnc',hHH];exact bE
   have hnr:RowL needT 45 HH nA (wcRow k i).needs:=by rw[hneed];exact RowL.nil _ _ _ _
   have hncl:nn≤nc':=by omega
   have hxH:Ext H4 HH:=by rw[hHH];exact hxE
   rw[←hHH]
   all_goals
    have hl39:(wchC (numName 112 i) v100 va vc nA nn nc').length=39:=rfl
    have hl37:(pinL (numName 112 i) v100 z32 va vc).length=37:=pinL_len rfl
    have hcr: ∀ (j:Nat) (u:Value),(wchC (numName 112 i) v100 va vc nA nn nc')[j]? =some u→hcell HH ⟨H4.size,0+j,none⟩=some u:=fun j u hu=>blk_list bH 0 j u (by rw[Nat.zero_add];exact hu)
    have hcn:hcell HH ⟨H4.size,0+0,none⟩=some (Value.string (mkS (numName 112 i))):=hcr 0 _ rfl
    ((conv=>whnf);repeat(any_goals((first|(first|(with_reducible refine Vc.DrawH.lin (id:=13) mixed ?_)|(with_reducible refine Vc.DrawL.split (es:=[]) 2 9 (by decide) (by decide) (by decide) ?_ ?_)|(with_reducible refine Vc.DrawL.split (es:=[(2,9)]) 3 9 (by decide) (by decide) (by decide) ?_ ?_)|(with_reducible refine Vc.DrawL.held (es:=[(3,9),(2,9)]) [0,1,4,5,6,7,8,2,3,9,10,11,12] [(2,[6,7]),(3,[6,7])] (by decide+kernel) ?_)|(with_reducible refine Vc.DrawL.held (es:=[(9,3),(2,9)]) [0,1,4,5,6,7,8,2,9,3,10,11,12] [(2,[6,7])] (by decide+kernel) ?_)|(with_reducible refine Vc.DrawL.held (es:=[(9,2)]) [0,1,4,5,6,7,8,9,2,3,10,11,12] [(9,[1])] (by decide+kernel) ?_))|((with_reducible apply SemH.load_irow);(focus((exact hl39)));(focus((exact hcr)));(focus((exact Vc.xt)));(focus((conv=>whnf))))|(refine SemH.wrowLit _ hl39 ?_;intro HR zR bR xR)|((with_reducible apply SemH.load_ver);(focus((exact hvv)));(focus((exact Vc.xt)));(focus((conv=>whnf))))|((with_reducible apply wpinB);(focus((conv=>whnf))))|(refine SemH.pinLit (c:=pinL (numName 112 i) v100 z32 va vc) _ hl37 ?_;intro HP zP bP xP)|(refine Vc.StillsH.load rfl rfl rfl rfl rfl rfl (by first|exact SemH.load_ver hvv (by exact Vc.xt) rfl|exact SemH.load_irow hl39 hcr (by exact Vc.xt) rfl|exact SemH.load_old rfl (by assumption) (by exact Vc.xt) rfl) ?_)|refine Vc.stp ?_)<;>(intros;(conv=>whnf)))))
    all_goals
     refine NextH.appE (ws:=wchC (numName 112 i) v100 va vc nA nn nc') (l2:=[wcRow k i]) rowT_ok rfl ⟨_,rfl,fun _ h=>by cases h⟩ rfl rfl rfl rfl (by decide) (by unfold rowTT;decide) (ho4.ext rowT_ok.ok (by exact Vc.xt)) rfl (Blk.row (bR.ext (by exact Vc.xt))) (LstV.one ⟨va,vc,nA,nc',(by rw[hnn];rfl),rfl,Nat.zero_le _,RowT.nil _ _ _,(by rw[hnn];exact hncl),hnr.ext needT_ok (by exact Vc.xt)⟩) rfl (by omega) (by have:=hxH.size;omega) ?_
     intro aX cX HX hoX hwX hfX
     have hzX:=hwX.size
     have cX4:Blk HX H2.size (wverL v100 va vc).toArray 48:=(c4.ext (by exact Vc.xt)).keep hwX (wown_off (ho4.ext rowT_ok.ok (by exact Vc.xt)) (c4.ext (by exact Vc.xt)) (by decide))
     have hqX:OwnE pinT 37 HX H3.size 52 qa (wcQ i) qc:=(hq4.ext pinT_ok.ok (by exact Vc.xt)).keep pinT_ok hwX (fun b c u hb hB hu=>wown_off (ho4.ext rowT_ok.ok (by exact Vc.xt)) hB (by rw[hu];decide) hb) (fun q hq hb=>by
      obtain⟨c',hc'⟩:=(hq4.ext pinT_ok.ok (by exact Vc.xt)).typ q hq
      exact wown_off (ho4.ext rowT_ok.ok (by exact Vc.xt)) hc' (by decide) hb)
     have bHX:=(bH.ext (by exact Vc.xt)).keep hwX (fun⟨p,hp,e⟩=>by have:=(ho4.block p hp).2;omega)
     have hnX:hcell HX ⟨H4.size,0+0,none⟩=some (Value.string (mkS (numName 112 i))):=blk_list bHX 0 0 _ rfl
     have hvX: ∀ (j:Nat) (u:Value),([.int .i64 v100.ma,.int .i64 v100.mi,.int .i64 v100.pa,.slice va v100.pre.length vc]:List Value)[j]? =some u→hcell HX ⟨H2.size,0+j,none⟩=some u:=fun j u hu=>blk_list cX4 0 j u (by rw[Nat.zero_add];exact hu)
     have hx3X:Ext H3 HX:=ext_wr2 (n:=H4.size) (hx4.2.trans (by exact Vc.xt)) (fun p hp=>ho4.block p hp) hwX
     first|have bPX:=bP.keep hwX (wown_off (ho4.ext rowT_ok.ok (by exact Vc.xt)) bP (by decide))|have bPX:=(bP.ext xR).keep hwX (wown_off (ho4.ext rowT_ok.ok (by exact Vc.xt)) (bP.ext xR) (by decide))|skip
     have hlX:=wcA_succ k i
     have hlQ:=wcQ_succ i
     have hzX3:=hx3X.size
     ((conv=>whnf);repeat(any_goals((first|((with_reducible apply wpinB);(focus((conv=>whnf))))|(refine SemH.pinLit (c:=pinL (numName 112 i) v100 z32 va vc) _ hl37 ?_;intro HP zP bP xP)|((with_reducible apply SemH.load_ver);(focus((exact hvX)));(focus((exact Vc.xt)));(focus((conv=>whnf))))|(refine Vc.StillsH.load rfl rfl rfl rfl rfl rfl (by first|exact SemH.load_ver hvX (by exact Vc.xt) rfl|exact SemH.load_old rfl (by assumption) (by exact Vc.xt) rfl) ?_)|refine Vc.stp ?_)<;>(intros;(conv=>whnf)))))
     refine NextH.appE (ws:=pinL (numName 112 i) v100 z32 va vc) (l2:=[⟨numName 112 i,v100,z32⟩]) pinT_ok rfl ⟨_,rfl,fun _ h=>by cases h⟩ rfl rfl rfl rfl (by decide) (by decide) (hqX.ext pinT_ok.ok (by exact Vc.xt)) rfl (by first|exact Blk.row bPX|exact Blk.row bP) (LstV.one ⟨va,vc,rfl,rfl,Nat.zero_le _,RowT.nil _ _ _⟩) rfl (by omega) (by first|omega|(have:=xP.size;omega)) ?_
     intro aY cY HY hoY hwY hfY
     have hx3Y:Ext H3 HY:=ext_wr2 (n:=HX.size) (hx3X.trans (by exact Vc.xt)) (fun p hp=>hqX.block p hp) hwY
     have cY4:Blk HY H2.size (wverL v100 va vc).toArray 48:=(cX4.ext (by exact Vc.xt)).keep hwY (wown_off (hqX.ext pinT_ok.ok (by exact Vc.xt)) (cX4.ext (by exact Vc.xt)) (by decide))
     have hrY:OwnE rowT 39 HY H3.size 54 aX (wcA k i++[wcRow k i]) cX:=(hoX.ext rowT_ok.ok (by exact Vc.xt)).keep rowT_ok hwY (fun b c u hb hB hu=>wown_off (hqX.ext pinT_ok.ok (by exact Vc.xt)) hB (by rintro rfl;revert hu;unfold rowTT;decide) hb) (fun q hq hb=>by
      obtain⟨c',hc'⟩:=(hoX.ext rowT_ok.ok (by exact Vc.xt)).typ q hq
      exact wown_off (hqX.ext pinT_ok.ok (by exact Vc.xt)) hc' (by decide) hb)
     ((conv=>whnf);repeat(any_goals((first|refine Vc.stp ?_)<;>(intros;(conv=>whnf)))))
     exact⟨⟨i+1,aX,cX,aY,cY⟩,⟨rfl,by show Value.slice _ _ _=Value.slice _ _ _;rw[hlX,List.length_append];rfl,by show Value.slice _ _ _=Value.slice _ _ _;rw[hlQ,List.length_append];rfl,trivial⟩,⟨hik,by dsimp only;rw[hlX];exact hrY,by dsimp only;rw[hlQ];exact hoY,cY4,trivial,hx3Y⟩,by show k-(i+1)<k-i;omega⟩
 ·obtain rfl:i=k:=by omega
  have hRk:wcA i i=wcR i:=rfl
  have hQk:wcQ i=wcP i:=rfl
  rw[hRk,hQk]at*
  have hdl:=itoa_len ((i-1:Nat):Int) ⟨by omega,by omega⟩
  have hnm:(⟨#[112]⟩:ByteArray)++mkS (Lib.itoa ((i-1:Nat):Int))=mkS (numName 112 (i-1)):=by
   rw[show(⟨#[112]⟩:ByteArray)=mkS [112]from rfl,mkS_app,itoa_decT (i-1) (by omega)];rfl
  have hi1:(i:Int)-1=((i-1:Nat):Int):=by omega
  ((conv=>whnf);repeat(any_goals((first|((with_reducible apply spanB);(focus((conv=>whnf))))|((with_reducible apply wneedB);(focus((conv=>whnf))))|(show Go.Vc.CallH _ _ _ _ _;rw[hi1];refine(rdec_any (i-1) (by omega) _).mono ?_;rintro _ _ ⟨rfl,rfl⟩)|(refine NeedH.mk ⟨by(simp only[ByteArray.size_append,szL2,szM2,List.length_cons,List.length_nil];omega),?_⟩)|refine Vc.stp ?_)<;>(intros;(conv=>whnf)))))
  rename_i H5 z5 b5' x5
  rw[hnm]
  have b5:=wflat (c:=[.string (mkS (numName 112 0)),.bool true,.slice none 0 0,.string (mkS [42])]) b5'
  have hrl:(wcR i).length=i:=wcA_len i i
  have hql:(wcP i).length=i:=wcQ_len i
  have hoN:OwnE needT 4 H5 H4.size 45 (some ⟨H4.size,0,none⟩) [wcNeed 0] 1:=own_litE needT_ok.ok b5 (LstV.one (c:=[.string (mkS (numName 112 0)),.bool true,.slice none 0 0,.string (mkS [42])]) ⟨none,0,rfl,Nat.le_refl _,RowL.nil _ _ _ _⟩) (Nat.le_refl _) (by decide)
  have hRE:RowE rowE H4 oa (wcR i):=ho4.rowL.to fun _ _=>rowT_E
  have hPE:RowE pinE H4 qa (wcP i):=hq4.rowL.to fun _ _=>pinT_E
  obtain⟨hap,hw0⟩:=Go.Why.chain_way hk1 hk2 (s:=0) (by omega)
  have hN0:wcN 0=[wcNeed 0]:=rfl
  rw[hN0]at hw0
  have hpc:=fun H' (x:Ext H4 H') N na nn nc (hN:RowE needE H' na N) (hnn:N.length=nn) (hnl:nn≤1000)=>wpath_any (wcR i) (wcB i) (by omega) N (wcP i) (wcPB i) (numName 112 (i-1)) oa na qa _ oc nn nc _ qc H' (hRE.ext row_ok x) hN (hPE.ext pin_ok x) rfl hnn hnl rfl (by omega)
  have huc:=fun H' (x:Ext H4 H') N na nn nc name (hN:RowE needE H' na N) (hnn:N.length=nn) (hnl:nn≤1000)=>wusers_any (wcR i) (wcB i) N (wcP i) (Go.Why.wcSort hk2) (wcPB i) name oa na qa _ oc nn nc _ qc H' (hRE.ext row_ok x) hN (hPE.ext pin_ok x) rfl (by omega) hnn (by omega) rfl (by omega)
  refine(hpc H5 x5 [wcNeed 0] _ 1 1 (hoN.rowL.to fun _ _=>needT_E) rfl (by decide)).mono ?_
  rintro _ H6 ⟨⟨wa,wc,rfl,hwc,hwr⟩,hx6⟩
  have hz6:=hx6.size
  obtain⟨A,hA⟩: ∃ A,pathF (wcR i) [wcNeed 0] (wcP i) (numName 112 (i-1))=A:=⟨_,rfl⟩
  rw[hA]at hw0 hwc hwr ⊢
  have hAl:A.length=i:=hw0.len
  have hA0:A[0]? =some (numName 112 0):=hw0.fst
  have hA1:A[i-1]? =some (numName 112 (i-1)):=hw0.lst
  obtain⟨sv,hsv⟩: ∃ sv,sh % i=sv:=⟨_,rfl⟩
  have hsi:(sh:Int) % (i:Int)=(sv:Int):=by rw[←hsv];push_cast;rfl
  have hsl:sv<i:=by rw[←hsv];exact Nat.mod_lt _ (by omega)
  have hx46:=And.intro trivial (x5.trans hx6)
  have e1:(!((mkS (numName 112 0)).toList==(⟨#[112,48]⟩:ByteArray).toList))=false:=by rw[show(⟨#[112,48]⟩:ByteArray)=mkS (numName 112 0)from rfl];simp
  have e2:(!((mkS (numName 112 (i-1))).toList==(mkS (numName 112 (i-1))).toList))=false:=by simp
  ((conv=>whnf);repeat(any_goals((first|(refine IdxA.strv hwr rfl 0 (numName 112 0) rfl hA0 ?_;intro _ _ _ _ _)|(refine IdxA.strv hwr rfl (i-1) (numName 112 (i-1)) (by omega) hA1 ?_;intro _ _ _ _ _)|(refine RemH.pos (by omega) ?_;rw[hsi])|refine Vc.stp ?_)<;>(intros;(conv=>whnf)))))
  have hnmj: ∀ j:Nat,j≤20→(⟨#[112]⟩:ByteArray)++mkS (Lib.itoa (j:Int))=mkS (numName 112 j):=fun j hj=>by
   rw[show(⟨#[112]⟩:ByteArray)=mkS [112]from rfl,mkS_app,itoa_decT j (by omega)];rfl
  have hsl2:=itoa_len (sv:Int) ⟨by omega,by omega⟩
  have hx03':=And.intro trivial (hx03.2.trans (hx4.2.trans (x5.trans hx6)))
  by_cases hs0:sv=0
  ·subst hs0
   have hU:usersF (wcR i) [wcNeed 0] (wcP i) (numName 112 0)=[[]]:=hw0.usr
   have hNE6:RowE needE H6 (some ⟨H4.size,0,none⟩) [wcNeed 0]:=(hoN.rowL.to fun _ _=>needT_E).ext need_ok hx6
   have hp2:=hpc H6 hx46.2 [wcNeed 0] _ 1 1 hNE6 rfl (by decide)
   rw[hA]at hp2
   have hu2:=fun H' (x:Ext H6 H')=>huc H' (hx46.2.trans x) [wcNeed 0] _ 1 1 (numName 112 0) (hNE6.ext need_ok x) rfl (by decide)
   rw[hU]at hu2
   ((conv=>whnf);repeat(any_goals((first|((fail_if_success (have:=hx7));show Go.Vc.CallH _ _ _ _ _;refine hp2.mono ?_;rintro _ H7 ⟨⟨w2,c2,rfl,hwc2,hwr2⟩,hx7⟩;have hz7:=hx7.size)|(show Go.Vc.CallH _ _ _ _ _;refine(rdec_any 0 (by omega) _).mono ?_;rintro _ _ ⟨rfl,rfl⟩)|(refine NeedH.mk ⟨by(simp only[ByteArray.size_append,szL2,szM2,List.length_cons,List.length_nil];omega),?_⟩)|refine Vc.stp ?_)<;>(intros;(conv=>whnf)))))
   rw[hnmj 0 (by omega)]
   refine(hu2 H7 hx7).mono ?_
   rintro _ H8 ⟨⟨ua,uc,rfl,hur,_⟩,hx8⟩
   have hz8:=hx8.size
   ((conv=>whnf);repeat(any_goals((first|refine Vc.stp ?_)<;>(intros;(conv=>whnf)))))
   rename_i H9 z9 b9 x9
   refine(strings_any [[]] [[]] ua (some ⟨H8.size,0,none⟩) _ 1 uc 1 H9 (hur.ext x9) (Blk.row (c:=strs [[]]) b9) rfl rfl (by decide) (by decide)).mono ?_
   rintro _ _ ⟨rfl,rfl⟩
   rw[decide_eq_true (Eq.refl ([[]]:List Bs))]
   ((conv=>whnf);repeat(any_goals((first|refine Vc.stp ?_)<;>(intros;(conv=>whnf)))))
   exact⟨rfl,hx03'.2.trans (hx7.trans (hx8.trans x9))⟩
  ·obtain⟨t,rfl⟩: ∃ t,sv=t+1:=⟨sv-1,by omega⟩
   obtain⟨_,hwt⟩:=Go.Why.chain_way hk1 hk2 (s:=t+1) hsl
   have hN1:wcN (t+1)=[wcNeed 0]++[wcNeed (t+1)]:=rfl
   rw[hN1]at hwt
   ((conv=>whnf);repeat(any_goals((first|((with_reducible apply spanB);(focus((conv=>whnf))))|((with_reducible apply wneedB);(focus((conv=>whnf))))|(show Go.Vc.CallH _ _ _ _ _;refine(rdec_any (t+1) (by omega) _).mono ?_;rintro _ _ ⟨rfl,rfl⟩)|(refine NeedH.mk ⟨by(simp only[ByteArray.size_append,szL2,szM2,List.length_cons,List.length_nil];omega),?_⟩)|refine Vc.stp ?_)<;>(intros;(conv=>whnf)))))
   rename_i H7 z7 b7' x7
   rw[hnmj (t+1) (by omega)]at b7'
   have b7:=wflat (c:=[.string (mkS (numName 112 (t+1))),.bool true,.slice none 0 0,.string (mkS [42])]) b7'
   have hnT:needT H7 (wcNeed (t+1)) [.string (mkS (numName 112 (t+1))),.bool true,.slice none 0 0,.string (mkS [42])]:=⟨none,0,rfl,Nat.le_refl _,RowL.nil _ _ _ _⟩
   have hoN7:=hoN.ext needT_ok.ok (hx6.trans x7)
   have hz7:=(hx6.trans x7).size
   refine NextH.appE (l2:=[wcNeed (t+1)]) needT_ok rfl ⟨_,rfl,fun _ h=>by cases h⟩ rfl rfl rfl rfl (by decide) (by decide) hoN7 rfl (Blk.row b7) (LstV.one hnT) rfl (by decide) (by omega) ?_
   intro nX cX HX hoX hwX hfX
   have hx5X:Ext H4 HX:=ext_wr2 (n:=H7.size) (hx46.2.trans x7) (fun p hp=>by cases hp;exact⟨Nat.le_refl _,(hoN7.block _ rfl).2⟩) hwX
   have hNX:RowE needE HX nX ([wcNeed 0]++[wcNeed (t+1)]):=hoX.rowL.to fun _ _=>needT_E
   have hp2:=hpc HX hx5X _ nX 2 cX hNX rfl (by decide)
   obtain⟨B,hB⟩: ∃ B,pathF (wcR i) ([wcNeed 0]++[wcNeed (t+1)]) (wcP i) (numName 112 (i-1))=B:=⟨_,rfl⟩
   rw[hB]at hwt hp2
   have hBl:B.length=i-(t+1):=hwt.len
   have hB0:B[0]? =some (numName 112 (t+1)):=hwt.fst
   have hU:usersF (wcR i) ([wcNeed 0]++[wcNeed (t+1)]) (wcP i) (numName 112 (t+1))=[[],numName 112 t]:=hwt.usr
   have hu2:=fun H' (x:Ext HX H')=>huc H' (hx5X.trans x) _ nX 2 cX (numName 112 (t+1)) (hNX.ext need_ok x) rfl (by decide)
   rw[hU]at hu2
   ((conv=>whnf);repeat(any_goals((first|((fail_if_success (have:=hx8));show Go.Vc.CallH _ _ _ _ _;refine hp2.mono ?_;rintro _ H8 ⟨⟨w2,c2,rfl,hwc2,hwr2⟩,hx8⟩;have hz8:=hx8.size)|(show Go.Vc.CallH _ _ _ _ _;refine(rdec_any (t+1) (by omega) _).mono ?_;rintro _ _ ⟨rfl,rfl⟩)|(refine NeedH.mk ⟨by(simp only[ByteArray.size_append,szL2,szM2,List.length_cons,List.length_nil];omega),?_⟩)|refine Vc.stp ?_)<;>(intros;(conv=>whnf)))))
   rw[hnmj (t+1) (by omega)]
   refine(hu2 H8 hx8).mono ?_
   rintro _ H9 ⟨⟨ua,uc,rfl,hur,_⟩,hx9⟩
   have hz9:=hx9.size
   have hwr9:=hwr2.ext hx9
   have ht1:((t+1:Nat):Int)-1=(t:Int):=by omega
   have hdt:=itoa_len (t:Int) ⟨by omega,by omega⟩
   have e3:((mkS (numName 112 (t+1))).toList==((⟨#[112]⟩:ByteArray)++mkS (Lib.itoa ((t+1:Nat):Int))).toList)=true:=by rw[hnmj (t+1) (by omega)];simp
   ((conv=>whnf);repeat(any_goals((first|((with_reducible refine Vc.DrawH.held [0,1,2,3,4,5,6,7,8,9,10,11,12,13,14,15,16,17,18,19,20,21,22,23,24] [(11,[9])] mixed (by decide+kernel) ?_))|(refine IdxA.strv hwr9 rfl 0 (numName 112 (t+1)) rfl hB0 ?_;intro _ _ _ _ _)|(show Go.Vc.CallH _ _ _ _ _;refine(rdec_any (t+1) (by omega) _).mono ?_;rintro _ _ ⟨rfl,rfl⟩)|(show Go.Vc.CallH _ _ _ _ _;rw[ht1];refine(rdec_any t (by omega) _).mono ?_;rintro _ _ ⟨rfl,rfl⟩)|(refine NeedH.mk ⟨by(simp only[ByteArray.size_append,szL2,szM2,List.length_cons,List.length_nil];omega),?_⟩)|refine Vc.stp ?_)<;>(intros;(conv=>whnf)))))
   rename_i HA zA bA xA
   rw[hnmj t (by omega)]at bA
   refine(strings_any [[],numName 112 t] [[],numName 112 t] ua (some ⟨H9.size,0,none⟩) _ 2 uc 2 HA (hur.ext xA) (Blk.row (c:=strs [[],numName 112 t]) bA) rfl rfl (show 2≤1000000000 by decide) (by decide)).mono ?_
   rintro _ _ ⟨rfl,rfl⟩
   rw[decide_eq_true (Eq.refl ([[],numName 112 t]:List Bs))]
   ((conv=>whnf);repeat(any_goals((first|(refine Vc.StillsH.load rfl rfl rfl rfl rfl rfl (by exact SemH.load_old rfl (by assumption) (by exact Vc.xt) rfl) ?_)|refine Vc.stp ?_)<;>(intros;(conv=>whnf)))))
   exact⟨rfl,hx03.2.trans (hx4.2.trans (hx5X.trans (hx8.trans (hx9.trans xA))))⟩
end Go.Proofs.YtjdieklgoepdjaaGreatDoor
