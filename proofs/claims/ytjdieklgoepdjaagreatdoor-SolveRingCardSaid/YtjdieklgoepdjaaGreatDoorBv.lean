import Derived.Test.YtjdieklgoepdjaaGreatDoorKm
import Derived.Test.YtjdieklgoepdjaaGreatDoorKe
import Derived.Test.YtjdieklgoepdjaaGreatDoorKp
set_option linter.unusedVariables false
set_option linter.unusedSimpArgs false
set_option maxRecDepth 100000
/- SolveChain: along a chain of needs all are pinned at their greatest; one whose end lacks has nothing. -/
namespace Go.Slv
open Go.Scr Go.Tre
theorem ver100:verF [49,46,48,46,48]=some v100:=by decide+kernel
theorem ver150:verF [49,46,53,46,48]=some v150:=by decide+kernel
theorem span_caret:spanF tCaret=some spCaret:=by decide+kernel
theorem ofName_cnt (R:List RowP) (q:Txt): ∀ n,(ofName R q n).length≤((R.take n).filter fun r=>decide (r.name=q)).length
 |0=>by simp[ofName]
 |n+1=>by
  have ih:=ofName_cnt R q n
  have e1:ofName R q (n+1)=ofName R q n++if decide (∃ r,R[n]? =some r∧r.name=q)=true then [n]else []:=by
   unfold ofName
   rw[List.range_succ,List.filter_append]
   congr 1
   simp only[List.filter_cons,List.filter_nil]
  rw[e1,List.take_add_one,List.filter_append,List.length_append,List.length_append]
  refine Nat.add_le_add ih ?_
  by_cases h: ∃ r,R[n]? =some r∧r.name=q
  ·obtain⟨r,h1,h2⟩:=h
   rw[if_pos (decide_eq_true ⟨r,h1,h2⟩),h1]
   simp[h2]
  ·rw[if_neg (by rw[decide_eq_false h];decide)]
   exact Nat.zero_le _
def fewB (R:List RowP):Bool:=apartB R&&decide ((namesF R).length≤12)&&R.all fun r=>decide ((R.filter fun s=>decide (s.name=r.name)).length≤19)
theorem few_of {R:List RowP} (h:fewB R=true):Apart R∧(namesF R).length≤12∧ ∀ q,(ofName R q R.length).length≤19:=by
 unfold fewB at h
 simp only[Bool.and_eq_true,decide_eq_true_eq,List.all_eq_true]at h
 obtain⟨⟨h1,h2⟩,h3⟩:=h
 refine⟨apartB_apart h1,h2,fun q=> ?_⟩
 have h4:=ofName_cnt R q R.length
 rw[List.take_length]at h4
 cases hf:R.filter fun r=>decide (r.name=q)with
 |nil=>rw[hf]at h4;exact Nat.le_trans h4 (by decide)
 |cons s l=>
  have hs:s∈R.filter fun r=>decide (r.name=q):=by rw[hf];exact List.mem_cons_self
  obtain⟨g1,g2⟩:=List.mem_filter.1 hs
  rw[decide_eq_true_eq]at g2
  have:=h3 s g1
  rw[g2]at this
  exact Nat.le_trans h4 this
theorem chFew_all:((List.range 11).all fun n=>fewB (chR (n+1) false)&&fewB (chR (n+1) true))=true:=by decide+kernel
theorem chFew {k:Nat} (h1:1≤k) (h2:k≤11) (cut:Bool):fewB (chR k cut)=true:=by
 have h:=List.all_eq_true.1 chFew_all (k-1) (List.mem_range.2 (by omega))
 rw[show k-1+1=k by omega]at h
 rw[Bool.and_eq_true]at h
 cases cut
 ·exact h.1
 ·exact h.2
def chA (k:Nat) (cut:Bool) (i:Nat):List RowP:=(List.range i).flatMap fun j=>[chRow k cut j v100,chRow k cut j v150]
theorem chA_succ (k:Nat) (cut:Bool) (i:Nat):chA k cut (i+1)=chA k cut i++[chRow k cut i v100,chRow k cut i v150]:=by
 unfold chA
 rw[List.range_succ,List.flatMap_append]
 simp
theorem chA_len (k:Nat) (cut:Bool): ∀ i,(chA k cut i).length=2*i
 |0=>rfl
 |i+1=>by rw[chA_succ,List.length_append,chA_len k cut i];simp;omega
theorem chA_all (k:Nat) (cut:Bool):chA k cut k=chR k cut:=rfl
theorem chR_len (k:Nat) (cut:Bool):(chR k cut).length=2*k:=chA_len k cut k
def chI (k:Nat) (cut:Bool) (i j:Nat):List RowP:=[chRow k cut i v100,chRow k cut i v150].take j
end Go.Slv
namespace Go.Proofs.YtjdieklgoepdjaaGreatDoor
open Go Go.Vc Go.Scr Go.Slv
theorem chB {k:Nat} (cut:Bool):RowsB (chR k cut):=by
 have hz: ∀ r∈chR k cut,VerS r.v∧r.needs.length≤1000∧ ∀ n∈r.needs,SpnB n.span:=fun r hr=>by
  obtain⟨i,_,hi⟩:=List.mem_flatMap.1 hr
  have hn: ∀ v,(chRow k cut i v).needs.length≤1000∧ ∀ n∈(chRow k cut i v).needs,SpnB n.span:=fun v=>by
   unfold chRow
   dsimp only
   split
   ·refine⟨by show 1≤1000;decide,fun n hn=> ?_⟩
    rw[List.mem_singleton]at hn
    subst hn
    exact spn_b (s:=spCaret) (by decide)
   ·exact⟨Nat.zero_le _,fun n hn=>by cases hn⟩
  simp only[List.mem_cons,List.not_mem_nil,or_false]at hi
  rcases hi with rfl|rfl
  ·exact⟨verS_small (v:=v100) (by decide),hn v100⟩
  ·exact⟨verS_small (v:=v150) (by decide),hn v150⟩
 exact⟨fun r hr=>(hz r hr).1,fun r hr=>(hz r hr).2.1,fun r hr=>(hz r hr).2.2⟩
theorem solve_chain {k:Nat} (h1:1≤k) (h2:k≤11) (cut:Bool) (ra:Option Addr) (rc:Nat) (na:Option Addr) (nc:Nat) (H:Heap) (hg:Glb H) (hr:RowE rowE H ra (chR k cut)) (hn:RowE needE H na [chNeed 0]):
  CallH Tryz.prog 35 [.slice ra (chR k cut).length rc,.slice na 1 nc,.int .i64 1048576] H fun v H'=>(if cut then v= .tuple #[.slice none 0 0,.int .i64 70]else ∃ P a cap,v= .tuple #[.slice a k cap,.int .i64 0]∧List.length P=k∧(∀ p∈P,p.v.mi=5)∧RowE pinE H' a P)∧Ext H H':=by
 obtain⟨g1,g2,g3⟩:=few_of (chFew h1 h2 cut)
 have hl:=chR_len k cut
 refine(solve_any (chR k cut) [chNeed 0] g1 (chB cut) (by omega) (by decide) (fun n hn=>by rw[List.mem_singleton]at hn;subst hn;exact spn_b (s:=spCaret) (by decide)) g3 ra rc na nc 1048576 H hg hr hn).mono ?_
 rintro v H' ⟨hs,hx⟩
 refine⟨?_,hx⟩
 rcases hs with ⟨P,a,cap,e,_,_,h4,h5⟩|⟨e,_,h4⟩|⟨e,h⟩
 ·cases cut with
  |true=>cases solves_one h4 (chain_none h1 h2)
  |false=>
   obtain⟨Q,q1,q2,q3⟩:=chain_some h1 h2
   cases solves_one h4 q1
   rw[q2]at e
   exact⟨P,a,cap,e,q2,q3,h5⟩
 ·cases cut with
  |true=>exact e
  |false=>
   obtain⟨Q,q1,q2,q3⟩:=chain_some h1 h2
   cases solves_one h4 q1
 ·exact absurd ⟨by omega,g2,by decide⟩ (h (by decide))
end Go.Proofs.YtjdieklgoepdjaaGreatDoor
