import Derived.Test.YtphkaogbcfdllaaGreatDoorKl
import Derived.Test.YtphkaogbcfdllaaGreatDoorKk
import Derived.Test.YtphkaogbcfdllaaGreatDoorKi
import Derived.Test.YtphkaogbcfdllaaGreatDoorKh
import Derived.ChangeMaps5
import Derived.Test.YtphkaogbcfdllaaGreatDoorTie
import Derived.Test.YtphkaogbcfdllaaGreatDoorCards
import Derived.ProofKit
import Derived.OpenShut
import Derived.LaidMore
import Derived.LaidHandle
import Derived.Lay
import Derived.Lib.LaidTab
import Derived.Stop.LaidErr
import Derived.SevenTiedAt
import Derived.Stop.Joined
set_option linter.unusedVariables false
set_option linter.unusedSimpArgs false
set_option maxRecDepth 100000
/- The laws' registry: what is made of numbers, with its archives (printed by tools/gen_wt.py out of Bj). -/
namespace Go.lb
open Go.cN Go.ew Go.cM
theorem Sj (k n v:Nat):(ob k n v).length<=4/\ ∀ f∈ob k n v,f.2.2.length<=1000:=by
 have h: ∀ k<10,∀ n<6,∀ v<6,(ob k n v).length<=4/\ ∀ f∈ob k n v,f.2.2.length<=1000:=by decide+kernel
 have e:ob k n v=ob (k % 10) (n % 6) (v % 6):=by
  have h1:eK n=eK (n % 6):=by unfold eK;rw[Nat.mod_mod]
  have h2:o7 v=o7 (v % 6):=by unfold o7;rw[Nat.mod_mod]
  unfold ob;rw[Nat.mod_mod,<-h1,<-h2]
 rw[e];exact h _ (eB _ (by decide)) _ (eB _ (by decide)) _ (eB _ (by decide))
def jE (R:List iN×List ap) (x:jP×(ap×Int)):List iN×List ap:=if(oC R.1 (eK x.1.n) (jG x.1.v)).isSome=true then R else(R.1++[nE x.1 x.2],R.2++[mT x.1.kind x.1.n x.1.v])
def tU (L:List (jP×(ap×Int))):List ap:=(L.foldl jE ([],[])).2
theorem ag4 (L:List (jP×(ap×Int))): ∀ R:List iN×List ap,(L.foldl jE R).1=L.foldl oY R.1:=by
 induction L with
 |nil=>intro R;rfl
 |cons x L ih=>
  intro R;rw[gU,gU,ih];congr 1;unfold jE oY;split<;>rfl
theorem ad8 {L:List jP} {S:List (ap×Int)} {i:Nat} {x:jP} (h:L[i]? =some x) (hS:S.length=i) (s:ap×Int):tU ((L.take (i+1)).zip (S++[s]))=if(oC (nw ((L.take i).zip S)) (eK x.n) (jG x.v)).isSome=true then tU ((L.take i).zip S)else tU ((L.take i).zip S)++[mT x.kind x.n x.v]:=by
 have hi:=(aH.1 h).1;rw[bX,h];have hz:(L.take i++(some x).toList).zip (S++[s])=(L.take i).zip S++[x].zip [s]:=List.zip_append (by rw[aJ];omega);rw[hz];unfold tU;rw[ig];have e:(((L.take i).zip S).foldl jE ([],[])).1=((L.take i).zip S).foldl oY []:=ag4 ((L.take i).zip S) ([],[]);unfold nw;rw[<-e];obtain⟨Z,hZ⟩: ∃ Z,((L.take i).zip S).foldl jE ([],[])=Z:=⟨_,rfl⟩;rw[hZ];show(jE Z (x,s)).2=_;unfold jE;split<;>rfl
end Go.lb
namespace Go.Proofs.YtphkaogbcfdllaaGreatDoor
open Go Go.Vc Go.cN Go.ew Go.lb
def E2 (H:ae) (b:ap) (c:List Value):Prop:=∃ a cap,c=[.slice a b.length cap]/\b.length<=cap/\cap<=maxLen/\mJ 5 H a (cv b)
theorem ag5 {H:ae} {base n cap size:Nat} {e:TypeId} {a:Option Addr} {xs:List Value} (h:cq H base e size a n cap xs):cap<=maxLen:=by
 rcases h.out with ⟨_,_,h1⟩|⟨_,_,_,_,_,_,hm,_⟩
 .omega
 .exact hm
theorem vV:qT E2 1 (fun t=>t=5):=⟨fun⟨_,_,e,_⟩=>by rw[e];rfl,fun⟨_,_,e,_⟩ u hu=>by
 rw[e]at hu;simp at hu;rw[hu];rfl,fun k hF ⟨a,cap,e,h,hm,r⟩=>⟨a,cap,e,h,hm,r.keep k fun b c u f hb=>hF b c u f hb⟩⟩
structure MdT where
 i:Nat
 S:List (ap×Int)
 ra:Option Addr
 rc:Nat
 A:List ap
 aa:Option Addr
 ac:Nat
set_option maxHeartbeats 40000000 in
theorem SV (L:List jP) (hL: ∀ x∈L,x.needs.length<=4) (a:Option Addr) (n cap:Nat) (H:ae) (hr:ia wy H a L) (hn:L.length=n) (mM:n<=40):
  az Tryz.prog 36 [.slice a n cap] H fun v H'=>(∃ S ra rc aa ac s,S.length=n/\v= .tuple #[.slice ra (nw (L.zip S)).length rc,.slice aa (tU (L.zip S)).length ac,.string s]/\ia ql H' ra (nw (L.zip S))/\(nw (L.zip S)).length<=rc/\ia E2 H' aa (tU (L.zip S))/\(tU (L.zip S)).length<=ac)/\ax H H':=by
 refine Vc.az.body Tryz.func36 Tryz.call36 rfl (by decide+kernel) rfl ?_;((conv=>whnf);repeat(any_goals((first|(first|(with_reducible refine Vc.cy.ku (id:=7) mixed ?_)|(with_reducible refine Vc.cg.split (es:=[]) 6 12 (by decide) (by decide) (by decide) ?_ ?_)|(with_reducible refine Vc.cg.split (es:=[(6,12)]) 8 12 (by decide) (by decide) (by decide) ?_ ?_)|(with_reducible refine Vc.cg.held (es:=[(8,12),(6,12)]) [0,1,2,3,4,5,7,6,8,9,10,11,12,13,14] [(6,[7])] (by decide+kernel) ?_)|(with_reducible refine Vc.cg.held (es:=[(12,8),(6,12)]) [0,1,2,3,4,5,7,6,12,8,9,10,11,13,14] [(6,[7]),(12,[7])] (by decide+kernel) ?_)|(with_reducible refine Vc.cg.held (es:=[(12,6)]) [0,1,2,3,4,5,7,12,6,8,9,10,11,13,14] [(12,[5,7]),(6,[7])] (by decide+kernel) ?_))|(first|(with_reducible refine Vc.cy.ku (id:=12) mixed ?_)|(with_reducible refine Vc.cg.split (es:=[]) 5 8 (by decide) (by decide) (by decide) ?_ ?_)|(with_reducible refine Vc.cg.split (es:=[(5,8)]) 5 13 (by decide) (by decide) (by decide) ?_ ?_)|(with_reducible refine Vc.cg.split (es:=[(5,13),(5,8)]) 8 13 (by decide) (by decide) (by decide) ?_ ?_)|(with_reducible refine Vc.cg.split (es:=[(8,13),(5,13),(5,8)]) 9 13 (by decide) (by decide) (by decide) ?_ ?_)|(with_reducible refine Vc.cg.held (es:=[(9,13),(8,13),(5,13),(5,8)]) [0,1,2,3,4,6,7,10,11,5,8,9,12,13,14] [(5,[6]),(8,[6]),(9,[6]),(13,[6])] (by decide+kernel) ?_)|(with_reducible refine Vc.cg.held (es:=[(13,9),(8,13),(5,13),(5,8)]) [0,1,2,3,4,6,7,10,11,5,8,13,9,12,14] [(5,[6]),(8,[6]),(13,[6]),(9,[6])] (by decide+kernel) ?_)|(with_reducible refine Vc.cg.held (es:=[(13,8),(5,13),(5,8)]) [0,1,2,3,4,6,7,10,11,5,13,8,9,12,14] [(5,[6]),(13,[6]),(8,[6]),(9,[6])] (by decide+kernel) ?_)|(with_reducible refine Vc.cg.held (es:=[(13,5),(5,8)]) [0,1,2,3,4,6,7,10,11,13,5,8,9,12,14] [(13,[4,6]),(5,[6]),(8,[6]),(9,[6])] (by decide+kernel) ?_)|(with_reducible refine Vc.cg.split (es:=[(8,5)]) 8 13 (by decide) (by decide) (by decide) ?_ ?_)|(with_reducible refine Vc.cg.split (es:=[(8,13),(8,5)]) 5 13 (by decide) (by decide) (by decide) ?_ ?_)|(with_reducible refine Vc.cg.split (es:=[(5,13),(8,13),(8,5)]) 9 13 (by decide) (by decide) (by decide) ?_ ?_)|(with_reducible refine Vc.cg.held (es:=[(9,13),(5,13),(8,13),(8,5)]) [0,1,2,3,4,6,7,10,11,8,5,9,12,13,14] [(8,[4,6]),(5,[6]),(9,[6]),(13,[6])] (by decide+kernel) ?_)|(with_reducible refine Vc.cg.held (es:=[(13,9),(5,13),(8,13),(8,5)]) [0,1,2,3,4,6,7,10,11,8,5,13,9,12,14] [(8,[4,6]),(5,[6]),(13,[6]),(9,[6])] (by decide+kernel) ?_)|(with_reducible refine Vc.cg.held (es:=[(13,5),(8,13),(8,5)]) [0,1,2,3,4,6,7,10,11,8,13,5,9,12,14] [(8,[4,6]),(13,[4,6]),(5,[6]),(9,[6])] (by decide+kernel) ?_)|(with_reducible refine Vc.cg.held (es:=[(13,8),(8,5)]) [0,1,2,3,4,6,7,10,11,13,8,5,9,12,14] [(13,[4,6]),(8,[4,6]),(5,[6]),(9,[6])] (by decide+kernel) ?_))|((with_reducible refine Vc.cy.held [0,1,2,3,4,5,6,7,8,10,11,12,13,9,14,15,16,17] [(9,[1,11]),(14,[1])] mixed (by decide+kernel) ?_))|refine Vc.aq ?_)<;>(intros;(conv=>whnf)))))
 refine dt.intro (fun(x:MdT)=>[(7,.int .i64 x.i),(5,.slice x.ra (nw ((L.take x.i).zip x.S)).length x.rc),(6,.slice x.aa x.A.length x.ac)]) (fun x H'=>x.i<=n/\x.S.length=x.i/\(∀ r∈nw ((L.take x.i).zip x.S),∃ k:Nat,r.size=(k:Int)/\k<=1000000000)/\(x.A.length<=x.i/\x.A=tU ((L.take x.i).zip x.S))/\gp ql 39 H' H.size 88 x.ra (nw ((L.take x.i).zip x.S)) x.rc/\gp E2 1 H' H.size 33 x.aa x.A x.ac/\ax H H') (fun x=>n-x.i) ⟨0,[],none,0,[],none,0⟩ ⟨rfl,rfl,rfl,aF⟩ ⟨aI _,rfl,fun r hr=>(by cases hr),⟨aI _,rfl⟩,gp.nil _ _ _ _ _,gp.nil _ _ _ _ _,ax.refl _⟩ ?_;rintro⟨i,S,ra,rc,A,aa,ac⟩ H1 ⟨hi,hS,ez,⟨hA,E3⟩,rK,Jh,cd⟩;dsimp only at hi hS ez hA E3 rK Jh ⊢;have eR:=cd.size;have GY:BP (nw ((L.take i).zip S)):=afH _ fun y hy=>hL y.1 (List.mem_of_mem_take (List.of_mem_zip hy).1);have oL:=ad3 ((L.take i).zip S);have Mm:=abg GY;rw[List.length_zip,aJ]at oL;by_cases ct:i<n
 .obtain⟨x,rG⟩: ∃ x,L[i]? =some x:=⟨_,aD (by omega)⟩;have cW:=aco rG hS;have Mn:=ad8 rG hS;obtain⟨R,hR⟩: ∃ R,nw ((L.take i).zip S)=R:=⟨_,rfl⟩;rw[hR]at rK GY oL Mm ez cW ⊢;simp only[hR]at Mn;rw[<-E3]at Mn;obtain⟨bi,oi,ci,jL,cU,kb⟩:=hr.fix F9 (by decide) hn rG;obtain⟨na,nc,ec,akG,wR,hb⟩:=(id jL);have iL:hcell H ⟨bi,oi+0,none⟩=some (Value.int .u8 x.n):=cU 0 _ (by rw[ec];rfl);have pq:hcell H ⟨bi,oi+1,none⟩=some (Value.int .u8 x.v):=cU 1 _ (by rw[ec];rfl);have q9:hcell H ⟨bi,oi+2,none⟩=some (Value.slice na x.needs.length nc):=cU 2 _ (by rw[ec];rfl);have IG:hcell H ⟨bi,oi+3,none⟩=some (Value.int .u8 x.kind):=cU 3 _ (by rw[ec];rfl);have hc4:hcell H ⟨bi,oi+4,none⟩=some (Value.int .u8 x.tg):=cU 4 _ (by rw[ec];rfl);((conv=>whnf);repeat(any_goals((first|(first|(with_reducible refine Vc.cy.ku (id:=7) mixed ?_)|(with_reducible refine Vc.cg.split (es:=[]) 6 12 (by decide) (by decide) (by decide) ?_ ?_)|(with_reducible refine Vc.cg.split (es:=[(6,12)]) 8 12 (by decide) (by decide) (by decide) ?_ ?_)|(with_reducible refine Vc.cg.held (es:=[(8,12),(6,12)]) [0,1,2,3,4,5,7,6,8,9,10,11,12,13,14] [(6,[7])] (by decide+kernel) ?_)|(with_reducible refine Vc.cg.held (es:=[(12,8),(6,12)]) [0,1,2,3,4,5,7,6,12,8,9,10,11,13,14] [(6,[7]),(12,[7])] (by decide+kernel) ?_)|(with_reducible refine Vc.cg.held (es:=[(12,6)]) [0,1,2,3,4,5,7,12,6,8,9,10,11,13,14] [(12,[5,7]),(6,[7])] (by decide+kernel) ?_))|(first|(with_reducible refine Vc.cy.ku (id:=12) mixed ?_)|(with_reducible refine Vc.cg.split (es:=[]) 5 8 (by decide) (by decide) (by decide) ?_ ?_)|(with_reducible refine Vc.cg.split (es:=[(5,8)]) 5 13 (by decide) (by decide) (by decide) ?_ ?_)|(with_reducible refine Vc.cg.split (es:=[(5,13),(5,8)]) 8 13 (by decide) (by decide) (by decide) ?_ ?_)|(with_reducible refine Vc.cg.split (es:=[(8,13),(5,13),(5,8)]) 9 13 (by decide) (by decide) (by decide) ?_ ?_)|(with_reducible refine Vc.cg.held (es:=[(9,13),(8,13),(5,13),(5,8)]) [0,1,2,3,4,6,7,10,11,5,8,9,12,13,14] [(5,[6]),(8,[6]),(9,[6]),(13,[6])] (by decide+kernel) ?_)|(with_reducible refine Vc.cg.held (es:=[(13,9),(8,13),(5,13),(5,8)]) [0,1,2,3,4,6,7,10,11,5,8,13,9,12,14] [(5,[6]),(8,[6]),(13,[6]),(9,[6])] (by decide+kernel) ?_)|(with_reducible refine Vc.cg.held (es:=[(13,8),(5,13),(5,8)]) [0,1,2,3,4,6,7,10,11,5,13,8,9,12,14] [(5,[6]),(13,[6]),(8,[6]),(9,[6])] (by decide+kernel) ?_)|(with_reducible refine Vc.cg.held (es:=[(13,5),(5,8)]) [0,1,2,3,4,6,7,10,11,13,5,8,9,12,14] [(13,[4,6]),(5,[6]),(8,[6]),(9,[6])] (by decide+kernel) ?_)|(with_reducible refine Vc.cg.split (es:=[(8,5)]) 8 13 (by decide) (by decide) (by decide) ?_ ?_)|(with_reducible refine Vc.cg.split (es:=[(8,13),(8,5)]) 5 13 (by decide) (by decide) (by decide) ?_ ?_)|(with_reducible refine Vc.cg.split (es:=[(5,13),(8,13),(8,5)]) 9 13 (by decide) (by decide) (by decide) ?_ ?_)|(with_reducible refine Vc.cg.held (es:=[(9,13),(5,13),(8,13),(8,5)]) [0,1,2,3,4,6,7,10,11,8,5,9,12,13,14] [(8,[4,6]),(5,[6]),(9,[6]),(13,[6])] (by decide+kernel) ?_)|(with_reducible refine Vc.cg.held (es:=[(13,9),(5,13),(8,13),(8,5)]) [0,1,2,3,4,6,7,10,11,8,5,13,9,12,14] [(8,[4,6]),(5,[6]),(13,[6]),(9,[6])] (by decide+kernel) ?_)|(with_reducible refine Vc.cg.held (es:=[(13,5),(8,13),(8,5)]) [0,1,2,3,4,6,7,10,11,8,13,5,9,12,14] [(8,[4,6]),(13,[4,6]),(5,[6]),(9,[6])] (by decide+kernel) ?_)|(with_reducible refine Vc.cg.held (es:=[(13,8),(8,5)]) [0,1,2,3,4,6,7,10,11,13,8,5,9,12,14] [(13,[4,6]),(8,[4,6]),(5,[6]),(9,[6])] (by decide+kernel) ?_))|((with_reducible refine Vc.cy.held [0,1,2,3,4,5,6,7,8,10,11,12,13,9,14,15,16,17] [(9,[1,11]),(14,[1])] mixed (by decide+kernel) ?_))|refine Vc.pe ?_|refine Vc.bz ?_ ?_)<;>(intros;(conv=>whnf)))))
  refine Vc.jO.go ?_;((conv=>whnf);repeat(any_goals((first|(first|(with_reducible refine Vc.cy.ku (id:=7) mixed ?_)|(with_reducible refine Vc.cg.split (es:=[]) 6 12 (by decide) (by decide) (by decide) ?_ ?_)|(with_reducible refine Vc.cg.split (es:=[(6,12)]) 8 12 (by decide) (by decide) (by decide) ?_ ?_)|(with_reducible refine Vc.cg.held (es:=[(8,12),(6,12)]) [0,1,2,3,4,5,7,6,8,9,10,11,12,13,14] [(6,[7])] (by decide+kernel) ?_)|(with_reducible refine Vc.cg.held (es:=[(12,8),(6,12)]) [0,1,2,3,4,5,7,6,12,8,9,10,11,13,14] [(6,[7]),(12,[7])] (by decide+kernel) ?_)|(with_reducible refine Vc.cg.held (es:=[(12,6)]) [0,1,2,3,4,5,7,12,6,8,9,10,11,13,14] [(12,[5,7]),(6,[7])] (by decide+kernel) ?_))|(first|(with_reducible refine Vc.cy.ku (id:=12) mixed ?_)|(with_reducible refine Vc.cg.split (es:=[]) 5 8 (by decide) (by decide) (by decide) ?_ ?_)|(with_reducible refine Vc.cg.split (es:=[(5,8)]) 5 13 (by decide) (by decide) (by decide) ?_ ?_)|(with_reducible refine Vc.cg.split (es:=[(5,13),(5,8)]) 8 13 (by decide) (by decide) (by decide) ?_ ?_)|(with_reducible refine Vc.cg.split (es:=[(8,13),(5,13),(5,8)]) 9 13 (by decide) (by decide) (by decide) ?_ ?_)|(with_reducible refine Vc.cg.held (es:=[(9,13),(8,13),(5,13),(5,8)]) [0,1,2,3,4,6,7,10,11,5,8,9,12,13,14] [(5,[6]),(8,[6]),(9,[6]),(13,[6])] (by decide+kernel) ?_)|(with_reducible refine Vc.cg.held (es:=[(13,9),(8,13),(5,13),(5,8)]) [0,1,2,3,4,6,7,10,11,5,8,13,9,12,14] [(5,[6]),(8,[6]),(13,[6]),(9,[6])] (by decide+kernel) ?_)|(with_reducible refine Vc.cg.held (es:=[(13,8),(5,13),(5,8)]) [0,1,2,3,4,6,7,10,11,5,13,8,9,12,14] [(5,[6]),(13,[6]),(8,[6]),(9,[6])] (by decide+kernel) ?_)|(with_reducible refine Vc.cg.held (es:=[(13,5),(5,8)]) [0,1,2,3,4,6,7,10,11,13,5,8,9,12,14] [(13,[4,6]),(5,[6]),(8,[6]),(9,[6])] (by decide+kernel) ?_)|(with_reducible refine Vc.cg.split (es:=[(8,5)]) 8 13 (by decide) (by decide) (by decide) ?_ ?_)|(with_reducible refine Vc.cg.split (es:=[(8,13),(8,5)]) 5 13 (by decide) (by decide) (by decide) ?_ ?_)|(with_reducible refine Vc.cg.split (es:=[(5,13),(8,13),(8,5)]) 9 13 (by decide) (by decide) (by decide) ?_ ?_)|(with_reducible refine Vc.cg.held (es:=[(9,13),(5,13),(8,13),(8,5)]) [0,1,2,3,4,6,7,10,11,8,5,9,12,13,14] [(8,[4,6]),(5,[6]),(9,[6]),(13,[6])] (by decide+kernel) ?_)|(with_reducible refine Vc.cg.held (es:=[(13,9),(5,13),(8,13),(8,5)]) [0,1,2,3,4,6,7,10,11,8,5,13,9,12,14] [(8,[4,6]),(5,[6]),(13,[6]),(9,[6])] (by decide+kernel) ?_)|(with_reducible refine Vc.cg.held (es:=[(13,5),(8,13),(8,5)]) [0,1,2,3,4,6,7,10,11,8,13,5,9,12,14] [(8,[4,6]),(13,[4,6]),(5,[6]),(9,[6])] (by decide+kernel) ?_)|(with_reducible refine Vc.cg.held (es:=[(13,8),(8,5)]) [0,1,2,3,4,6,7,10,11,13,8,5,9,12,14] [(13,[4,6]),(8,[4,6]),(5,[6]),(9,[6])] (by decide+kernel) ?_))|((with_reducible refine Vc.cy.held [0,1,2,3,4,5,6,7,8,10,11,12,13,9,14,15,16,17] [(9,[1,11]),(14,[1])] mixed (by decide+kernel) ?_))|refine Vc.pe ?_|refine Vc.bz ?_ ?_)<;>(intros;(conv=>whnf)))))
  refine Vc.jO.go ?_;((conv=>whnf);repeat(any_goals((first|(refine kb _ _ rfl ?_)|(refine(RR x.v hb.v _).mono ?_;rintro _ H2 ⟨rfl,bh⟩;have dT:=bh.size)|(refine(Oc (o7 x.v) (by have:=UM x.v;omega) _).mono ?_;rintro _ H3 ⟨ui,bw⟩;have eJ:=bw.size;rw[afF]at ui;obtain⟨va,vc,rfl,Mp⟩:=ui)|((fail_if_success (have:=b4));rename_i Hl zl bl xl;unfold mW;refine dc.Df (c:=[.int .i64 (jG x.v).ma,.int .i64 (jG x.v).mi,.int .i64 (jG x.v).pa,.slice va (jG x.v).pre.length vc]) bl rfl rfl rfl (fun u hu=>by simp at hu;rcases hu with rfl|rfl|rfl|rfl<;>rfl) ?_;intro H4 z4 b4 k4;have Qb:ax H3 H4:=xl.but k4 (aB _))|(first|(with_reducible refine Vc.cy.ku (id:=7) mixed ?_)|(with_reducible refine Vc.cg.split (es:=[]) 6 12 (by decide) (by decide) (by decide) ?_ ?_)|(with_reducible refine Vc.cg.split (es:=[(6,12)]) 8 12 (by decide) (by decide) (by decide) ?_ ?_)|(with_reducible refine Vc.cg.held (es:=[(8,12),(6,12)]) [0,1,2,3,4,5,7,6,8,9,10,11,12,13,14] [(6,[7])] (by decide+kernel) ?_)|(with_reducible refine Vc.cg.held (es:=[(12,8),(6,12)]) [0,1,2,3,4,5,7,6,12,8,9,10,11,13,14] [(6,[7]),(12,[7])] (by decide+kernel) ?_)|(with_reducible refine Vc.cg.held (es:=[(12,6)]) [0,1,2,3,4,5,7,12,6,8,9,10,11,13,14] [(12,[5,7]),(6,[7])] (by decide+kernel) ?_))|(first|(with_reducible refine Vc.cy.ku (id:=12) mixed ?_)|(with_reducible refine Vc.cg.split (es:=[]) 5 8 (by decide) (by decide) (by decide) ?_ ?_)|(with_reducible refine Vc.cg.split (es:=[(5,8)]) 5 13 (by decide) (by decide) (by decide) ?_ ?_)|(with_reducible refine Vc.cg.split (es:=[(5,13),(5,8)]) 8 13 (by decide) (by decide) (by decide) ?_ ?_)|(with_reducible refine Vc.cg.split (es:=[(8,13),(5,13),(5,8)]) 9 13 (by decide) (by decide) (by decide) ?_ ?_)|(with_reducible refine Vc.cg.held (es:=[(9,13),(8,13),(5,13),(5,8)]) [0,1,2,3,4,6,7,10,11,5,8,9,12,13,14] [(5,[6]),(8,[6]),(9,[6]),(13,[6])] (by decide+kernel) ?_)|(with_reducible refine Vc.cg.held (es:=[(13,9),(8,13),(5,13),(5,8)]) [0,1,2,3,4,6,7,10,11,5,8,13,9,12,14] [(5,[6]),(8,[6]),(13,[6]),(9,[6])] (by decide+kernel) ?_)|(with_reducible refine Vc.cg.held (es:=[(13,8),(5,13),(5,8)]) [0,1,2,3,4,6,7,10,11,5,13,8,9,12,14] [(5,[6]),(13,[6]),(8,[6]),(9,[6])] (by decide+kernel) ?_)|(with_reducible refine Vc.cg.held (es:=[(13,5),(5,8)]) [0,1,2,3,4,6,7,10,11,13,5,8,9,12,14] [(13,[4,6]),(5,[6]),(8,[6]),(9,[6])] (by decide+kernel) ?_)|(with_reducible refine Vc.cg.split (es:=[(8,5)]) 8 13 (by decide) (by decide) (by decide) ?_ ?_)|(with_reducible refine Vc.cg.split (es:=[(8,13),(8,5)]) 5 13 (by decide) (by decide) (by decide) ?_ ?_)|(with_reducible refine Vc.cg.split (es:=[(5,13),(8,13),(8,5)]) 9 13 (by decide) (by decide) (by decide) ?_ ?_)|(with_reducible refine Vc.cg.held (es:=[(9,13),(5,13),(8,13),(8,5)]) [0,1,2,3,4,6,7,10,11,8,5,9,12,13,14] [(8,[4,6]),(5,[6]),(9,[6]),(13,[6])] (by decide+kernel) ?_)|(with_reducible refine Vc.cg.held (es:=[(13,9),(5,13),(8,13),(8,5)]) [0,1,2,3,4,6,7,10,11,8,5,13,9,12,14] [(8,[4,6]),(5,[6]),(13,[6]),(9,[6])] (by decide+kernel) ?_)|(with_reducible refine Vc.cg.held (es:=[(13,5),(8,13),(8,5)]) [0,1,2,3,4,6,7,10,11,8,13,5,9,12,14] [(8,[4,6]),(13,[4,6]),(5,[6]),(9,[6])] (by decide+kernel) ?_)|(with_reducible refine Vc.cg.held (es:=[(13,8),(8,5)]) [0,1,2,3,4,6,7,10,11,13,8,5,9,12,14] [(13,[4,6]),(8,[4,6]),(5,[6]),(9,[6])] (by decide+kernel) ?_))|((with_reducible refine Vc.cy.held [0,1,2,3,4,5,6,7,8,10,11,12,13,9,14,15,16,17] [(9,[1,11]),(14,[1])] mixed (by decide+kernel) ?_))|refine Vc.pe ?_|refine Vc.bz ?_ ?_)<;>(intros;(conv=>whnf)))))
  have yy:=dx trivial (bh.trans (bw.trans Qb));have fW:=dx trivial (cd.trans yy.2);have gA:=yy.2.size;have sW: ∀ (k:Nat) (u:Value),([.int .i64 (jG x.v).ma,.int .i64 (jG x.v).mi,.int .i64 (jG x.v).pa,.slice va (jG x.v).pre.length vc]:List Value)[k]? =some u->hcell H4 ⟨H3.size,0+k,none⟩=some u:=fun k u hu=>DA b4 0 k u (by rw[aQ];exact hu);have E1:ew.nC (jG x.v):=Ni (Nh _);have xi: ∀ H',ax H4 H'->Row H' va (strs (jG x.v).pre):=fun H' k=>Mp.row.ext (Qb.trans k);have nH:=Mp.jC;obtain⟨I,hI⟩: ∃ I,oC R (eK x.n) (jG x.v)=I:=⟨_,rfl⟩;have Ps:=fun H' (k:ax H1 H') y hy=>adw R (eK x.n) (jG x.v) (zZ E1) (afC Mm) ra R.length rc y H1 H' k (rK.GJ.to fun _ _=>Kv) rfl (by omega) hy;rw[hI]at Ps;cases I with
  |some I=>
   have Co: ∀ s,nw ((L.take (i+1)).zip (S++[s]))=R:=fun s=>by rw[cW s];unfold oY;rw[av (by show(oC R (eK x.n) (jG x.v)).isSome=true;rw[hI];rfl)]
   have Qc: ∀ s,tU ((L.take (i+1)).zip (S++[s]))=A:=fun s=>by rw[Mn s,av (by rw[hI];rfl)]
   ((conv=>whnf);repeat(any_goals((first|(refine kb _ _ rfl ?_)|(refine(Dq x.n hb.n _).mono ?_;rintro _ _ ⟨rfl,rfl⟩)|((with_reducible apply aE.pZ);(exact sW);(exact Vc.xt);(conv=>whnf))|(refine Vc.kL.load rfl rfl rfl rfl rfl rfl (by exact aE.pZ sW (by exact Vc.xt) rfl) ?_)|(refine(Ps _ (yy.2.trans (by exact Vc.xt)) _ (Vq nH (xi _ (by exact Vc.xt)))).mono ?_;rintro _ H5 ⟨⟨r2,cr,cT,rfl,E4⟩,cE⟩;have ij:=cE.size)|(rename_i Hl zl bl xl;(first|refine dc.Df bl rfl (by rw[lI.len E4];rfl) (by rw[lI.len E4];rfl) (lI.plain E4) ?_|refine dc.Df (bl.ext cE) rfl (by rw[lI.len E4];rfl) (by rw[lI.len E4];rfl) (lI.plain E4) ?_);intro H6 z6 b6 k6;have cV:ax H4 H6:=(by first|exact(show ax H4 Hl by exact Vc.xt).but k6 (by omega)|exact(show ax H4 H5 by exact Vc.xt).but k6 (by omega)))|(first|(with_reducible refine Vc.cy.ku (id:=7) mixed ?_)|(with_reducible refine Vc.cg.split (es:=[]) 6 12 (by decide) (by decide) (by decide) ?_ ?_)|(with_reducible refine Vc.cg.split (es:=[(6,12)]) 8 12 (by decide) (by decide) (by decide) ?_ ?_)|(with_reducible refine Vc.cg.held (es:=[(8,12),(6,12)]) [0,1,2,3,4,5,7,6,8,9,10,11,12,13,14] [(6,[7])] (by decide+kernel) ?_)|(with_reducible refine Vc.cg.held (es:=[(12,8),(6,12)]) [0,1,2,3,4,5,7,6,12,8,9,10,11,13,14] [(6,[7]),(12,[7])] (by decide+kernel) ?_)|(with_reducible refine Vc.cg.held (es:=[(12,6)]) [0,1,2,3,4,5,7,12,6,8,9,10,11,13,14] [(12,[5,7]),(6,[7])] (by decide+kernel) ?_))|(first|(with_reducible refine Vc.cy.ku (id:=12) mixed ?_)|(with_reducible refine Vc.cg.split (es:=[]) 5 8 (by decide) (by decide) (by decide) ?_ ?_)|(with_reducible refine Vc.cg.split (es:=[(5,8)]) 5 13 (by decide) (by decide) (by decide) ?_ ?_)|(with_reducible refine Vc.cg.split (es:=[(5,13),(5,8)]) 8 13 (by decide) (by decide) (by decide) ?_ ?_)|(with_reducible refine Vc.cg.split (es:=[(8,13),(5,13),(5,8)]) 9 13 (by decide) (by decide) (by decide) ?_ ?_)|(with_reducible refine Vc.cg.held (es:=[(9,13),(8,13),(5,13),(5,8)]) [0,1,2,3,4,6,7,10,11,5,8,9,12,13,14] [(5,[6]),(8,[6]),(9,[6]),(13,[6])] (by decide+kernel) ?_)|(with_reducible refine Vc.cg.held (es:=[(13,9),(8,13),(5,13),(5,8)]) [0,1,2,3,4,6,7,10,11,5,8,13,9,12,14] [(5,[6]),(8,[6]),(13,[6]),(9,[6])] (by decide+kernel) ?_)|(with_reducible refine Vc.cg.held (es:=[(13,8),(5,13),(5,8)]) [0,1,2,3,4,6,7,10,11,5,13,8,9,12,14] [(5,[6]),(13,[6]),(8,[6]),(9,[6])] (by decide+kernel) ?_)|(with_reducible refine Vc.cg.held (es:=[(13,5),(5,8)]) [0,1,2,3,4,6,7,10,11,13,5,8,9,12,14] [(13,[4,6]),(5,[6]),(8,[6]),(9,[6])] (by decide+kernel) ?_)|(with_reducible refine Vc.cg.split (es:=[(8,5)]) 8 13 (by decide) (by decide) (by decide) ?_ ?_)|(with_reducible refine Vc.cg.split (es:=[(8,13),(8,5)]) 5 13 (by decide) (by decide) (by decide) ?_ ?_)|(with_reducible refine Vc.cg.split (es:=[(5,13),(8,13),(8,5)]) 9 13 (by decide) (by decide) (by decide) ?_ ?_)|(with_reducible refine Vc.cg.held (es:=[(9,13),(5,13),(8,13),(8,5)]) [0,1,2,3,4,6,7,10,11,8,5,9,12,13,14] [(8,[4,6]),(5,[6]),(9,[6]),(13,[6])] (by decide+kernel) ?_)|(with_reducible refine Vc.cg.held (es:=[(13,9),(5,13),(8,13),(8,5)]) [0,1,2,3,4,6,7,10,11,8,5,13,9,12,14] [(8,[4,6]),(5,[6]),(13,[6]),(9,[6])] (by decide+kernel) ?_)|(with_reducible refine Vc.cg.held (es:=[(13,5),(8,13),(8,5)]) [0,1,2,3,4,6,7,10,11,8,13,5,9,12,14] [(8,[4,6]),(13,[4,6]),(5,[6]),(9,[6])] (by decide+kernel) ?_)|(with_reducible refine Vc.cg.held (es:=[(13,8),(8,5)]) [0,1,2,3,4,6,7,10,11,13,8,5,9,12,14] [(13,[4,6]),(8,[4,6]),(5,[6]),(9,[6])] (by decide+kernel) ?_))|((with_reducible refine Vc.cy.held [0,1,2,3,4,5,6,7,8,10,11,12,13,9,14,15,16,17] [(9,[1,11]),(14,[1])] mixed (by decide+kernel) ?_))|refine Vc.aq ?_)<;>(intros;(conv=>whnf)))))
   all_goals exact⟨⟨i+1,S++[([],0)],ra,rc,A,aa,ac⟩,⟨rfl,by show Value.slice _ _ _=Value.slice _ _ _;rw[Co],rfl,aF⟩,⟨by show i+1<=n;omega,by show(S++[_]).length=i+1;rw[au,hS];rfl,by dsimp only;rw[Co];exact ez,⟨by show A.length<=i+1;omega,by dsimp only;rw[Qc]⟩,by dsimp only;rw[Co];exact rK.ext zF.ok (yy.2.trans cV),Jh.ext vV.ok (yy.2.trans cV),fW.2.trans cV⟩,by show n-(i+1)<n-i;omega⟩
  |none=>
  have Co: ∀ s,nw ((L.take (i+1)).zip (S++[s]))=R++[nE x s]:=fun s=>by rw[cW s];unfold oY;rw[ak (by show ¬(oC R (eK x.n) (jG x.v)).isSome=true;rw[hI];simp)]
  have Qc: ∀ s,tU ((L.take (i+1)).zip (S++[s]))=A++[mT x.kind x.n x.v]:=fun s=>by rw[Mn s,ak (by rw[hI];simp)]
  refine jO.cut (fun(_:Unit)=>[]) (fun _ H'=>ax H4 H') ?_ ?_
  ·
   ((conv=>whnf);repeat(any_goals((first|(refine kb _ _ rfl ?_)|(refine(Dq x.n hb.n _).mono ?_;rintro _ _ ⟨rfl,rfl⟩)|((with_reducible apply aE.pZ);(exact sW);(exact Vc.xt);(conv=>whnf))|(refine Vc.kL.load rfl rfl rfl rfl rfl rfl (by exact aE.pZ sW (by exact Vc.xt) rfl) ?_)|(refine(Ps _ (yy.2.trans (by exact Vc.xt)) _ (Vq nH (xi _ (by exact Vc.xt)))).mono ?_;rintro _ H5 ⟨⟨rfl⟩,cE⟩;have ij:=cE.size)|(rename_i Hl zl bl xl;(first|refine dc.pW bl rfl (by kernel_rfl) (by kernel_rfl) (by decide) ?_|refine dc.pW (bl.ext cE) rfl (by kernel_rfl) (by kernel_rfl) (by decide) ?_);intro H6 z6 b6 k6;have cV:ax H4 H6:=(by first|exact(show ax H4 Hl by exact Vc.xt).but k6 (by omega)|exact(show ax H4 H5 by exact Vc.xt).but k6 (by omega)))|(first|(with_reducible refine Vc.cy.ku (id:=7) mixed ?_)|(with_reducible refine Vc.cg.split (es:=[]) 6 12 (by decide) (by decide) (by decide) ?_ ?_)|(with_reducible refine Vc.cg.split (es:=[(6,12)]) 8 12 (by decide) (by decide) (by decide) ?_ ?_)|(with_reducible refine Vc.cg.held (es:=[(8,12),(6,12)]) [0,1,2,3,4,5,7,6,8,9,10,11,12,13,14] [(6,[7])] (by decide+kernel) ?_)|(with_reducible refine Vc.cg.held (es:=[(12,8),(6,12)]) [0,1,2,3,4,5,7,6,12,8,9,10,11,13,14] [(6,[7]),(12,[7])] (by decide+kernel) ?_)|(with_reducible refine Vc.cg.held (es:=[(12,6)]) [0,1,2,3,4,5,7,12,6,8,9,10,11,13,14] [(12,[5,7]),(6,[7])] (by decide+kernel) ?_))|(first|(with_reducible refine Vc.cy.ku (id:=12) mixed ?_)|(with_reducible refine Vc.cg.split (es:=[]) 5 8 (by decide) (by decide) (by decide) ?_ ?_)|(with_reducible refine Vc.cg.split (es:=[(5,8)]) 5 13 (by decide) (by decide) (by decide) ?_ ?_)|(with_reducible refine Vc.cg.split (es:=[(5,13),(5,8)]) 8 13 (by decide) (by decide) (by decide) ?_ ?_)|(with_reducible refine Vc.cg.split (es:=[(8,13),(5,13),(5,8)]) 9 13 (by decide) (by decide) (by decide) ?_ ?_)|(with_reducible refine Vc.cg.held (es:=[(9,13),(8,13),(5,13),(5,8)]) [0,1,2,3,4,6,7,10,11,5,8,9,12,13,14] [(5,[6]),(8,[6]),(9,[6]),(13,[6])] (by decide+kernel) ?_)|(with_reducible refine Vc.cg.held (es:=[(13,9),(8,13),(5,13),(5,8)]) [0,1,2,3,4,6,7,10,11,5,8,13,9,12,14] [(5,[6]),(8,[6]),(13,[6]),(9,[6])] (by decide+kernel) ?_)|(with_reducible refine Vc.cg.held (es:=[(13,8),(5,13),(5,8)]) [0,1,2,3,4,6,7,10,11,5,13,8,9,12,14] [(5,[6]),(13,[6]),(8,[6]),(9,[6])] (by decide+kernel) ?_)|(with_reducible refine Vc.cg.held (es:=[(13,5),(5,8)]) [0,1,2,3,4,6,7,10,11,13,5,8,9,12,14] [(13,[4,6]),(5,[6]),(8,[6]),(9,[6])] (by decide+kernel) ?_)|(with_reducible refine Vc.cg.split (es:=[(8,5)]) 8 13 (by decide) (by decide) (by decide) ?_ ?_)|(with_reducible refine Vc.cg.split (es:=[(8,13),(8,5)]) 5 13 (by decide) (by decide) (by decide) ?_ ?_)|(with_reducible refine Vc.cg.split (es:=[(5,13),(8,13),(8,5)]) 9 13 (by decide) (by decide) (by decide) ?_ ?_)|(with_reducible refine Vc.cg.held (es:=[(9,13),(5,13),(8,13),(8,5)]) [0,1,2,3,4,6,7,10,11,8,5,9,12,13,14] [(8,[4,6]),(5,[6]),(9,[6]),(13,[6])] (by decide+kernel) ?_)|(with_reducible refine Vc.cg.held (es:=[(13,9),(5,13),(8,13),(8,5)]) [0,1,2,3,4,6,7,10,11,8,5,13,9,12,14] [(8,[4,6]),(5,[6]),(13,[6]),(9,[6])] (by decide+kernel) ?_)|(with_reducible refine Vc.cg.held (es:=[(13,5),(8,13),(8,5)]) [0,1,2,3,4,6,7,10,11,8,13,5,9,12,14] [(8,[4,6]),(13,[4,6]),(5,[6]),(9,[6])] (by decide+kernel) ?_)|(with_reducible refine Vc.cg.held (es:=[(13,8),(8,5)]) [0,1,2,3,4,6,7,10,11,13,8,5,9,12,14] [(13,[4,6]),(8,[4,6]),(5,[6]),(9,[6])] (by decide+kernel) ?_))|((with_reducible refine Vc.cy.held [0,1,2,3,4,5,6,7,8,10,11,12,13,9,14,15,16,17] [(9,[1,11]),(14,[1])] mixed (by decide+kernel) ?_))|refine Vc.aq ?_)<;>(intros;(conv=>whnf)))))
   all_goals exact⟨(),aF,cV⟩
  rintro _ H5 cE;have ij:=cE.size;obtain⟨F,ZQ⟩: ∃ F,ob x.kind x.n x.v=F:=⟨_,rfl⟩;have Mi:=fun Hq=>abk x ci H Hq jL;obtain⟨Rh,IF⟩:=Sj x.kind x.n x.v;have Mq:mT x.kind x.n x.v=ej.jv (ob x.kind x.n x.v)++(if x.kind % 10=9 then [7]else []):=rfl;rw[ZQ]at Rh IF Mq;simp only[ZQ]at Mi;((conv=>whnf);repeat(any_goals((first|(refine kb _ _ rfl ?_)|((with_reducible apply aE.afz);(exact F9.len jL);(exact cU);(exact fW.2.trans (by exact Vc.xt));(conv=>whnf))|(refine(Mi _).mono ?_;rintro _ H6 ⟨⟨fa,fc,rfl,hF⟩,cV⟩;have fS:=cV.size)|(refine(NK F fa _ fc _ hF rfl (by omega) (fun f hf=>by have:=IF f hf;omega)).mono ?_;rintro _ H7 ⟨⟨ba,bc,rfl,Ii⟩,dq⟩;have jK:=dq.size)|(first|(with_reducible refine Vc.cy.ku (id:=7) mixed ?_)|(with_reducible refine Vc.cg.split (es:=[]) 6 12 (by decide) (by decide) (by decide) ?_ ?_)|(with_reducible refine Vc.cg.split (es:=[(6,12)]) 8 12 (by decide) (by decide) (by decide) ?_ ?_)|(with_reducible refine Vc.cg.held (es:=[(8,12),(6,12)]) [0,1,2,3,4,5,7,6,8,9,10,11,12,13,14] [(6,[7])] (by decide+kernel) ?_)|(with_reducible refine Vc.cg.held (es:=[(12,8),(6,12)]) [0,1,2,3,4,5,7,6,12,8,9,10,11,13,14] [(6,[7]),(12,[7])] (by decide+kernel) ?_)|(with_reducible refine Vc.cg.held (es:=[(12,6)]) [0,1,2,3,4,5,7,12,6,8,9,10,11,13,14] [(12,[5,7]),(6,[7])] (by decide+kernel) ?_))|(first|(with_reducible refine Vc.cy.ku (id:=12) mixed ?_)|(with_reducible refine Vc.cg.split (es:=[]) 5 8 (by decide) (by decide) (by decide) ?_ ?_)|(with_reducible refine Vc.cg.split (es:=[(5,8)]) 5 13 (by decide) (by decide) (by decide) ?_ ?_)|(with_reducible refine Vc.cg.split (es:=[(5,13),(5,8)]) 8 13 (by decide) (by decide) (by decide) ?_ ?_)|(with_reducible refine Vc.cg.split (es:=[(8,13),(5,13),(5,8)]) 9 13 (by decide) (by decide) (by decide) ?_ ?_)|(with_reducible refine Vc.cg.held (es:=[(9,13),(8,13),(5,13),(5,8)]) [0,1,2,3,4,6,7,10,11,5,8,9,12,13,14] [(5,[6]),(8,[6]),(9,[6]),(13,[6])] (by decide+kernel) ?_)|(with_reducible refine Vc.cg.held (es:=[(13,9),(8,13),(5,13),(5,8)]) [0,1,2,3,4,6,7,10,11,5,8,13,9,12,14] [(5,[6]),(8,[6]),(13,[6]),(9,[6])] (by decide+kernel) ?_)|(with_reducible refine Vc.cg.held (es:=[(13,8),(5,13),(5,8)]) [0,1,2,3,4,6,7,10,11,5,13,8,9,12,14] [(5,[6]),(13,[6]),(8,[6]),(9,[6])] (by decide+kernel) ?_)|(with_reducible refine Vc.cg.held (es:=[(13,5),(5,8)]) [0,1,2,3,4,6,7,10,11,13,5,8,9,12,14] [(13,[4,6]),(5,[6]),(8,[6]),(9,[6])] (by decide+kernel) ?_)|(with_reducible refine Vc.cg.split (es:=[(8,5)]) 8 13 (by decide) (by decide) (by decide) ?_ ?_)|(with_reducible refine Vc.cg.split (es:=[(8,13),(8,5)]) 5 13 (by decide) (by decide) (by decide) ?_ ?_)|(with_reducible refine Vc.cg.split (es:=[(5,13),(8,13),(8,5)]) 9 13 (by decide) (by decide) (by decide) ?_ ?_)|(with_reducible refine Vc.cg.held (es:=[(9,13),(5,13),(8,13),(8,5)]) [0,1,2,3,4,6,7,10,11,8,5,9,12,13,14] [(8,[4,6]),(5,[6]),(9,[6]),(13,[6])] (by decide+kernel) ?_)|(with_reducible refine Vc.cg.held (es:=[(13,9),(5,13),(8,13),(8,5)]) [0,1,2,3,4,6,7,10,11,8,5,13,9,12,14] [(8,[4,6]),(5,[6]),(13,[6]),(9,[6])] (by decide+kernel) ?_)|(with_reducible refine Vc.cg.held (es:=[(13,5),(8,13),(8,5)]) [0,1,2,3,4,6,7,10,11,8,13,5,9,12,14] [(8,[4,6]),(13,[4,6]),(5,[6]),(9,[6])] (by decide+kernel) ?_)|(with_reducible refine Vc.cg.held (es:=[(13,8),(8,5)]) [0,1,2,3,4,6,7,10,11,13,8,5,9,12,14] [(13,[4,6]),(8,[4,6]),(5,[6]),(9,[6])] (by decide+kernel) ?_))|((with_reducible refine Vc.cy.held [0,1,2,3,4,5,6,7,8,10,11,12,13,9,14,15,16,17] [(9,[1,11]),(14,[1])] mixed (by decide+kernel) ?_))|refine Vc.pe ?_|refine Vc.bz ?_ ?_)<;>(intros;(conv=>whnf)))))
  have wZ:(ej.jv F).length<=9000000:=by
   have h1:=ej.JX F (fun f hf=>by have:=IF f hf;omega) F.length (aB _);unfold ej.jv;rw[au];simp only[dQ];omega
  obtain⟨PF,hPF⟩: ∃ PF,ej.jv F=PF:=⟨_,rfl⟩;rw[hPF]at wZ Ii Mq ⊢;have Az:ax H5 H7:=cV.trans dq;refine jO.cut (fun(s:PkB)=>[(12,.slice s.a s.l.length s.cap)]) (fun s H'=>(s.l.length<=10000000/\s.l=mT x.kind x.n x.v)/\cq H' H5.size 5 1 s.a s.l.length s.cap (cv s.l)/\ax H5 H') ?_ ?_
  ·
   by_cases h9:x.kind % 10=9
   ·((conv=>whnf);repeat(any_goals((first|(refine kb _ _ rfl ?_)|(refine D0 ?_;rw[h9])|(first|(with_reducible refine Vc.cy.ku (id:=7) mixed ?_)|(with_reducible refine Vc.cg.split (es:=[]) 6 12 (by decide) (by decide) (by decide) ?_ ?_)|(with_reducible refine Vc.cg.split (es:=[(6,12)]) 8 12 (by decide) (by decide) (by decide) ?_ ?_)|(with_reducible refine Vc.cg.held (es:=[(8,12),(6,12)]) [0,1,2,3,4,5,7,6,8,9,10,11,12,13,14] [(6,[7])] (by decide+kernel) ?_)|(with_reducible refine Vc.cg.held (es:=[(12,8),(6,12)]) [0,1,2,3,4,5,7,6,12,8,9,10,11,13,14] [(6,[7]),(12,[7])] (by decide+kernel) ?_)|(with_reducible refine Vc.cg.held (es:=[(12,6)]) [0,1,2,3,4,5,7,12,6,8,9,10,11,13,14] [(12,[5,7]),(6,[7])] (by decide+kernel) ?_))|(first|(with_reducible refine Vc.cy.ku (id:=12) mixed ?_)|(with_reducible refine Vc.cg.split (es:=[]) 5 8 (by decide) (by decide) (by decide) ?_ ?_)|(with_reducible refine Vc.cg.split (es:=[(5,8)]) 5 13 (by decide) (by decide) (by decide) ?_ ?_)|(with_reducible refine Vc.cg.split (es:=[(5,13),(5,8)]) 8 13 (by decide) (by decide) (by decide) ?_ ?_)|(with_reducible refine Vc.cg.split (es:=[(8,13),(5,13),(5,8)]) 9 13 (by decide) (by decide) (by decide) ?_ ?_)|(with_reducible refine Vc.cg.held (es:=[(9,13),(8,13),(5,13),(5,8)]) [0,1,2,3,4,6,7,10,11,5,8,9,12,13,14] [(5,[6]),(8,[6]),(9,[6]),(13,[6])] (by decide+kernel) ?_)|(with_reducible refine Vc.cg.held (es:=[(13,9),(8,13),(5,13),(5,8)]) [0,1,2,3,4,6,7,10,11,5,8,13,9,12,14] [(5,[6]),(8,[6]),(13,[6]),(9,[6])] (by decide+kernel) ?_)|(with_reducible refine Vc.cg.held (es:=[(13,8),(5,13),(5,8)]) [0,1,2,3,4,6,7,10,11,5,13,8,9,12,14] [(5,[6]),(13,[6]),(8,[6]),(9,[6])] (by decide+kernel) ?_)|(with_reducible refine Vc.cg.held (es:=[(13,5),(5,8)]) [0,1,2,3,4,6,7,10,11,13,5,8,9,12,14] [(13,[4,6]),(5,[6]),(8,[6]),(9,[6])] (by decide+kernel) ?_)|(with_reducible refine Vc.cg.split (es:=[(8,5)]) 8 13 (by decide) (by decide) (by decide) ?_ ?_)|(with_reducible refine Vc.cg.split (es:=[(8,13),(8,5)]) 5 13 (by decide) (by decide) (by decide) ?_ ?_)|(with_reducible refine Vc.cg.split (es:=[(5,13),(8,13),(8,5)]) 9 13 (by decide) (by decide) (by decide) ?_ ?_)|(with_reducible refine Vc.cg.held (es:=[(9,13),(5,13),(8,13),(8,5)]) [0,1,2,3,4,6,7,10,11,8,5,9,12,13,14] [(8,[4,6]),(5,[6]),(9,[6]),(13,[6])] (by decide+kernel) ?_)|(with_reducible refine Vc.cg.held (es:=[(13,9),(5,13),(8,13),(8,5)]) [0,1,2,3,4,6,7,10,11,8,5,13,9,12,14] [(8,[4,6]),(5,[6]),(13,[6]),(9,[6])] (by decide+kernel) ?_)|(with_reducible refine Vc.cg.held (es:=[(13,5),(8,13),(8,5)]) [0,1,2,3,4,6,7,10,11,8,13,5,9,12,14] [(8,[4,6]),(13,[4,6]),(5,[6]),(9,[6])] (by decide+kernel) ?_)|(with_reducible refine Vc.cg.held (es:=[(13,8),(8,5)]) [0,1,2,3,4,6,7,10,11,13,8,5,9,12,14] [(13,[4,6]),(8,[4,6]),(5,[6]),(9,[6])] (by decide+kernel) ?_))|((with_reducible refine Vc.cy.held [0,1,2,3,4,5,6,7,8,10,11,12,13,9,14,15,16,17] [(9,[1,11]),(14,[1])] mixed (by decide+kernel) ?_))|refine Vc.aq ?_)<;>(intros;(conv=>whnf)))))
    rename_i Hl zl bl xl a8 c8 H8 iT aj9;have Mk:(PF++[7]).length=PF.length+1:=by simp
    have EO:cv (PF++[7])=cv PF++[Value.int .u8 7]:=by rw[rh];rfl
    exact⟨⟨PF++[7],a8,c8⟩,⟨by show Value.slice _ _ _=Value.slice _ _ _;rw[Mk],aF⟩,⟨by dsimp only;omega,by dsimp only;rw[Mq,av h9]⟩,by dsimp only;rw[Mk,EO];exact iT.base (by omega),cV.trans aj9⟩
   ·((conv=>whnf);repeat(any_goals((first|(refine kb _ _ rfl ?_)|(refine D0 ?_)|(first|(with_reducible refine Vc.cy.ku (id:=7) mixed ?_)|(with_reducible refine Vc.cg.split (es:=[]) 6 12 (by decide) (by decide) (by decide) ?_ ?_)|(with_reducible refine Vc.cg.split (es:=[(6,12)]) 8 12 (by decide) (by decide) (by decide) ?_ ?_)|(with_reducible refine Vc.cg.held (es:=[(8,12),(6,12)]) [0,1,2,3,4,5,7,6,8,9,10,11,12,13,14] [(6,[7])] (by decide+kernel) ?_)|(with_reducible refine Vc.cg.held (es:=[(12,8),(6,12)]) [0,1,2,3,4,5,7,6,12,8,9,10,11,13,14] [(6,[7]),(12,[7])] (by decide+kernel) ?_)|(with_reducible refine Vc.cg.held (es:=[(12,6)]) [0,1,2,3,4,5,7,12,6,8,9,10,11,13,14] [(12,[5,7]),(6,[7])] (by decide+kernel) ?_))|(first|(with_reducible refine Vc.cy.ku (id:=12) mixed ?_)|(with_reducible refine Vc.cg.split (es:=[]) 5 8 (by decide) (by decide) (by decide) ?_ ?_)|(with_reducible refine Vc.cg.split (es:=[(5,8)]) 5 13 (by decide) (by decide) (by decide) ?_ ?_)|(with_reducible refine Vc.cg.split (es:=[(5,13),(5,8)]) 8 13 (by decide) (by decide) (by decide) ?_ ?_)|(with_reducible refine Vc.cg.split (es:=[(8,13),(5,13),(5,8)]) 9 13 (by decide) (by decide) (by decide) ?_ ?_)|(with_reducible refine Vc.cg.held (es:=[(9,13),(8,13),(5,13),(5,8)]) [0,1,2,3,4,6,7,10,11,5,8,9,12,13,14] [(5,[6]),(8,[6]),(9,[6]),(13,[6])] (by decide+kernel) ?_)|(with_reducible refine Vc.cg.held (es:=[(13,9),(8,13),(5,13),(5,8)]) [0,1,2,3,4,6,7,10,11,5,8,13,9,12,14] [(5,[6]),(8,[6]),(13,[6]),(9,[6])] (by decide+kernel) ?_)|(with_reducible refine Vc.cg.held (es:=[(13,8),(5,13),(5,8)]) [0,1,2,3,4,6,7,10,11,5,13,8,9,12,14] [(5,[6]),(13,[6]),(8,[6]),(9,[6])] (by decide+kernel) ?_)|(with_reducible refine Vc.cg.held (es:=[(13,5),(5,8)]) [0,1,2,3,4,6,7,10,11,13,5,8,9,12,14] [(13,[4,6]),(5,[6]),(8,[6]),(9,[6])] (by decide+kernel) ?_)|(with_reducible refine Vc.cg.split (es:=[(8,5)]) 8 13 (by decide) (by decide) (by decide) ?_ ?_)|(with_reducible refine Vc.cg.split (es:=[(8,13),(8,5)]) 5 13 (by decide) (by decide) (by decide) ?_ ?_)|(with_reducible refine Vc.cg.split (es:=[(5,13),(8,13),(8,5)]) 9 13 (by decide) (by decide) (by decide) ?_ ?_)|(with_reducible refine Vc.cg.held (es:=[(9,13),(5,13),(8,13),(8,5)]) [0,1,2,3,4,6,7,10,11,8,5,9,12,13,14] [(8,[4,6]),(5,[6]),(9,[6]),(13,[6])] (by decide+kernel) ?_)|(with_reducible refine Vc.cg.held (es:=[(13,9),(5,13),(8,13),(8,5)]) [0,1,2,3,4,6,7,10,11,8,5,13,9,12,14] [(8,[4,6]),(5,[6]),(13,[6]),(9,[6])] (by decide+kernel) ?_)|(with_reducible refine Vc.cg.held (es:=[(13,5),(8,13),(8,5)]) [0,1,2,3,4,6,7,10,11,8,13,5,9,12,14] [(8,[4,6]),(13,[4,6]),(5,[6]),(9,[6])] (by decide+kernel) ?_)|(with_reducible refine Vc.cg.held (es:=[(13,8),(8,5)]) [0,1,2,3,4,6,7,10,11,13,8,5,9,12,14] [(13,[4,6]),(8,[4,6]),(5,[6]),(9,[6])] (by decide+kernel) ?_))|((with_reducible refine Vc.cy.held [0,1,2,3,4,5,6,7,8,10,11,12,13,9,14,15,16,17] [(9,[1,11]),(14,[1])] mixed (by decide+kernel) ?_))|refine Vc.aq ?_)<;>(intros;(conv=>whnf)))))
    exact⟨⟨PF,ba,bc⟩,⟨rfl,aF⟩,⟨by dsimp only;omega,by dsimp only;rw[Mq,ak h9,dD]⟩,Ii.base (by omega),Az⟩
  rintro⟨B,ba,bc⟩ H8 ⟨⟨IB,ZR⟩,GZ,gx⟩;dsimp only at IB ZR GZ ⊢;have lD:=gx.size;have ali:ax H5 H8:=gx;have AB:ax H4 H8:=cE.trans gx;have GV:=dx trivial (yy.2.trans AB);have AA:=dx trivial (cd.trans GV.2);have Xt:=GZ.jC;refine jO.cut (fun(g:Nat)=>[(13,.pointer (some ⟨g,0,none⟩))]) (fun g H'=>ax H8 H'/\H8.size<=g/\ ∃ (sum:List UInt8) (sz:Nat),sum.length=32/\sz<=10000000/\bu H' g (kI (eK x.n) (jG x.v) va vc sum sz none 0 0).toArray 88) ?_ ?_
  ·
   ((conv=>whnf);repeat(any_goals((first|(refine kb _ _ rfl ?_)|(refine(Dq x.n hb.n _).mono ?_;rintro _ _ ⟨rfl,rfl⟩)|((with_reducible apply aE.pZ);(exact sW);(exact AB.trans (by exact Vc.xt));(conv=>whnf))|(refine Vc.kL.load rfl rfl rfl rfl rfl rfl (by first|exact aE.pZ sW (AB.trans (by exact Vc.xt)) rfl|exact aE.nZ rfl iL (AA.2.trans (by exact Vc.xt)) rfl) ?_)|((fail_if_success (have:=bs));refine aE.lit (vs:=[.slice ba B.length bc]) rfl rfl rfl rfl rfl rfl rfl ?_;intro Hs zs bs xs)|(refine(ag3 (B:=B) (bs.ext (by exact Vc.xt)) Xt (GZ.row.ext (by exact Vc.xt)) IB).mono ?_;rintro _ H9 ⟨⟨sm,jd,rfl⟩,kA⟩;have ly:=kA.size)|(show Go.Vc.da _ _ _;refine da.ahW _ (ad5 (z:=B.length) jd) ?_)|(rename_i Hl zl bl xl;(first|refine dc.Df bl rfl (by rw[rY jd];rfl) (by rw[rY jd];rfl) SS ?_|refine dc.Df (bl.ext (by exact Vc.xt)) rfl (by rw[rY jd];rfl) (by rw[rY jd];rfl) SS ?_);intro xg Ri ti wK;have qp:ax H8 xg:=Go.Vc.ax.but (by exact Vc.xt) wK (by omega))|(first|(with_reducible refine Vc.cy.ku (id:=12) mixed ?_)|(with_reducible refine Vc.cg.split (es:=[]) 5 8 (by decide) (by decide) (by decide) ?_ ?_)|(with_reducible refine Vc.cg.split (es:=[(5,8)]) 5 13 (by decide) (by decide) (by decide) ?_ ?_)|(with_reducible refine Vc.cg.split (es:=[(5,13),(5,8)]) 8 13 (by decide) (by decide) (by decide) ?_ ?_)|(with_reducible refine Vc.cg.split (es:=[(8,13),(5,13),(5,8)]) 9 13 (by decide) (by decide) (by decide) ?_ ?_)|(with_reducible refine Vc.cg.held (es:=[(9,13),(8,13),(5,13),(5,8)]) [0,1,2,3,4,6,7,10,11,5,8,9,12,13,14] [(5,[6]),(8,[6]),(9,[6]),(13,[6])] (by decide+kernel) ?_)|(with_reducible refine Vc.cg.held (es:=[(13,9),(8,13),(5,13),(5,8)]) [0,1,2,3,4,6,7,10,11,5,8,13,9,12,14] [(5,[6]),(8,[6]),(13,[6]),(9,[6])] (by decide+kernel) ?_)|(with_reducible refine Vc.cg.held (es:=[(13,8),(5,13),(5,8)]) [0,1,2,3,4,6,7,10,11,5,13,8,9,12,14] [(5,[6]),(13,[6]),(8,[6]),(9,[6])] (by decide+kernel) ?_)|(with_reducible refine Vc.cg.held (es:=[(13,5),(5,8)]) [0,1,2,3,4,6,7,10,11,13,5,8,9,12,14] [(13,[4,6]),(5,[6]),(8,[6]),(9,[6])] (by decide+kernel) ?_)|(with_reducible refine Vc.cg.split (es:=[(8,5)]) 8 13 (by decide) (by decide) (by decide) ?_ ?_)|(with_reducible refine Vc.cg.split (es:=[(8,13),(8,5)]) 5 13 (by decide) (by decide) (by decide) ?_ ?_)|(with_reducible refine Vc.cg.split (es:=[(5,13),(8,13),(8,5)]) 9 13 (by decide) (by decide) (by decide) ?_ ?_)|(with_reducible refine Vc.cg.held (es:=[(9,13),(5,13),(8,13),(8,5)]) [0,1,2,3,4,6,7,10,11,8,5,9,12,13,14] [(8,[4,6]),(5,[6]),(9,[6]),(13,[6])] (by decide+kernel) ?_)|(with_reducible refine Vc.cg.held (es:=[(13,9),(5,13),(8,13),(8,5)]) [0,1,2,3,4,6,7,10,11,8,5,13,9,12,14] [(8,[4,6]),(5,[6]),(13,[6]),(9,[6])] (by decide+kernel) ?_)|(with_reducible refine Vc.cg.held (es:=[(13,5),(8,13),(8,5)]) [0,1,2,3,4,6,7,10,11,8,13,5,9,12,14] [(8,[4,6]),(13,[4,6]),(5,[6]),(9,[6])] (by decide+kernel) ?_)|(with_reducible refine Vc.cg.held (es:=[(13,8),(8,5)]) [0,1,2,3,4,6,7,10,11,13,8,5,9,12,14] [(13,[4,6]),(8,[4,6]),(5,[6]),(9,[6])] (by decide+kernel) ?_))|refine Vc.aq ?_)<;>(intros;(conv=>whnf)))))
   all_goals exact⟨_,⟨rfl,aF⟩,qp,by omega,sm,B.length,jd,IB,ti⟩
  rintro g H9 ⟨wB,qz,sum,sz,hsl,KX,bg⟩;have ly:=wB.size;obtain⟨ll,lx⟩: ∃ ll,x.tg % 12=ll:=⟨_,rfl⟩;obtain⟨b3,fR⟩: ∃ b3,sum[3]? =some b3:=⟨_,aD (by omega)⟩;have uu:hcell H9 ⟨g,0+5+3,none⟩=some (.int .u8 b3.toNat):=DA bg 5 3 _ (OJ (show kI (eK x.n) (jG x.v) va vc sum sz none 0 0=_ from rfl) 3 _ (by unfold cv;rw[dK,fR];rfl));have aka:hcell H9 ⟨g,0+37,none⟩=some (.int .i64 (sz:Int)):=DA bg 0 37 _ (by rw[aQ];exact(Oh (show kI (eK x.n) (jG x.v) va vc sum sz none 0 0=_ from rfl) (by rw[ik];exact hsl)).1);refine jO.cut (fun(_:Unit)=>[]) (fun _ H'=>ax H8 H'/\ ∃ (sum:List UInt8) (sz:Nat),sum.length=32/\sz<=20000000/\bu H' g (kI (eK x.n) (jG x.v) va vc sum sz none 0 0).toArray 88) ?_ ?_
  ·
   by_cases h1:ll=1
   .subst h1;obtain⟨b4,iX⟩:=Vy (b3.toNat:Int) 4;((conv=>whnf);repeat(any_goals((first|(refine kb _ _ rfl ?_)|(refine Gr ?_;rw[lx])|(refine db.nat 3 rfl (by decide) ?_)|(rw[iX];refine dc.jB (o:=8) bg rfl rfl rfl (by rw[cK,rY hsl];decide) ?_;intro xg Ri ti wK;rw[fA,ad6 hsl]at ti)|refine Vc.aq ?_)<;>(intros;(conv=>whnf)))))
    exact⟨(),aF,wB.but wK qz,sum.set 3 b4,sz,by rw[gM];exact hsl,by omega,ti⟩
   by_cases h2:ll=2
   .subst h2;((conv=>whnf);repeat(any_goals((first|(refine kb _ _ rfl ?_)|(refine Gr ?_;rw[lx])|(rw[show((sz:Int)+9)=((sz+9:Nat):Int)by omega];refine dc.jB (o:=37) bg rfl rfl rfl (by rw[cK,rY hsl];decide) ?_;intro xg Ri ti wK;rw[fA,Nj hsl]at ti)|refine Vc.aq ?_)<;>(intros;(conv=>whnf)))))
    exact⟨(),aF,wB.but wK qz,sum,sz+9,hsl,by omega,ti⟩
   by_cases h3:ll=3
   .subst h3;((conv=>whnf);repeat(any_goals((first|(refine kb _ _ rfl ?_)|(refine Gr ?_;rw[lx])|(rw[show max ((sz:Int)-9) 0=((sz-9:Nat):Int)by omega];refine dc.jB (o:=37) bg rfl rfl rfl (by rw[cK,rY hsl];decide) ?_;intro xg Ri ti wK;rw[fA,Nj hsl]at ti)|refine Vc.aq ?_)<;>(intros;(conv=>whnf)))))
    exact⟨(),aF,wB.but wK qz,sum,sz-9,hsl,by omega,ti⟩
   by_cases h4:ll=4
   .subst h4;((conv=>whnf);repeat(any_goals((first|(refine kb _ _ rfl ?_)|(refine Gr ?_;rw[lx])|(refine(of_nil _).mono ?_;rintro _ xg ⟨⟨sm,jd,rfl⟩,qp⟩;have PZ:=qp.size)|(refine dc.jB (o:=37) (bg.ext qp) rfl rfl rfl (by rw[cK,rY hsl];decide) ?_;intro Mc z11 IW k11;rw[fA,show(Value.int IntKind.i64 0)= .int .i64 ((0:Nat):Int)from rfl,Nj hsl]at IW)|refine Vc.aq ?_)<;>(intros;(conv=>whnf)))))
    refine dc.store (o:=5) IW rfl (by show(cv sm).toArray.size=32;rw[cK,ik,jd]) (fun u hu=>mj sm u (by simpa [Value.cells]using hu)) (by show 5+32<=_;rw[cK,rY hsl];decide) ?_;intro Bc z12 akb k12;have IX:bu Bc g (over (kI (eK x.n) (jG x.v) va vc sum 0 none 0 0).toArray 5 (cv sm)) 88:=by simpa [Value.cells]using akb
    rw[ad7 hsl jd]at IX;((conv=>whnf);repeat(any_goals((first|refine Vc.aq ?_)<;>(intros;(conv=>whnf)))))
    exact⟨(),aF,((wB.trans qp).but k11 qz).but k12 qz,sm,0,jd,by omega,IX⟩
   ((conv=>whnf);repeat(any_goals((first|(refine kb _ _ rfl ?_)|(refine Gr ?_;rw[lx])|refine Vc.aq ?_)<;>(intros;(conv=>whnf)))))
   exact⟨(),aF,wB,sum,sz,hsl,by omega,bg⟩
  clear uu aka fR bg ly wB;rintro _ H9 ⟨wB,sum,sz,hsl,KX,bg⟩;have ly:=wB.size;((conv=>whnf);repeat(any_goals((first|refine Vc.aq ?_)<;>(intros;(conv=>whnf)))))
  refine dt.intro (fun(y:NdS)=>[(14,.int .i64 y.k)]) (fun y H'=>y.k<=x.needs.length/\gp DW 4 H' H8.size 176 y.a (qK (eK x.n) (x.needs.take y.k)) y.cap/\bu H' g (kI (eK x.n) (jG x.v) va vc sum sz y.a (qK (eK x.n) (x.needs.take y.k)).length y.cap).toArray 88/\ax H8 H') (fun y=>x.needs.length-y.k) ⟨0,none,0⟩ ⟨rfl,aF⟩ ⟨aI _,by dsimp only;rw[fu];exact gp.nil _ _ _ _ _,by dsimp only;rw[fu];exact bg,wB⟩ ?_;rintro⟨k,oa,oc⟩ HA ⟨hk,yT,C2,AO⟩;dsimp only at hk yT C2 ⊢;have hzA:=AO.size;have akc:=dx trivial (AA.2.trans AO);obtain⟨l,hl⟩: ∃ l,qK (eK x.n) (x.needs.take k)=l:=⟨_,rfl⟩;have hlen:=Ng (eK x.n) (x.needs.take k);rw[aJ]at hlen;have cH:=hL x (aU rG);rw[hl]at yT C2 hlen;have hkN:hcell HA ⟨g,0+0,none⟩=some (.string (ag (eK x.n))):=DA C2 0 0 _ rfl;have akd:hcell HA ⟨g,0+38,none⟩=some (.slice oa l.length oc):=DA C2 0 38 _ (by rw[aQ];exact(Oh (show kI (eK x.n) (jG x.v) va vc sum sz oa l.length oc=_ from rfl) (by rw[ik];exact hsl)).2);by_cases jQ:k<x.needs.length
  ·
   obtain⟨j,hj⟩: ∃ j,x.needs[k]? =some j:=⟨_,aD jQ⟩;have Xu:=hb.needs j (aU hj);have mf:=abe (eK x.n) hj;rw[hl]at mf;obtain⟨B0,Mr⟩: ∃ B0,((ag (eK (j % 6))).toList==(ag (eK x.n)).toList)=B0:=⟨_,rfl⟩;have KU:(B0 || l.any fun z=>decide (z.name=(lq j).name))=true↔((lq j).name=eK x.n\/ ∃ z∈l,z.name=(lq j).name):=by
    rw[<-Mr,p7,dz,aK,List.any_eq_true];simp only[aK];exact Iff.rfl
   ((conv=>whnf);repeat(any_goals((first|(refine Xp Xu ?_)|(refine Xq ?_)|(refine D0 ?_)|(refine(Dq (j % 6) (by omega) _).mono ?_;rintro _ _ ⟨rfl,rfl⟩)|(refine(TS (j / 6 % 10) (by omega) _).mono ?_;rintro _ HB ⟨rfl,C3⟩;have ZS:=C3.size)|(refine(TR (qU (j / 6 % 10)) (by have:=Oi (j / 6 % 10);omega) _).mono ?_;rintro _ HC ⟨jq,Ms⟩;have ZT:=Ms.size;rw[UK]at jq;obtain⟨sa,sc,rfl,wW⟩:=jq)|(refine kb _ _ rfl ?_)|(refine cm.aj5 (wR.ext akc.2) rfl k j rfl hj ?_;intro _ _ _)|refine Vc.aq ?_)<;>(intros;(conv=>whnf)))))
   refine dt.intro (fun(y:ThS)=>[(18,.int .i64 y.j),(17,.bool y.b)]) (fun y H'=>HB=H'/\y.j<=l.length/\y.b=(B0 || (l.take y.j).any fun z=>decide (z.name=(lq j).name))) (fun y=>l.length-y.j) ⟨0,B0⟩ ⟨rfl,by rw[<-Mr];rfl,aF⟩ ⟨rfl,aI _,by simp⟩ ?_;rintro⟨t,tb⟩ _ ⟨rfl,ht,yQ⟩;dsimp only at ht yQ ⊢;have L5:=yT.ext nu.ok C3;by_cases kB:t<l.length
   .obtain⟨z,hz⟩: ∃ z,l[t]? =some z:=⟨_,aD kB⟩;have Gw:((l.take (t+1)).any fun z=>decide (z.name=(lq j).name))=(((l.take t).any fun z=>decide (z.name=(lq j).name)) || decide (z.name=(lq j).name)):=by
     rw[bX,hz,List.any_append];simp
    have e2:((ag z.name).toList==(ag (eK (j % 6))).toList)=decide (z.name=(lq j).name):=p7 _ _;cases tb with
    |true=>
     ((conv=>whnf);repeat(any_goals((first|refine Vc.aq ?_)<;>(intros;(conv=>whnf)))))
     exact⟨⟨t+1,true⟩,⟨rfl,rfl,aF⟩,⟨rfl,kB,by(show true=_;rw[Gw,<-Bool.or_assoc,<-yQ];rfl)⟩,by show l.length-(t+1)<l.length-t;omega⟩
    |false=>
     ((conv=>whnf);repeat(any_goals((first|(refine cm.el nu.ok (by decide) L5.row rfl t z rfl hz ?_;intro bx ox cx C4 qq;obtain⟨xa,xc,ex,_,_⟩:=(id C4);have Qd:hcell _ ⟨bx,ox+0,none⟩=some (Value.string (ag z.name)):=qq 0 _ (by rw[ex];rfl))|refine Vc.aq ?_)<;>(intros;(conv=>whnf)))))
     exact⟨⟨t+1,((ag z.name).toList==(ag (eK (j % 6))).toList)⟩,⟨rfl,rfl,aF⟩,⟨rfl,kB,by(show((ag z.name).toList==(ag (eK (j % 6))).toList)=_;rw[Gw,<-Bool.or_assoc,<-yQ,e2];rfl)⟩,by show l.length-(t+1)<l.length-t;omega⟩
   .obtain rfl:t=l.length:=by omega
    rw[fB]at yQ;rw[<-yQ]at KU;cases tb with
    |true=>
     have wC:qK (eK x.n) (x.needs.take (k+1))=l:=by rw[mf];unfold wA;rw[av (KU.1 rfl)]
     ((conv=>whnf);repeat(any_goals((first|refine Vc.aq ?_)<;>(intros;(conv=>whnf)))))
     exact⟨⟨k+1,oa,oc⟩,⟨rfl,aF⟩,⟨jQ,by dsimp only;rw[wC];exact L5,by dsimp only;rw[wC];exact C2.ext C3,AO.trans C3⟩,by show x.needs.length-(k+1)<x.needs.length-k;omega⟩
    |false=>
     have wC:qK (eK x.n) (x.needs.take (k+1))=tT l (lq j):=by rw[mf];unfold wA;rw[ak (fun h=>by have:=KU.2 h;cases this)]
     ((conv=>whnf);repeat(any_goals((first|(refine Xp Xu ?_)|(refine Xq ?_)|(refine D0 ?_)|(refine(Dq (j % 6) (by omega) _).mono ?_;rintro _ _ ⟨rfl,rfl⟩)|(refine(TS (j / 6 % 10) (by omega) _).mono ?_;rintro _ HB ⟨rfl,C3⟩;have ZS:=C3.size)|(refine(TR (qU (j / 6 % 10)) (by have:=Oi (j / 6 % 10);omega) _).mono ?_;rintro _ HC ⟨jq,Ms⟩;have ZT:=Ms.size;rw[UK]at jq;obtain⟨sa,sc,rfl,wW⟩:=jq)|refine Vc.aq ?_)<;>(intros;(conv=>whnf)))))
     rename_i HD zD bD xD HE zE bE kE;have Xv:ax HC HE:=xD.but kE (aB _);have Ep:=dx trivial (C3.trans (Ms.trans Xv));have Bg:=yT.ext nu.ok Ep.2;have E5:=C2.ext Ep.2;have ZU:hcell HE ⟨g,0+38,none⟩=some (.slice oa l.length oc):=jj akd Ep.2 id;have hzE:=Ep.2.size;have cU:=Bg.jC;refine dt.intro (fun(t:Nat)=>[(21,.int .i64 t)]) (fun t H'=>HE=H'/\t<=l.length/\ ∀ q x,q<t->l[q]? =some x->Op.bytesLess x.name (lq j).name=true) (fun t=>l.length-t) 0 ⟨rfl,aF⟩ ⟨rfl,aI _,fun q x h=>absurd h (Nat.not_lt_zero _)⟩ ?_;rintro t _ ⟨rfl,ht,Pt⟩;have kB:(l.take t).length=t:=by rw[aJ];omega
     have sq:(l.drop t).length=l.length-t:=aO;have ZV: ∀ H',ax HE H'->DW H' (lq j) [.string (ag (eK (j % 6))),.bool (wz (j / 6 % 10)).any,.slice sa (wz (j / 6 % 10)).qF.length sc,.string (ag (qU (j / 6 % 10)))]:=fun H' k=>⟨sa,sc,rfl,wW.jC,(wW.ext Dy.ok (Xv.trans k)).GJ⟩;by_cases htn:t<l.length
     .obtain⟨z,hz⟩: ∃ z,l[t]? =some z:=⟨_,aD htn⟩;have e1:Op.bytesLess (ag z.name).toList (ag (eK (j % 6))).toList=Op.bytesLess z.name (lq j).name:=by rw[Kl,Kl];rfl
      by_cases s5:Op.bytesLess z.name (lq j).name=true
      .rw[s5]at e1;((conv=>whnf);repeat(any_goals((first|(refine cm.el nu.ok (by decide) Bg.row rfl t z rfl hz ?_;intro bx ox cx C4 qq;obtain⟨xa,xc,ex,_,_⟩:=(id C4);have Qd:hcell _ ⟨bx,ox+0,none⟩=some (Value.string (ag z.name)):=qq 0 _ (by rw[ex];rfl))|refine Vc.aq ?_)<;>(intros;(conv=>whnf)))))
       exact⟨t+1,⟨rfl,aF⟩,⟨rfl,by omega,fun q y hq hy=>by
        by_cases ED:q=t
        .subst ED;rw[hz]at hy;cases hy;exact s5
        .exact Pt q y (by omega) hy⟩,by omega⟩
      .have s5:Op.bytesLess z.name (lq j).name=false:=by simpa using s5
       rw[s5]at e1;have G0:=ON l (lq j) t Pt (by omega) (fun y hy=>by rw[hz]at hy;cases hy;exact s5);have ake: ¬z.name=(lq j).name:=fun e=>by have:=KU.2 (.inr ⟨z,aU hz,e⟩);cases this
       rw[hz,fI,ak (fun e=>ake (bW e))]at G0;rw[G0]at wC;((conv=>whnf);repeat(any_goals((first|(refine cm.el nu.ok (by decide) Bg.row rfl t z rfl hz ?_;intro bx ox cx C4 qq;obtain⟨xa,xc,ex,_,_⟩:=(id C4);have Qd:hcell _ ⟨bx,ox+0,none⟩=some (Value.string (ag z.name)):=qq 0 _ (by rw[ex];rfl))|(refine dk.nat t rfl (by omega) ?_)|(show Go.Vc.da _ _ _;refine da.F6 _ SR ?_)|(refine Vc.kL.load rfl rfl rfl rfl rfl rfl (by exact aE.nZ rfl ZU (by exact Vc.xt) rfl) ?_)|(have:=Ji;refine cP.KS nu.ok rfl ⟨_,rfl,fun _ h=>by cases h⟩ rfl rfl rfl rfl (by decide) ((Bg.row.ext nu.ok vd).take nu.ok t) (by rw[aJ];omega) Ji.row (by rw[ay,aO];omega) (by omega) (by omega) ?_;intro cI HI Rj yU;have hzI:=yU.size)|(rename_i Hl zl bl xl;refine cP.Ll nu (c:=[.string (ag (eK (j % 6))),.bool (wz (j / 6 % 10)).any,.slice sa (wz (j / 6 % 10)).qF.length sc,.string (ag (qU (j / 6 % 10)))]) rfl ⟨_,rfl,fun _ h=>by cases h⟩ rfl rfl rfl rfl (by decide) (by decide) bl (ZV _ xl) ((Bg.row.ext nu.ok xl).drop nu.ok oc t (fun e=>by omega)) aO (by omega) ?_;intro aG cG HG Ji Rk;have vd:ax HE HG:=xl.but Rk (by omega);have hzG:=vd.size)|(refine dc.jB (o:=38) (E5.ext (vd.trans yU)) rfl rfl rfl (by rw[cK,rY hsl];decide) ?_;intro HJ zJ bJ kJ;rw[fA,SU hsl]at bJ)|((with_reducible refine Vc.cy.held [0,1,2,3,4,5,6,7,8,10,11,12,13,9,14,15,16,17] [(9,[1,11]),(14,[1])] mixed (by decide+kernel) ?_))|refine Vc.aq ?_)<;>(intros;(conv=>whnf)))))
       all_goals
        have Ae:(l.take t++lq j::l.drop t).length=t+(1+(l.length-t)):=by rw[au,aJ,ay,aO];omega
        exact⟨⟨k+1,some ⟨HG.size,0,none⟩,cI⟩,⟨rfl,aF⟩,⟨jQ,by(dsimp only;rw[wC];exact(Rj.keep nu kJ (fun b c u e hb=>by subst e;rw[hb.nl (E5.ext (vd.trans yU))];decide) (fun p hp=>by cases hp;have:=E5.lt;show ¬HG.size=g;omega)).base (by omega)),by(dsimp only;rw[wC,Ae];exact bJ),(AO.trans (Ep.2.trans (vd.trans yU))).but kJ qz⟩,by show x.needs.length-(k+1)<x.needs.length-k;omega⟩
     .obtain rfl:t=l.length:=by omega
      have G0:=ON l (lq j) l.length Pt (aB _) (fun y hy=>by simp at hy);rw[show l[l.length]? =none by simp,ak (by simp)]at G0;rw[G0]at wC;obtain⟨t,ZW⟩: ∃ t,t=l.length:=⟨_,rfl⟩;rw[<-ZW]at wC kB sq;((conv=>whnf);repeat(any_goals((first|(refine cm.el nu.ok (by decide) Bg.row rfl t z rfl hz ?_;intro bx ox cx C4 qq;obtain⟨xa,xc,ex,_,_⟩:=(id C4);have Qd:hcell _ ⟨bx,ox+0,none⟩=some (Value.string (ag z.name)):=qq 0 _ (by rw[ex];rfl))|(refine dk.nat t (by rw[ZW]) (by omega) ?_)|(show Go.Vc.da _ _ _;refine da.F6 _ SR ?_)|(refine Vc.kL.load rfl rfl rfl rfl rfl rfl (by exact aE.nZ rfl ZU (by exact Vc.xt) rfl) ?_)|(have:=Ji;refine cP.KS nu.ok rfl ⟨_,rfl,fun _ h=>by cases h⟩ rfl rfl rfl rfl (by decide) ((Bg.row.ext nu.ok vd).take nu.ok t) (by rw[aJ];omega) Ji.row (by rw[ay,aO];omega) (by omega) (by omega) ?_;intro cI HI Rj yU;have hzI:=yU.size)|(rename_i Hl zl bl xl;refine cP.Ll nu (c:=[.string (ag (eK (j % 6))),.bool (wz (j / 6 % 10)).any,.slice sa (wz (j / 6 % 10)).qF.length sc,.string (ag (qU (j / 6 % 10)))]) rfl ⟨_,rfl,fun _ h=>by cases h⟩ rfl rfl rfl rfl (by decide) (by decide) bl (ZV _ xl) ((Bg.row.ext nu.ok xl).drop nu.ok oc t (fun e=>by omega)) aO (by omega) ?_;intro aG cG HG Ji Rk;have vd:ax HE HG:=xl.but Rk (by omega);have hzG:=vd.size)|(refine dc.jB (o:=38) (E5.ext (vd.trans yU)) rfl rfl rfl (by rw[cK,rY hsl];decide) ?_;intro HJ zJ bJ kJ;rw[fA,SU hsl]at bJ)|((with_reducible refine Vc.cy.held [0,1,2,3,4,5,6,7,8,10,11,12,13,9,14,15,16,17] [(9,[1,11]),(14,[1])] mixed (by decide+kernel) ?_))|refine Vc.aq ?_)<;>(intros;(conv=>whnf)))))
      all_goals
       have Ae:(l.take t++lq j::l.drop t).length=t+(1+(l.length-t)):=by rw[au,aJ,ay,aO];omega
       exact⟨⟨k+1,some ⟨HG.size,0,none⟩,cI⟩,⟨rfl,aF⟩,⟨jQ,by(dsimp only;rw[wC];exact(Rj.keep nu kJ (fun b c u e hb=>by subst e;rw[hb.nl (E5.ext (vd.trans yU))];decide) (fun p hp=>by cases hp;have:=E5.lt;show ¬HG.size=g;omega)).base (by omega)),by(dsimp only;rw[wC,Ae];exact bJ),(AO.trans (Ep.2.trans (vd.trans yU))).but kJ qz⟩,by show x.needs.length-(k+1)<x.needs.length-k;omega⟩
  .obtain rfl:k=x.needs.length:=by omega
   rw[fB]at hl;have sZ:=fun q u hu=>DA C2 0 q u (by rw[aQ];exact hu);have akf:=dx trivial (GV.2.trans AO);((conv=>whnf);repeat(any_goals((first|(refine kb _ _ rfl ?_)|refine Vc.aq ?_)<;>(intros;(conv=>whnf)))))
   refine aE.Bv (c:=kI (eK x.n) (jG x.v) va vc sum sz oa l.length oc) (rY hsl) sZ (ax.refl _) ?_;((conv=>whnf);repeat(any_goals((first|refine Vc.aq ?_)<;>(intros;(conv=>whnf)))))
   refine aE.lit (vs:=[.agg (kI (eK x.n) (jG x.v) va vc sum sz oa l.length oc).toArray]) rfl rfl rfl rfl rfl rfl (by show(Nat.beq (kI (eK x.n) (jG x.v) va vc sum sz oa l.length oc).toArray.size 39&&true)=true;rw[cK,rY hsl];rfl) ?_;intro HL zL bL' xL;have bL:bu HL HA.size (kI (eK x.n) (jG x.v) va vc sum sz oa l.length oc).toArray 88:=by simpa [Value.cells]using bL'
   ((conv=>whnf);repeat(any_goals((first|refine Vc.aq ?_)<;>(intros;(conv=>whnf)))))
   have Mt:=akf.2.trans xL;have hrT:ql HL (nE x (sum,(sz:Int))) (kI (eK x.n) (jG x.v) va vc sum sz oa l.length oc):=⟨va,vc,oa,oc,by unfold kI nE;rw[hl],hsl,nH,(Mp.ql).ext (Qb.trans (AB.trans (AO.trans xL))),by(show(qK (eK x.n) x.needs).length<=oc;rw[hl];exact yT.jC),by(show rF DW _ HL oa (qK (eK x.n) x.needs);rw[hl];exact(yT.ext nu.ok xL).GJ)⟩;have Jj:=rK.ext zF.ok Mt;have ZX:=Jh.ext vV.ok Mt;have hzL:=Mt.size;refine cP.yw zF rfl ⟨_,rfl,fun _ h=>by cases h⟩ rfl rfl rfl rfl (by decide) (by unfold Ph;decide) Jj rfl (bu.row bL) (gg.one hrT) rfl (by omega) (by omega) ?_;intro aR cR HR hoR Mu hfR;have haR:gp E2 1 HR H.size 33 aa A ac:=ZX.keep vV Mu (fun b c u ⟨q,hq,e⟩ hb=>by
    obtain⟨c1,g1⟩:=Jj.nl q hq;rw[e]at g1;rw[hb.nl g1];decide) (fun p hp ⟨q,hq,e⟩=>by
    obtain⟨c1,g1⟩:=ZX.nl p hp;obtain⟨c2,g2⟩:=Jj.nl q hq;rw[e]at g2;exact absurd (g1.nl g2) (by decide))
   have hxR:ax H HR:=BH (n:=HL.size) (cd.trans Mt) (fun p hp=>Jj.block p hp) Mu;have hzR:=Mu.size;((conv=>whnf);repeat(any_goals((first|refine Vc.aq ?_)<;>(intros;(conv=>whnf)))))
   rename_i HS zS bS xS;have A9:=hoR.ext zF.ok xS;have Mv:=haR.ext vV.ok xS;have YC:E2 HL B [.slice ba B.length bc]:=⟨ba,bc,rfl,Xt,ag5 GZ,(GZ.ql).ext (AO.trans xL)⟩;have hbR:=vV.keep Mu (fun b c u ⟨q,hq,e⟩ hb=>by
    obtain⟨c1,g1⟩:=Jj.nl q hq;rw[e]at g1;rw[hb.nl g1];decide) YC
   refine cP.yw vV rfl ⟨_,rfl,fun _ h=>by cases h⟩ rfl rfl rfl rfl (by decide) (by decide) Mv rfl (bu.row bS) (gg.one (x:=B) (vV.ok.ext xS hbR)) rfl (by omega) (by omega) ?_;intro aX cX HX hoX ZY hfX;have akg:gp ql 39 HX H.size 88 aR (R++[nE x (sum,(sz:Int))]) cR:=A9.keep zF ZY (fun b c u ⟨q,hq,e⟩ hb=>by
    obtain⟨c1,g1⟩:=Mv.nl q hq;rw[e]at g1;rw[hb.nl g1];unfold Ph;decide) (fun p hp ⟨q,hq,e⟩=>by
    obtain⟨c1,g1⟩:=A9.nl p hp;obtain⟨c2,g2⟩:=Mv.nl q hq;rw[e]at g2;exact absurd (g1.nl g2) (by decide))
   have hxX:ax H HX:=BH (n:=HS.size) (hxR.trans xS) (fun p hp=>Mv.block p hp) ZY;have lu:(R++[nE x (sum,(sz:Int))]).length=R.length+1:=by simp
   have oF:(A++[B]).length=A.length+1:=by simp
   ((conv=>whnf);repeat(any_goals((first|refine Vc.aq ?_)<;>(intros;(conv=>whnf)))))
   exact⟨⟨i+1,S++[(sum,(sz:Int))],aR,cR,A++[B],aX,cX⟩,⟨rfl,by(show Value.slice _ _ _=Value.slice _ _ _;rw[Co,lu]),by(show Value.slice _ _ _=Value.slice _ _ _;rw[oF]),aF⟩,⟨by show i+1<=n;omega,by show(S++[_]).length=i+1;rw[au,hS];rfl,by
    dsimp only;rw[Co];intro r hr;rcases bZ.1 hr with hr|hr
    .exact ez r hr
    .rw[aW]at hr;subst hr;exact⟨sz,rfl,by omega⟩,⟨by show(A++[_]).length<=i+1;omega,by dsimp only;rw[Qc,ZR]⟩,by dsimp only;rw[Co];exact akg,hoX,hxX⟩,by show n-(i+1)<n-i;omega⟩
 .obtain rfl:i=n:=by omega
  rw[aL (by omega)]at rK ez GY Mm oL;have hIB:Y7 (nw (L.zip S)):=⟨ez,fun r hr=>by
   obtain⟨x,s,rfl,_⟩:=GY.row r hr;have:=Ga x.n;show(eK x.n).length<=100;omega,fun r hr=>by
   obtain⟨x,s,rfl,cH⟩:=GY.row r hr;have:=Ng (eK x.n) x.needs;refine⟨by show(qK (eK x.n) x.needs).length<=10;omega,fun n hn=> ?_⟩;obtain⟨j,rfl⟩:=SQ hn;have h1:=Ga (j % 6);have h2:=Oi (j / 6 % 10);exact⟨by show(eK (j % 6)).length<=100;omega,by show(qU (j / 6 % 10)).length<=100;omega⟩⟩
  have alj:(nw (L.zip S)).length<=i:=by omega
  ((conv=>whnf);repeat(any_goals((first|(refine(acq (nw (L.zip S)) Mm hIB ra _ rc _ (rK.GJ.to fun _ _=>Kv) (by rw[aL (by omega)]) (by rw[aL (by omega)];omega)).mono ?_;rintro _ H2 ⟨⟨s,rfl⟩,bh⟩)|refine Vc.aq ?_)<;>(intros;(conv=>whnf)))))
  rw[aL (by omega)]at E3;exact⟨⟨S,ra,rc,aa,ac,s,hS,by rw[aL (by omega),<-E3];rfl,(rK.ext zF.ok bh).row,rK.jC,by rw[<-E3];exact(Jh.ext vV.ok bh).row,by rw[<-E3];exact Jh.jC⟩,cd.trans bh⟩
end Go.Proofs.YtphkaogbcfdllaaGreatDoor
namespace Go.lb
open Go.cN Go.eg Go.cM Go.Run Go.ew
theorem ahY:nV [49,46,48,46,48]=some ⟨1,0,0,[]⟩:=by decide+kernel
theorem ahZ:(mT 1 0 0).length<=1000:=by decide+kernel
theorem ag6:km ⟨1,0,0,[]⟩=[49,46,48,46,48]:=by decide+kernel
theorem ah0 (s:ap×Int):tU (([⟨0,0,[],1,0⟩]:List jP).zip [s])=[mT 1 0 0]:=rfl
end Go.lb
namespace Go.Proofs.YtphkaogbcfdllaaGreatDoor
open Go Go.Vc Go.cN Go.eg Go.cM Go.Run Go.ew Go.lb Go.uv
theorem acr {k:Int}:Go.Program.built Tryz.prog 74 [(3,.int .u8 k)]=some #[.int .u8 0,.int .u8 0,.slice none 0 0,.int .u8 k,.int .u8 0]:=by kernel_rfl
theorem ah1 {H:ae} {a:Option Addr} {b:ap} (h:ia E2 H a [b]): ∃ (x:Option Addr) (cap:Nat),b.length<=cap/\cap<=maxLen/\Row H x (cv b)/\v8 H a [⟨x,b.length,cap,b⟩]:=by
 obtain⟨vs,h1,h2⟩:=h.out;cases h2 with
 |cons h3 h4=>
  cases h4;obtain⟨x,cap,e,hc,hm,hr⟩:=h3;rw[e]at h1;exact⟨x,cap,hc,hm,hr.row,h1,fun p hp=>by rw[aW.1 hp];exact⟨rfl,hc,hr.row⟩⟩
theorem TT {n:ap} (hn:n.length<=100) {ws:lK} (h:ws=[]\/ ∃ k:Nat,k<=1000000/\ws=[([108,105,110,101],Lib.itoa (k:Int))]):Small ((GQ,n)::ws):=by
 have hb:GQ.length<=100:=by decide
 rcases h with rfl|⟨k,hk,rfl⟩
 .exact⟨by show 1<=20;decide,fun x hx=>by rw[aW.1 hx];exact⟨hb,hn⟩⟩
 .have:=uH (k:Int) ⟨by omega,by omega⟩;refine⟨by show 2<=20;decide,fun x hx=> ?_⟩;rcases aM.1 hx with rfl|hx
  .exact⟨hb,hn⟩
  .rw[aW.1 hx];exact⟨by show 4<=100;decide,by show(Lib.itoa (k:Int)).length<=100;omega⟩
theorem ad9 (n v b:ap):jN false n v b=([],74):=av rfl
set_option maxHeartbeats 4000000 in
theorem Jz {H:ae} (hg:kS H) (hH:2<=H.size):az Tryz.prog 34 [] H fun v H'=>v= .bool true/\ax H H':=by
 refine Vc.az.body Tryz.func34 Tryz.call34 rfl (by decide+kernel) rfl ?_;((conv=>whnf);repeat(any_goals((first|(show Go.Vc.da _ _ _;refine da.xC _ acr ?_)|refine Vc.aq ?_)<;>(intros;(conv=>whnf)))))
 rename_i H1 z1 b1 x1;have jz:ia wy H1 (some ⟨H.size,0,none⟩) [⟨0,0,[],1,0⟩]:=⟨_,bu.row (c:=[.int .u8 0,.int .u8 0,.slice none 0 0,.int .u8 1,.int .u8 0]) b1,gg.one ⟨none,0,rfl,aB _,Row.nil _ _,⟨by decide,by decide,fun x h=>(by cases h),by decide,by decide⟩⟩⟩;refine(SV [⟨0,0,[],1,0⟩] (by decide) _ 1 _ H1 jz rfl (by decide)).mono ?_;rintro _ H2 ⟨⟨S,ra,rc,aa,ac,st,hS,rfl,hR,Rl,hA,vq⟩,bh⟩;obtain⟨s,rfl⟩: ∃ s,S=[s]:=by
  match S,hS with
  |[s],_=>exact⟨s,rfl⟩
 rw[ah0]at hA vq ⊢;obtain⟨xa,xc,ve,CU,Ey,oE⟩:=ah1 hA;have dT:=bh.size;have x02:ax H H2:=x1.trans bh;have vr:=ahZ;have oM:=afM;have Mw:=ahX;have hsl:=vG (mT 1 0 0);have Ia:km (⟨1,0,0,[]⟩:fp)=[49,46,48,46,48]:=ag6;obtain⟨B,hB⟩: ∃ B,mT 1 0 0=B:=⟨_,rfl⟩;rw[hB]at ve Ey oE vr oM Mw hsl ⊢;have xi:=fun H'=>Oc [49,46,48,46,48] (by decide) H';rw[ahY]at xi;obtain⟨L4,hl4,g0,g3,Rm⟩: ∃ L4:Tr,L4.length=4/\L4[0]? =some ([97],(true,[]))/\L4[3]? =some ([97,47,111,117,116],(false,[98,117,105,108,116,32,97,32,49,46,48,46,48]))/\ [([97],(true,[])),([97,47]++AL,(true,[])),([97,47]++AL++[47,97],(false,[97,32,49,46,48,46,48])),([97,47]++Xs,(false,[98,117,105,108,116,32,97,32,49,46,48,46,48]))]=L4:=⟨_,rfl,rfl,rfl,rfl⟩;rw[Rm]at oM;((conv=>whnf);repeat(any_goals((first|(refine(xi _).mono ?_;rintro _ H3 ⟨⟨va,vc,rfl,Mp⟩,bw⟩;have eJ:=bw.size;unfold mW)|(refine(Fz [⟨xa,B.length,xc,B⟩] aa _ ac _ (oE.ext (by exact Vc.xt)) rfl (by show 1<=_;decide) (by rw[tu];dsimp only;omega)).mono ?_;rintro _ H7 ⟨rfl,dq⟩;have jK:=dq.size;rw[tu])|(show Go.Vc.da _ _ _;refine da.F6 _ (NL (s:=[97]) (v:=⟨1,0,0,[]⟩) hsl) ?_)|(first|(with_reducible refine Vc.cy.ku (id:=3) mixed ?_)|(with_reducible refine Vc.cg.split (es:=[]) 2 4 (by decide) (by decide) (by decide) ?_ ?_)|(with_reducible refine Vc.cg.held (es:=[(2,4)]) [0,1,2,3,4,5] [(2,[0]),(4,[0])] (by decide+kernel) ?_)|(with_reducible refine Vc.cg.held (es:=[(4,2)]) [0,1,4,2,3,5] [(4,[0]),(2,[0])] (by decide+kernel) ?_))|refine Vc.aq ?_)<;>(intros;(conv=>whnf)))))
 all_goals
  have Ld: ∀ H',sL H' ⟨[97],⟨1,0,0,[]⟩,ix B⟩ (u9 [97] ⟨1,0,0,[]⟩ (ix B) va vc):=fun H'=>⟨va,vc,rfl,hsl,aI _,mJ.nil _ _ _⟩;have jo:nC ⟨1,0,0,[]⟩:=nC.one (by decide) (by decide) (by decide);rename_i Ha za ba ZZ Hb zb bb xb Hc zc bc Z0 Hd zd bd xd;have Mx:ax H2 Hd:=by first|exact((bw.trans ZZ).but xb eJ).trans (dq.trans (Z0.but xd (aB _)))|exact((((bw.trans ZZ).but xb eJ).trans Z0).trans dq).but xd (by omega)
  have x0d:ax H Hd:=x02.trans Mx;have hzd:=Mx.size;((conv=>whnf);repeat(any_goals((first|(refine cm.part (oE.ext Mx) rfl 0 rfl (by show 0<1;decide) ?_;intro b0 o0 _ iL)|((fail_if_success (have:=gx));have sn:=De ⟨[97],⟨1,0,0,[]⟩,ix B⟩ (u9 [97] ⟨1,0,0,[]⟩ (ix B) va vc) (Ld Hd) jo (by show 1<=1000;decide) B xa _ xc (Ey.ext Mx) rfl ve CU (by omega) (hg.ext x0d) (by omega);dsimp only at sn;rw[bB (show ix B=ix B from rfl),Ia,oM]at sn;refine sn.mono ?_;rintro _ H8 ⟨⟨a8,c8,fs,er,rfl,iT,lH,jA⟩,gx⟩;have lD:=gx.size;unfold pF at jA;rw[av rfl]at jA;subst jA;dsimp only at iT lH ⊢)|((fail_if_success (have:=kA));have Qe:=De ⟨[97],⟨1,0,0,[]⟩,ix B⟩ (u9 [97] ⟨1,0,0,[]⟩ (ix B) va vc) (Ld H8) jo (by show 1<=1000;decide) [] none 0 0 (Row.nil _ _) rfl (aB _) (aI _) (by decide) (hg.ext (x0d.trans gx)) (by omega);dsimp only at Qe;rw[aN Mw,ad9]at Qe;refine Qe.mono ?_;rintro _ H9 ⟨⟨a9,c9,fs9,er9,rfl,_,_,Er⟩,kA⟩;have ly:=kA.size;unfold pF at Er;rw[ak (by decide)]at Er;obtain⟨ws,lP,Er⟩:=Er;obtain⟨ty9,pl9,rfl⟩:=j7.iface Er)|(refine cm.sf iT.row lH rfl 0 ([97],(true,[])) rfl g0 ?_;intro b0 o0 f0 nh AP;have Xw:=AP 0 _ rfl;have Xx:=AP 1 _ rfl)|(refine cm.sf iT.row lH rfl 3 ([97,47,111,117,116],(false,[98,117,105,108,116,32,97,32,49,46,48,46,48])) rfl g3 ?_;intro b3 o3 f3 tf G1;have akh:=G1 0 _ rfl;have aki:=G1 2 _ rfl)|(refine ml (l:=[98,117,105,108,116,32,97,32,49,46,48,46,48]) rfl rfl rfl (by first|exact tf.own.row|exact tf.own.row.ext kA) rfl ?_)|(refine(UD (hg.ext (x0d.trans (gx.trans kA))) (TT (by decide) lP) (show Ag (.num ((74:Nat):Int))from⟨by decide,by decide⟩) Er).mono ?_;rintro _ Hk ⟨rfl,wQ⟩;have Yj:=wQ.size)|refine Vc.aq ?_)<;>(intros;(conv=>whnf)))))
  exact⟨rfl,x0d.trans (gx.trans (kA.trans wQ))⟩
end Go.Proofs.YtphkaogbcfdllaaGreatDoor
namespace Go.ej
open Go.cN Go.eg Go.cM
theorem UN (n k:Nat):fj (jx n k)=n % 256 ^ k:=by
 have key: ∀ i,i<=k->fj ((jx n k).take i)=n / 2 ^ (8*(k-i)) % 256 ^ i:=by
  intro i;induction i with
  |zero=>intro _;rw[fu,Nat.pow_zero,Nat.mod_one];rfl
  |succ i ih=>
   intro hi;rw[NA n k i (by omega),Uq,ih (by omega)];unfold DX;rw[fJ];have e:k-1-i=k-(i+1):=by omega
   have e2:2 ^ (8*(k-i))=2 ^ (8*(k-(i+1)))*256:=by
    rw[show 8*(k-i)=8*(k-(i+1))+8 by omega,Nat.pow_add]
   rw[e,e2,<-Nat.div_div_eq_div_mul];generalize n / 2 ^ (8*(k-(i+1)))=m
   rw[show 256 ^ (i+1)=256*256 ^ i from Nat.pow_succ',Nat.mod_mul];have:m % 256 % 2 ^ 8=m % 256:=by omega
   omega
 have:=key k (aB _);rw[aL (by rw[lg];exact aB _)]at this;rw[this,Nat.sub_self];simp
def Wt (f:Fi):Fi:=(f.1,f.2.1,if f.2.1=true then []else f.2.2)
theorem B4 {α:Type} {a b:List α} {n:Nat} (h:a.length=n):(a++b).take n=a:=by rw[<-h];exact List.take_left
theorem D1 {α:Type} {a b:List α} {n:Nat} (h:a.length=n):(a++b).drop n=b:=by rw[<-h];exact List.drop_left
theorem aea (f:Fi) (r:ap) (Bb:Nat) (h1:f.1.length<=65535) (h2:f.2.2.length<=1000000000) (hc:Bb<500):
  jE (lM f++r) Bb=if(cF f.1).2=51 then .inl 51 else if(cF f.1).2≠0 then .inl 64 else .inr (some (Wt f,r)):=by
 obtain⟨p,d,b⟩:=f;dsimp only at h1 h2;have cT:fj (jx p.length 2)=p.length:=by rw[UN];exact gQ (by omega)
 have CW:fj (jx b.length 8)=b.length:=by rw[UN];exact gQ (by omega)
 have ht:p.take 65535=p:=aL h1;have hm:min p.length 65535=p.length:=gL h1;cases d with
 |true=>
  have e:lM (p,true,b)++r=1::(jx p.length 2++(p++r)):=by
   unfold lM;dsimp only;rw[av rfl,av rfl,ht,hm];simp
  rw[e];unfold jE;dsimp only;rw[B4 (lg _ _),D1 (lg _ _),cT,B4 rfl,D1 rfl];rw[ak (by decide),ak (by intro h;exact h ⟨by decide,hc⟩),ak (by rw[au,lg];omega),ak (by rw[au];omega)];rfl
 |false=>
  have e:lM (p,false,b)++r=0::(jx p.length 2++(p++(jx b.length 8++(b++r)))):=by
   unfold lM;dsimp only;rw[ak (by decide),ak (by decide),ht,hm];simp
  rw[e];unfold jE;dsimp only;rw[B4 (lg _ _),D1 (lg _ _),cT,B4 rfl,D1 rfl,B4 (lg _ _),D1 (lg _ _),CW,B4 rfl,D1 rfl];rw[ak (by decide),ak (by intro h;exact h ⟨by decide,hc⟩),ak (by rw[au,lg];omega),ak (by rw[au];omega)];by_cases My:(cF p).2=51
  .rw[av My,av My]
  .rw[ak My,ak My];by_cases h0:(cF p).2≠0
   .rw[av h0,av h0]
   .rw[ak h0,ak h0,ak (by decide),ak (by rw[au,lg];omega),ak (by rw[au];omega)];rfl
theorem TU (A:List Fi):iU [255] A=(A,0):=by
 rw[NC];rfl
structure aiM (f:Fi):Prop where
 path:f.1.length<=65535
 body:f.2.2.length<=1000000000
 clean:(cF f.1).2=0
theorem Nk: ∀ (L:List Fi) (A:List Fi) (r:ap),(∀ f∈L,aiM f)->A.length+L.length<=500->iU (L.flatMap lM++r) A=iU r (A++L.map Wt)
 |[],A,r,_,_=>by simp
 |f::L,A,r,h,hc=>by
  have hf:=h f (by simp);rw[ay]at hc;rw[eG,bM,NC,aea f _ _ hf.path hf.body (by omega),ak (by rw[hf.clean];decide),ak (by rw[hf.clean];decide)];dsimp only;rw[Nk L _ r (fun g hg=>h g (by simp[hg])) (by rw[au,dQ];omega),bM];rfl
theorem Ka (L:List Fi):jv L=[80,65,75,49]++(L.flatMap lM++[255]):=by
 unfold jv ie;rw[fB];simp
theorem TV (L:List Fi) (h:(jv L).length<=262144):kh (jv L)=if(iU (L.flatMap lM++[255]) []).2=0 then
   match pR (iU (L.flatMap lM++[255]) []).1 with
   |(some A,_)=>(A,0)
   |(none,_)=>([],64)
  else([],(iU (L.flatMap lM++[255]) []).2):=by
 unfold kh;rw[Ka]at h ⊢;exact(av ⟨h,B4 rfl⟩).trans rfl
end Go.ej
namespace Go.lb
open Go.cN Go.eg Go.cM Go.Run
open Go.Vc (ck fk)
def rW:ap:=[36,110,97,109,101,47,118]
def nJ:ap:=[36,110,97,109,101,32,36,118,101,114,115,105,111,110]
def mB (t:ap):ap:=[119,114,105,116,101,32]++rW++[32,34]++(t++nJ)++[34,10]
def j8:ap:=[107,101,101,112]
def G2 (t:ap):Ln:=⟨1,rW,[],t++nJ,0,false⟩
def DP (t:ap):Prop:=∀ c∈t,c≠36/\c≠34/\c≠92/\c≠10
theorem aeb {t:ap} (h: ∀ c∈t,c≠34/\c≠92/\c≠10):nT t=t:=by
 induction t with
 |nil=>rfl
 |cons c t ih=>
  obtain⟨h1,h2,h3⟩:=h c (by simp);have e:nT (c::t)=D7 c++nT t:=by simp[nT]
  rw[e,ih fun x hx=>h x (by simp[hx])];unfold D7;rw[ak (by intro h;rcases h with h|h;exact h1 h;exact h2 h),ak h3];rfl
theorem ag7 {t:ap} (h:DP t):nT (t++nJ)=t++nJ:=aeb fun c hc=>by
 rcases bZ.1 hc with hc|hc
 .exact(h c hc).2
 .exact(by decide: ∀ c∈nJ,c≠34/\c≠92/\c≠10) c hc
theorem aec {t:ap} (h:DP t) (hl:t.length<=1000):cN.iU (mB t)=(some [G2 t],0):=by
 have hq:mB t=Aq [[119,114,105,116,101,32]++rW++[32,34]++nT (t++nJ)++[34]]:=by
  rw[ag7 h];simp[Aq,mB]
 have akj:(10:UInt8)∉ [119,114,105,116,101,32]++rW++[32,34]++nT (t++nJ)++[34]:=by
  intro hm;rw[bZ,bZ]at hm;rcases hm with (hm|hm)|hm
  .revert hm;decide
  .exact aeq _ hm
  .revert hm;decide
 have hlen:(mB t).length<=65536:=by unfold mB rW nJ;simp;omega
 rw[hq]at hlen ⊢;rw[abw _ (by intro l hl;rw[aW.1 hl];exact akj) hlen];have hw:li ([119,114,105,116,101,32]++rW++[32,34]++nT (t++nJ)++[34])=some [[119,114,105,116,101],rW,34::(t++nJ)]:=by
  have e:[119,114,105,116,101,32]++rW++[32,34]++nT (t++nJ)++[34]=119::([114,105,116,101]++32::36::([110,97,109,101,47,118]++32::34::(nT (t++nJ)++[34]))):=by simp[rW]
  rw[e,Ju (by decide) (by decide)];show(li (32::36::([110,97,109,101,47,118]++32::34::(nT (t++nJ)++[34])))).map _=_;rw[Jo (by decide),Ju (by decide) (by decide)];show((li (32::34::(nT (t++nJ)++[34]))).map _).map _=_;rw[Jo (by decide),MH,R2 (t++nJ) []];rfl
 unfold oT;rw[ak (fun e=>by have:BV ([119,114,105,116,101,32]++rW++[32,34]++nT (t++nJ)++[34])=false:=rfl;rw[this]at e;cases e),hw];rfl
theorem VQ (n v:ap):qi (mh n v) [110,97,109,101]=n:=by simp[qi,mh,fk,ck]
theorem ah2 (n v:ap):qi (mh n v) [118,101,114,115,105,111,110]=v:=by simp[qi,mh,fk,ck]
theorem SX (V:kP) (t r:ap) (h: ∀ c∈t,c≠36):gd V (t++r)=t++gd V r:=by
 induction t with
 |nil=>rfl
 |cons c t ih=>
  show gd V (c::(t++r))=_;rw[Dc,av (h c (by simp)),ih fun x hx=>h x (by simp[hx])];rfl
theorem afN (n v:ap):gd (mh n v) rW=n++[47,118]:=by
 unfold rW;rw[Dc,ak (by decide),av (by decide)];show qi (mh n v) [110,97,109,101]++gd (mh n v) ([47,118]++[])=_;rw[VQ,SX _ _ _ (by decide)];rfl
theorem afO (n v:ap):gd (mh n v) nJ=n++32::v:=by
 unfold nJ;rw[Dc,ak (by decide),av (by decide)];show qi (mh n v) [110,97,109,101]++gd (mh n v) (32::36::[118,101,114,115,105,111,110])=_;rw[VQ,Dc,av (by decide),Dc,ak (by decide),av (by decide)];show n++32::(qi (mh n v) [118,101,114,115,105,111,110]++gd (mh n v) [])=_;rw[ah2,Tg,dD]
theorem ag8 {t:ap} (h:DP t) (n v:ap):gd (mh n v) (t++nJ)=t++(n++32::v):=by
 rw[SX _ _ _ fun c hc=>(h c hc).1,afO]
def rf:Tr:=[(j8,(false,[49]))]
theorem Vs {k:ap} (h:k≠j8):ck rf k=none:=by unfold rf;simp[ck,h]
theorem afP {n b:ap} (hg:jY n) (hn:n.length<=32) (hk:Op.bytesLess j8 n=true) (hb:b.length<=65536):
  nP rf (n++[47,118]) b=([(j8,false,[49]),(n,true,[]),(n++[47,118],false,b)],0):=by
 have Z1:jY [118]:=⟨by decide,by decide,by decide,by decide,by decide⟩;have ii: ∀ x∈ [n,[118]],jY x:=by intro x hx;rcases aM.1 hx with rfl|hx;exact hg;rw[aW.1 hx];exact Z1
 have qz:n++[47,118]=glue [n,[118]]:=rfl;have cU:jk (n++[47,118]):=⟨[n,[118]],qz,ii,by simp,by rw[<-qz];simp;omega⟩;have cz:n≠j8:=(r7 hk).symm;have wE:Op.bytesLess n (n++[47,118])=true:=by
  clear hg hn hk hb Z1 ii qz cU cz;induction n with
  |nil=>rfl
  |cons c n ih=>simpa [Op.bytesLess]using ih
 have Xy:Op.bytesLess j8 (n++[47,118])=true:=lt_trans hk wE;have hp:jm (n++[47,118])=[n]:=by rw[qz];unfold jm;rw[tn ii];rfl
 have mc:ck rf (n++[47,118])=none:=Vs (r7 Xy).symm;have wM:ck rf n=none:=Vs cz;have CK:n++[47,118]≠ []:=by simp
 unfold nP;rw[cU.id];dsimp only;rw[av rfl];unfold iO;have hd:mV rf (n++[47,118])=false:=by unfold mV;rw[mc];simp
 have hf:kG rf (n++[47,118])=false:=by unfold kG;rw[hp];simp[wM]
 have hl:dm rf (n++[47,118])=[n]:=by unfold dm;rw[hp];simp[wM]
 rw[ak (by rw[hd,hf];simp),ak]
 .rw[hl];have h1:iu rf n (true,[])=[(j8,(false,[49])),(n,(true,[]))]:=by
   simp[rf,iu,hk]
  show(iu (iu rf n (true,[])) (n++[47,118]) (false,b),0)=_;rw[h1];have h2:iu [(j8,(false,[49])),(n,(true,[]))] (n++[47,118]) (false,b)=[(j8,false,[49]),(n,true,[]),(n++[47,118],false,b)]:=by
   simp[iu,wE,Xy]
  rw[h2]
 .unfold fL sG cQ;rw[mc,hl];simp[rf];omega
def nK (t:ap):Tr:=[(iH,(false,mB t)),(j8,(false,[49]))]
theorem OO (t:ap):(mB t).length=t.length+31:=by unfold mB rW nJ;simp
theorem ah3 (t:ap) (hl:t.length<=1000):pR (nK t)=(some (nK t),0):=by
 have hs:=OO t;have h1:iO [] iH (mB t)=([(iH,(false,mB t))],0):=by
  unfold iO;rw[ak (by decide),ak]
  .rfl
  .rw[show cQ []-fL [] iH=0 from by decide,show List.length ([]:Tr)+sG [] iH=1 from by decide];omega
 have h2:iO [(iH,(false,mB t))] j8 [49]=(nK t,0):=by
  unfold iO;rw[ak,ak]
  .rfl
  .rw[show List.length ([(iH,(false,mB t))]:Tr)+sG [(iH,(false,mB t))] j8=2 from rfl];simp[cQ];omega
  .rw[show mV [(iH,(false,mB t))] j8=false from rfl,show kG [(iH,(false,mB t))] j8=false from rfl];simp
 unfold pR nK;rw[pE,ak (by decide: ¬(cF iH).2≠0),ak (by intro h;rcases h with h|h;exact absurd h (by simp);exact absurd h.1 Bool.false_ne_true),show(cF iH).1=iH from by decide,show ov [] iH (iH,(false,mB t))=([(iH,(false,mB t))],0)from h1,ak (by simp)];rw[pE,ak (by decide: ¬(cF j8).2≠0),show(cF j8).1=j8 from by decide,ak (by intro h;rcases h with h|h;exact absurd h (by decide);exact absurd h.1 (by simp)),show ov [(iH,(false,mB t))] j8 (j8,(false,[49]))=(nK t,0)from h2,ak (by simp)];rfl
theorem afQ (t:ap) (hl:t.length<=1000):ej.kh (ej.jv (nK t))=(nK t,0):=by
 have hs:=OO t;have hp:ej.iU ((nK t).flatMap ej.lM++[255]) []=(nK t,0):=by
  rw[ej.Nk (nK t) [] [255] (fun f hf=>by
   rcases aM.1 hf with rfl|hf
   .exact⟨(by decide:iH.length<=65535),by dsimp only;omega,(by decide:(cF iH).2=0)⟩
   .rw[aW.1 hf];exact⟨by decide,by decide,by decide⟩) (by show 0+2<=500;decide),ej.TU]
  rfl
 rw[ej.TV,hp]
 .dsimp only;rw[av rfl,ah3 t hl]
 .rw[ej.Ka];unfold nK;simp[ej.lM,ej.lg];simp[iH,j8];omega
theorem ag9 {n v t:ap} (h:DP t) (hl:t.length<=1000) (hg:jY n) (hn:n.length<=32) (hk:Op.bytesLess j8 n=true) (hv:v.length<=1000):
  oX n v (nK t)=(0,[(j8,(false,[49])),(n,(true,[])),(n++[47,118],(false,t++(n++32::v)))]):=by
 have hr:qN (nK t) iH=(mB t,0):=rfl;have hm:nN (nK t) iH=(rf,0):=rfl;have tK:jF [G2 t] 65536 0 ⟨0,rf,some (mh n v),[]⟩=((1,0),⟨1,[(j8,(false,[49])),(n,(true,[])),(n++[47,118],(false,t++(n++32::v)))],some (mh n v),[]⟩):=by
  have cW:fX (cY [G2 t]) (G2 t) ⟨0,rf,some (mh n v),[]⟩=(⟨1,[(j8,(false,[49])),(n,(true,[])),(n++[47,118],(false,t++(n++32::v)))],some (mh n v),[]⟩,0):=by
   unfold fX;rw[ak (by show ¬(1=0);decide),av (by show 1=1;rfl)];show qO _ (nP rf (gd (mh n v) rW) (gd (mh n v) (t++nJ)))=_;rw[afN,ag8 h,afP hg hn hk (by simp;omega)];rfl
  rw[show(65536:Nat)=65535+1 from rfl,Nv (x:=G2 t) rfl,cW,av rfl,Ua (by simp)]
 unfold oX;rw[hr,hm,av rfl,aec h hl];dsimp only;rw[tK]
theorem afR {n v t:ap} (h:DP t) (hl:t.length<=1000) (hg:jY n) (hn:n.length<=32) (hk:Op.bytesLess j8 n=true) (hv:v.length<=1000):
  jN true n v (ej.jv (nK t))=([(n,(true,[])),(n++47::j8,(false,[49])),(n++47::n,(true,[])),(n++47::(n++[47,118]),(false,t++(n++32::v)))],0):=by
 unfold jN;rw[ak (by simp),afQ t hl,ak (by simp)];dsimp only;rw[ag9 h hl hg hn hk hv,ak (by simp)];rfl
end Go.lb
namespace Go.lb
open Go.cN Go.eg Go.cM Go.Run Go.ew
def vF (k:Nat):ap:=112::Lib.itoa (k:Int)
theorem ah4: ∀ k<256,(vF k≠ []/\vF k≠ [46]/\vF k≠ [46,46]/\wh (vF k)=false/\(47:UInt8)∉vF k)/\(vF k).length<=4/\Op.bytesLess j8 (vF k)=true:=by decide+kernel
def uz (k:Nat) (pre:Bool):fp:=⟨k,0,0,if pre then [[120]]else []⟩
theorem aha: ∀ k<256,∀ pre,(km (uz k pre)).length<=30:=by decide+kernel
theorem ahb (k:Nat) (pre:Bool):(mI (uz k pre).pre).length<=10:=by cases pre<;>exact aS rfl
def Xz (c:UInt8):Prop:=c=36\/c=34\/c=92\/c=10
end Go.lb
namespace Go.Proofs.YtphkaogbcfdllaaGreatDoor
open Go Go.Vc Go.cN Go.eg Go.cM Go.Run Go.ew Go.lb Go.uv
theorem ahc {P:Program} {ops:List Oper} {X:kD} {i:Nat} {l:List Oper} {env:Env} {H:ae} {k:Env->ae->Prop} (h: ∀ (X':kD) (k':Env->ae->Prop),X'=X->k'=k->qa P ops X' i l env H k'):qa P ops X i l env H k:=h X k rfl rfl
theorem ahd {K:Value->Prop} {o1 o2:Operand} {s:ByteArray} {a:Option Addr} {n c:Nat} (h:K (.agg #[.string s,.bool false,.slice a n c])):da Tryz.prog (Instr.build 71 ((List.map (fun x:Nat×Operand=>x.1) (#[(0,o1),(2,o2)]:Array (Nat×Operand)).toList).zip [.string s,.slice a n c]).toArray) K:=da.build _ (by kernel_rfl) h
theorem acs {m:Int}:Go.Program.built Tryz.prog 83 [(0,.int .i64 m)]=some #[.int .i64 m,.int .i64 0,.int .i64 0,.slice none 0 0]:=by kernel_rfl
set_option maxHeartbeats 4000000 in
theorem aed {H:ae} (hg:kS H) (hH:2<=H.size) (nm:Nat) (IA:nm<256) (pre:Bool) (t:Bs) (ht:t.length<=9223372036854775807):
  az Tryz.prog 10 [.int .u8 nm,.bool pre,.string (ag t)] H fun v H'=>v= .bool true/\ax H H':=by
 have cW:(ag t).size=t.length:=rfl;refine Vc.az.body Tryz.func10 Tryz.call10 rfl (by decide+kernel) rfl ?_;by_cases h50:50<t.length
 ·((conv=>whnf);repeat(any_goals((first|(refine(Jz hg hH).mono ?_;rintro _ H1 ⟨rfl,cd⟩;have eR:=cd.size)|refine Vc.aq ?_)<;>(intros;(conv=>whnf)))))
  exact⟨rfl,cd⟩
 ((conv=>whnf);repeat(any_goals((first|(refine(Jz hg hH).mono ?_;rintro _ H1 ⟨rfl,cd⟩;have eR:=cd.size)|refine Vc.aq ?_)<;>(intros;(conv=>whnf)))))
 refine dt.intro (fun(i:Nat)=>[(7,.int .i64 i)]) (fun i H'=>i<=t.length/\(∀ c∈t.take i,¬Xz c)/\H1=H') (fun i=>t.length-i) 0 ⟨rfl,aF⟩ ⟨aI _,fun c hc=>(by simp at hc),rfl⟩ ?_;rintro i _ ⟨hi,ii,rfl⟩;by_cases ct:i<t.length
 .obtain⟨c,hc,hd⟩:=pX ct;have wJ:=c.toNat_lt;have Li:t.take (i+1)=t.take i++[c]:=by
   rw[bX];have:t[i]? =some c:=by rw[<-List.head?_drop,hd];rfl
   rw[this];rfl
  by_cases hb:Xz c
  .rcases hb with rfl|rfl|rfl|rfl;all_goals
    ((conv=>whnf);repeat(any_goals((first|(refine db.nat i rfl (by omega) ?_;(conv=>whnf);rw[hc])|refine Vc.aq ?_)<;>(intros;(conv=>whnf)))))
    exact⟨rfl,cd⟩
  .have h1:c.toNat≠36:=fun e=>hb (.inl (dJ.1 e));have h2:c.toNat≠34:=fun e=>hb (.inr (.inl (dJ.1 e)));have h3:c.toNat≠92:=fun e=>hb (.inr (.inr (.inl (dJ.1 e))));have h4:c.toNat≠10:=fun e=>hb (.inr (.inr (.inr (dJ.1 e))));((conv=>whnf);repeat(any_goals((first|(refine db.nat i rfl (by omega) ?_;(conv=>whnf);rw[hc])|refine Vc.aq ?_)<;>(intros;(conv=>whnf)))))
   exact⟨i+1,⟨rfl,aF⟩,⟨by omega,fun d pI=>by
    rw[Li]at pI;rcases bZ.1 pI with h|h
    .exact ii d h
    .rw[aW.1 h];exact hb,rfl⟩,by omega⟩
 .obtain rfl:i=t.length:=by omega
  rw[fB]at ii;have vo:DP t:=fun c hc=>⟨fun e=>ii c hc (.inl e),fun e=>ii c hc (.inr (.inl e)),fun e=>ii c hc (.inr (.inr (.inl e))),fun e=>ii c hc (.inr (.inr (.inr e)))⟩;obtain⟨CM,mM,jQ⟩:=ah4 nm IA;have EA:jY (vF nm):=⟨CM.1,CM.2.1,CM.2.2.1,CM.2.2.2.1,CM.2.2.2.2⟩;have nH:=aha nm IA;have Ba:=fun H=>FL nm (by omega) H;have szN:(ag (Lib.itoa (nm:Int))).size=(Lib.itoa (nm:Int)).length:=rfl;have yH:(Lib.itoa (nm:Int)).length<=3:=by unfold vF at mM;rw[ay]at mM;omega
  have EP:(⟨#[112]⟩:ByteArray).size=1:=rfl;((conv=>whnf);repeat(any_goals((first|refine Vc.pe ?_|refine Vc.bz ?_ ?_)<;>(intros;(conv=>whnf)))))
  refine Vc.jO.go ?_;((conv=>whnf);repeat(any_goals((first|(refine(Ba _).mono ?_;rintro _ _ ⟨rfl,rfl⟩)|(refine kM.mk ⟨by(simp only[cO,EP,szN,cW];omega),?_⟩)|(show Go.Vc.da _ _ _;refine da.xC _ acs ?_)|refine Vc.pe ?_|refine Vc.bz ?_ ?_)<;>(intros;(conv=>whnf)))))
  rename_i Ha za ba xa Hb zb bb xb;have E6:ax H1 Hb:=xa.but xb (aB _);refine jO.cut (fun(_:Unit)=>[]) (fun _ H'=>∃ va vc,bu H' H1.size #[.int .i64 nm,.int .i64 0,.int .i64 0,.slice va (uz nm pre).pre.length vc] 83/\(uz nm pre).pre.length<=vc/\mJ 9 H' va (strs (uz nm pre).pre)/\ax H1 H') ?_ ?_
  .cases pre
   ·((conv=>whnf);repeat(any_goals((first|refine Vc.aq ?_)<;>(intros;(conv=>whnf)))))
    exact⟨(),aF,none,0,bb,aB _,mJ.nil _ _ _,E6⟩
   ·((conv=>whnf);repeat(any_goals((first|refine Vc.aq ?_)<;>(intros;(conv=>whnf)))))
    rename_i Hc zc bc xc Hd zd bd xd;exact⟨(),aF,some ⟨Hb.size,0,none⟩,1,bd,aB _,⟨(bu.row (c:=[.string ⟨#[120]⟩]) bc).keep xd fun q hq e=>by cases hq;dsimp only at e;omega,fun _ q hq=>by cases hq;exact⟨_,bc.but xd (by omega)⟩⟩,(E6.trans xc).but xd (aB _)⟩
  rintro _ H2 ⟨va,vc,di,Rn,xi,Ro⟩;have dT:=Ro.size;have szA:(⟨#[119,114,105,116,101,32,36,110,97,109,101,47,118,32,34]⟩:ByteArray).size=15:=rfl;have szB:(⟨#[36,110,97,109,101,32,36,118,101,114,115,105,111,110,34,10]⟩:ByteArray).size=16:=rfl;have LM:(⟨#[119,114,105,116,101,32,36,110,97,109,101,47,118,32,34]⟩:ByteArray)++ag t++⟨#[36,110,97,109,101,32,36,118,101,114,115,105,111,110,34,10]⟩=ag (mB t):=by
   rw[show mB t=[119,114,105,116,101,32,36,110,97,109,101,47,118,32,34]++t++[36,110,97,109,101,32,36,118,101,114,115,105,111,110,34,10]by simp[mB,rW,nJ],<-kC,<-kC]
  have hsl:=OO t;have YY:(ag (mB t)).size=(mB t).length:=rfl;have rR: ∀ f∈nK t,f.2.2.length<=1000000:=fun f hf=>by
   rcases aM.1 hf with rfl|hf
   .dsimp only;omega
   .rw[aW.1 hf];decide
  ((conv=>whnf);repeat(any_goals((first|(refine kM.mk ⟨by(simp only[cO,szA,szB,cW];omega),?_⟩)|(rw[LM];refine aE.of_string rfl rfl rfl (by unfold maxLen;omega) ?_;intro c3 H3 eI bw;have eJ:=bw.size)|((with_reducible apply ahd);(conv=>whnf))|((with_reducible apply aE.PS [.int .u8 49]);rfl;rfl;rfl;rfl;rfl;rfl;rfl;(intro H4 gA iX cH;(conv=>whnf)))|(refine aE.Pj rfl rfl iX cH (aB _) ?_;intro H5 ij im cE;refine ahc fun X' k' hX' iK=> ?_)|(have:=im;rename_i Hl zl bl xl;have Rp:j4 Hl (some ⟨H5.size,0,none⟩) (nK t):=⟨_,bu.row (c:=kU (iH,false,mB t) (some ⟨H2.size,0,none⟩) c3++(kU (j8,false,[49]) (some ⟨H3.size,0,none⟩) 1++[])) bl,kg.cons ((eI.row).ext (cE.trans xl)) (kg.cons ((bu.row (c:=cv [49]) im).ext xl) .nil)⟩;refine(NK (nK t) _ 2 2 _ Rp rfl (by decide) rR).mono ?_;rintro _ H6 ⟨⟨a6,c6,rfl,ei⟩,cV⟩;have fS:=cV.size)|refine Vc.aq ?_)<;>(intros;(conv=>whnf)))))
  subst hX' iK;have ib:(ej.jv (nK t)).length<=1000:=by
   rw[ej.Ka];unfold nK;simp[ej.lM,ej.lg];simp[iH,j8];omega
  have Mz:ax H2 H6:=bw.trans (cE.trans (xl.trans cV));have x16:ax H1 H6:=Ro.trans Mz;have oP:=di.ext Mz;have oA:=vG (ej.jv (nK t));have yC:=VP ei;have Z2:(⟨#[112]⟩:ByteArray)++ag (Lib.itoa (nm:Int))=ag (vF nm):=by
   show ag [112]++ag _=_;rw[kC];rfl
  have oM:=afR (v:=km (uz nm pre)) vo (by omega) EA (by omega) jQ (by have:=nH pre;omega);obtain⟨B,hB⟩: ∃ B,ej.jv (nK t)=B:=⟨_,rfl⟩;rw[hB]at ei ib oA oM ⊢;have hVl:=nH pre;obtain⟨V,hV⟩: ∃ V,km (uz nm pre)=V:=⟨_,rfl⟩;obtain⟨N,hN⟩: ∃ N,vF nm=N:=⟨_,rfl⟩;rw[hN]at Z2 oM mM;rw[hV]at oM hVl;obtain⟨L4,hl4,g0,g1,g2,g3,Rm⟩: ∃ L4:Tr,L4.length=4/\L4[0]? =some (N,(true,[]))/\L4[1]? =some (N++47::j8,(false,[49]))/\L4[2]? =some (N++47::N,(true,[]))/\L4[3]? =some (N++47::(N++[47,118]),(false,t++(N++32::V)))/\ [(N,(true,[])),(N++47::j8,(false,[49])),(N++47::N,(true,[])),(N++47::(N++[47,118]),(false,t++(N++32::V)))]=L4:=⟨_,rfl,rfl,rfl,rfl,rfl,rfl⟩;rw[Rm]at oM;have jo:nC (uz nm pre):=nC.one (by omega) (by cases pre<;>decide) (by cases pre<;>decide);((conv=>whnf);repeat(any_goals((first|((with_reducible refine Vc.cy.held [0,1,2,6,3,4,5,7,8,9,10,11,12] [(3,[1]),(4,[1])] mixed (by decide+kernel) ?_))|(have:=oP;rename_i Hp zp bp xp;have wI:=FM bp (ei.row.ext xp) rfl ei.jC;refine(Fz _ _ 1 1 _ wI rfl (by decide) (by rw[tu];dsimp only;omega)).mono ?_;rintro _ H7 ⟨rfl,dq⟩;have jK:=dq.size;rw[tu])|(rw[Z2];show Go.Vc.da _ _ _;refine da.F6 _ (NL (s:=N) (v:=uz nm pre) oA) ?_)|(have:=dq;have sn:=De ⟨N,uz nm pre,ix B⟩ (u9 N (uz nm pre) (ix B) va vc) ⟨va,vc,rfl,oA,Rn,xi.ext (Mz.trans (xp.trans dq))⟩ jo (by dsimp only;omega) B a6 _ c6 (ei.row.ext (xp.trans dq)) rfl ei.jC yC (by omega) (hg.ext (cd.trans (x16.trans (xp.trans dq)))) (by omega);dsimp only at sn;rw[bB (show ix B=ix B from rfl),hV,oM]at sn;refine sn.mono ?_;rintro _ H9 ⟨⟨a9,c9,fs,er,rfl,kv,vC,jA⟩,kA⟩;have ly:=kA.size;unfold pF at jA;rw[av rfl]at jA;subst jA;dsimp only at kv vC ⊢)|refine Vc.aq ?_)<;>(intros;(conv=>whnf)))))
  have Rq:ax H2 H9:=Mz.trans (xp.trans (dq.trans kA));have q8:=di.ext Rq;have Ml:=xi.row.ext Rq;have Ia:=fun H' (k:ax H9 H')=>SI (uz nm pre) ⟨by have:=jo.ma;omega,by have:=jo.mi;omega,by have:=jo.pa;omega,by have:=jo.len;omega⟩ (by have:=ahb nm pre;omega) va vc H' (Ml.ext k);rw[hV]at Ia;have akk:(ag N).size=N.length:=rfl;have szV:(ag V).size=V.length:=rfl;have sz1:(⟨#[47,107,101,101,112]⟩:ByteArray).size=5:=rfl;have sz2:(⟨#[47]⟩:ByteArray).size=1:=rfl;have sz3:(⟨#[47,118]⟩:ByteArray).size=2:=rfl;have sz4:(⟨#[32]⟩:ByteArray).size=1:=rfl;have q3:ag N++⟨#[47,107,101,101,112]⟩=ag (N++47::j8):=by show ag N++ag [47,107,101,101,112]=_;rw[kC];rfl
  have q4:ag N++⟨#[47]⟩++ag N=ag (N++47::N):=by show ag N++ag [47]++ag N=_;rw[kC,kC];simp
  have q6:ag N++⟨#[47]⟩++ag N++⟨#[47,118]⟩=ag (N++47::(N++[47,118])):=by show ag N++ag [47]++ag N++ag [47,118]=_;rw[kC,kC,kC];simp
  have q7:ag t++ag N++⟨#[32]⟩++ag V=ag (t++(N++32::V)):=by show ag t++ag N++ag [32]++ag V=_;rw[kC,kC,kC];simp
  have e3:((ag (N++47::j8)).toList==(ag N++⟨#[47,107,101,101,112]⟩).toList)=true:=by rw[q3,eD]
  have e4:((ag (N++47::N)).toList==(ag N++⟨#[47]⟩++ag N).toList)=true:=by rw[q4,eD]
  have e6:((ag (N++47::(N++[47,118]))).toList==(ag N++⟨#[47]⟩++ag N++⟨#[47,118]⟩).toList)=true:=by rw[q6,eD]
  have e7:((ag (t++(N++32::V))).toList==(ag t++ag N++⟨#[32]⟩++ag V).toList)=true:=by rw[q7,eD]
  ((conv=>whnf);repeat(any_goals((first|(first|(with_reducible refine Vc.cy.ku (id:=18) mixed ?_)|(with_reducible refine Vc.cg.split (es:=[]) 55 61 (by decide) (by decide) (by decide) ?_ ?_)|(with_reducible refine Vc.cg.held (es:=[(55,61)]) [0,1,2,3,4,5,6,7,8,9,10,11,12,13,14,15,16,17,18,19,20,21,22,23,24,25,26,27,28,29,30,31,32,33,34,35,36,37,38,39,40,41,42,43,44,45,46,47,48,49,50,51,52,53,54,55,56,57,58,59,60,61,62,63,64,65] [] (by decide+kernel) ?_)|(with_reducible refine Vc.cg.held (es:=[(61,55)]) [0,1,2,3,4,5,6,7,8,9,10,11,12,13,14,15,16,17,18,19,20,21,22,23,24,25,26,27,28,29,30,31,32,33,34,35,36,37,38,39,40,41,42,43,44,45,46,47,48,49,50,51,52,53,54,56,57,58,59,60,61,55,62,63,64,65] [(61,[54])] (by decide+kernel) ?_))|(refine cm.sf kv.row vC rfl 0 (N,(true,[])) rfl g0 ?_;intro b0 o0 f0 nh AP;have Xw:=AP 0 _ rfl;have Xx:=AP 1 _ rfl)|(refine cm.sf kv.row vC rfl 1 (N++47::j8,(false,[49])) rfl g1 ?_;intro b1 o1 f1 lZ Lr;have akl:=Lr 0 _ rfl)|(refine cm.sf kv.row vC rfl 2 (N++47::N,(true,[])) rfl g2 ?_;intro b2 o2 f2 rV XA;have alk:=XA 0 _ rfl;have alm:=XA 1 _ rfl)|(refine cm.sf kv.row vC rfl 3 (N++47::(N++[47,118]),(false,t++(N++32::V))) rfl g3 ?_;intro b3 o3 f3 tf G1;have akh:=G1 0 _ rfl;have aki:=G1 2 _ rfl)|(refine(Ia _ (by exact Vc.xt)).mono ?_;rintro _ Hv ⟨rfl,C1⟩;have Y9:=C1.size)|(refine ml (l:=t++(N++32::V)) rfl rfl rfl (by first|exact tf.own.row|exact tf.own.row.ext C1) rfl ?_)|(refine kM.mk ⟨by(simp only[cO,akk,szV,sz1,sz2,sz3,sz4,cW];omega),?_⟩)|refine Vc.aq ?_)<;>(intros;(conv=>whnf)))))
  all_goals exact⟨by show Value.bool ((ag (t++(N++32::V))).toList==(ag t++ag N++⟨#[32]⟩++ag V).toList)=_;rw[e7],cd.trans (Ro.trans (Rq.trans C1))⟩
end Go.Proofs.YtphkaogbcfdllaaGreatDoor
namespace Go.Vc
open Go.ChangeShapes Go.WideShapes Go.RowKit
section
variable {H:Type} {enc:TypeId×Value->H} {P:Program} {w:World} {base:Nat} {spare:Nat->Bool} {held:Bool}
end
end Go.Vc
namespace Go.Proofs.YtphkaogbcfdllaaGreatDoor
open Go Go.Vc Go.ChangeShapes Go.WideShapes Go.ChangeAt Go.RowKit
theorem Oj:laidOutB Tryz.prog=true:=by kernel_rfl
theorem own:ownKnob Tryz.prog.godebug=none:=by kernel_rfl
abbrev KV:List (String×DataW Unit):=Rows.vmIfsRow.laid
abbrev yh:List (String×DataW Unit):=KV.filter fun x=>x.2.handleName?.isNone
noncomputable def VR (os:Os):World:=
 let w0:=World.holding Tryz.prog os ⟨#[],#[],[]⟩
 {w0 with heap:=w0.heap.modify 0 fun
   | .cells _ t frozen=> .cells #[.iface 318 (.agg #[.pointer (some ⟨7,30,none⟩)])] t frozen
   |o=>o}
noncomputable def Es (os:Os):World:=(VR os).layVars Tryz.prog yh
theorem OP (os:Os):(Es os).os=os:=World.layVars_os _ _ _
theorem Ol (os:Os) (args:Array Value):laidMetH Tryz.prog KV ((Es os).forCall (fun _ _=>0) ⟨#[],args,[]⟩).memory:=by
 refine laidMetH_of_parts ?_ (by kernel_rfl);have e1:(yh.filter fun x=>(yh.map (·.1)).contains x.1)=yh:=List.filter_eq_self.2 fun x hx=>List.contains_iff_mem.2 (bH.2 ⟨x,hx,rfl⟩);have e2:(yh.filter fun x=> !(yh.map (·.1)).contains x.1)=[]:=List.filter_eq_nil_iff.2 fun x hx=>by rw[List.contains_iff_mem.2 (bH.2 ⟨x,hx,rfl⟩)];simp
 have h:laidMet Tryz.prog yh (Es os):=laidMet_layVars (w0:=VR os) (yh.map (·.1)) [] (by rw[e1];rfl) (by rw[e1];kernel_rfl) (by rw[e1];kernel_rfl) (by rw[e2];exact LaidIn.none);exact h.of_heap (by simp[World.memory,World.forCall,Input.heap])
theorem ahe:((List.range Tryz.prog.types.size).filter fun t=>Tryz.prog.rowNamed t [101,114,114,111,114])=[30]:=by kernel_rfl
theorem Da {W:World} (h:laidMetH Tryz.prog KV W):kS W.heap:=by
 have h':laidMet Tryz.prog yh W/\handlesMet Tryz.prog (KV.filter fun x=>x.2.handleName?.isSome) W:=h;refine⟨?_,?_⟩
 .obtain⟨name,u,ty,e1,e2,e3,e4,e5⟩:=h'.2 _ (aW.2 rfl);have en:name=[101,114,114,111,114]:=(bW e1).symm;subst en;have hu:some u=some 318:=e2.symm.trans (by kernel_rfl);obtain rfl:=bW hu;have hm:ty∈(List.range Tryz.prog.types.size).filter fun t=>Tryz.prog.rowNamed t [101,114,114,111,114]:=bT.2 ⟨fQ.2 e3,e4⟩;rw[ahe]at hm;obtain rfl:=aW.1 hm;have hh:typeHandle Tryz.prog 30= .pointer (some ⟨7,30,none⟩):=by kernel_rfl
  rw[hh]at e5;have hc:W.cell? ⟨0,0,none⟩=some (.iface 318 (.agg #[.pointer (some ⟨7,30,none⟩)])):=by simpa using World.var?_cell (show Tryz.prog.globalNamed _=some 0 by kernel_rfl) e5 0
  rw[vJ]at hc;exact hc
 .have h3:=laidMet.tail (laidMet.tail h'.1);have ht:=Lib.tabIs_of_head (P:=Tryz.prog) (W:=W) (k:= .u64) (zs:=Lib.pow10Tab) (g:=1) (t:=353) (e:=187) (by kernel_rfl) (by kernel_rfl) rfl rfl (by kernel_rfl) (by kernel_rfl) h3;unfold Lib.TabIs World.var? at ht;rw[show Tryz.prog.globalNamed _=some 1 by kernel_rfl]at ht;simp only[Option.bind_some]at ht;split at ht
  .rename_i cs t fr he;cases ht;exact⟨t,fr,he⟩
  .cases ht
end Go.Proofs.YtphkaogbcfdllaaGreatDoor
namespace Go.Proofs.YtphkaogbcfdllaaGreatDoor
open Go Go.Vc Go.cN Go.eg Go.cM
def Aj (A:Tr):Prop:=∀ (i j:Nat) (x y:ap×cM.Node),i<j->A[i]? =some x->A[j]? =some y->Op.bytesLess y.1 x.1=false
theorem afS (p q:Bs) (H:ae):az Tryz.prog 77 [.string (ag p),.string (ag q)] H fun v H'=>v= .int .i64 (if Op.bytesLess p q=true then-1 else if Op.bytesLess q p=true then 1 else 0)/\H=H':=
 az.calls Tryz.call77 fun w hw=>(TB p q w).mono fun e w' ⟨h1,h2⟩=>⟨_,h1,by rw[h2];exact dC.refl w,rfl,by rw[h2,hw]⟩
theorem FP (p q:Bs) (d1 d2:Bool) (a1 a2:Option Addr) (n1 c1 n2 c2:Nat) (H:ae):
  az Tryz.prog 102 [.agg #[.string (ag p),.bool d1,.slice a1 n1 c1],.agg #[.string (ag q),.bool d2,.slice a2 n2 c2]] H fun v H'=>v= .int .i64 (if Op.bytesLess p q=true then-1 else if Op.bytesLess q p=true then 1 else 0)/\ax H H':=by
 refine Vc.az.body Tryz.func102 Tryz.call102 rfl (by decide+kernel) rfl ?_;((conv=>whnf);repeat(any_goals((first|(refine(afS p q _).mono ?_;rintro _ _ ⟨rfl,rfl⟩)|refine Vc.aq ?_)<;>(intros;(conv=>whnf)))))
 exact⟨rfl,by exact Vc.xt⟩
theorem Gb {p q:Bs} (h:Op.bytesLess p q=false): ¬(if Op.bytesLess p q=true then(-1:Int)else if Op.bytesLess q p=true then 1 else 0)<0:=by
 rw[h,ak (by decide)];split<;>decide
set_option maxHeartbeats 2000000 in
theorem SY (A:Tr) (hs:Aj A) (a:Option Addr) (n cap:Nat) (H:ae) (hr:j4 H a A) (hn:A.length=n) (mM:n<=1000) (lo hi:Nat) (h1:lo<=hi) (h2:hi<=n):
  az Tryz.prog 182 [.slice a n cap,.int .i64 lo,.int .i64 hi,.func (.func 102) #[] #[]] H fun v H'=>v= .tuple #[]/\ax H H':=by
 refine Vc.az.body Tryz.func182 Tryz.call182 rfl (by decide+kernel) rfl ?_;((conv=>whnf);repeat(any_goals((first|refine Vc.aq ?_)<;>(intros;(conv=>whnf)))))
 refine dt.intro (fun(i:Nat)=>[(8,.int .i64 i)]) (fun i H'=>lo+1<=i/\i<=n+1/\ax H H') (fun i=>n+1-i) (lo+1) ⟨rfl,aF⟩ ⟨aB _,by omega,ax.refl _⟩ ?_;rintro i H1 ⟨A2,sj,cd⟩;have eR:=cd.size;by_cases ct:i<hi
 ·((conv=>whnf);repeat(any_goals((first|refine Vc.aq ?_)<;>(intros;(conv=>whnf)))))
  refine dt.intro (fun(j:Nat)=>[(9,.int .i64 j)]) (fun j H'=>j=i/\ax H H') (fun j=>j) i ⟨rfl,aF⟩ ⟨rfl,cd⟩ ?_;rintro j H2 ⟨rfl,bh⟩;obtain⟨m,rfl⟩: ∃ m,j=m+1:=⟨j-1,by omega⟩;obtain⟨x,hx⟩: ∃ x,A[m+1]? =some x:=⟨_,aD (by omega)⟩;obtain⟨y,hy⟩: ∃ y,A[m]? =some y:=⟨_,aD (by omega)⟩;have qs:=Gb (hs m (m+1) y x (Nat.lt_succ_self m) hy hx);((conv=>whnf);repeat(any_goals((first|(refine cm.file (hr.ext bh) hn (m+1) x rfl hx ?_;intro b o af cf ic cU)|(refine cm.file (hr.ext bh) hn m y (by omega) hy ?_;intro b' o' yV yW Ls qq)|((with_reducible apply aE.nr);(exact cU);(exact Vc.xt);(conv=>whnf))|((with_reducible apply aE.nr);(exact qq);(exact Vc.xt);(conv=>whnf))|(refine(FP x.1 y.1 x.2.1 y.2.1 af yV _ cf _ yW _).mono ?_;rintro _ H3 ⟨rfl,bw⟩;have eJ:=bw.size)|refine Vc.aq ?_)<;>(intros;(conv=>whnf)))))
  exact⟨m+1+1,⟨rfl,aF⟩,⟨by omega,by omega,bh.trans (by exact Vc.xt)⟩,by omega⟩
 ·((conv=>whnf);repeat(any_goals((first|refine Vc.aq ?_)<;>(intros;(conv=>whnf)))))
  exact⟨rfl,cd⟩
theorem Aj.le {A:Tr} (hs:Aj A) {i j:Nat} {x y:ap×cM.Node} (h:i<=j) (hx:A[i]? =some x) (hy:A[j]? =some y):Op.bytesLess y.1 x.1=false:=by
 rcases bR i j with h1|h1
 .exact hs i j x y h1 hx hy
 .have e:i=j:=by omega
  subst e;rw[hx]at hy;cases hy;exact lt_irrefl _
theorem fm.half {a b h:Nat} {K:Int->Prop} (e:(a+b) / 2=h) (hb:a+b<=1000000) (hk:K (h:Int)):fm .i64 (nA .u64 ((a:Int)+(b:Int)) 1) K:=by
 have:nA .u64 ((a:Int)+(b:Int)) 1=(h:Int):=by
  unfold nA;rw[show min (1:Int).toNat IntKind.u64.bits=1 from rfl,Int.fdiv_eq_ediv_of_nonneg _ (by decide)];omega
 rw[this];exact fm.i64 (by omega) hk
set_option maxHeartbeats 4000000 in
theorem UO (A:Tr) (hs:Aj A) (ad:Option Addr) (n cap:Nat) (H0:ae) (hr:j4 H0 ad A) (hn:A.length=n) (mM:n<=1000): ∀ (d a m b:Nat) (H:ae) (_:ax H0 H),b-a<=d->a<m->m<b->b<=n->
  az Tryz.prog 202 [.slice ad n cap,.int .i64 a,.int .i64 m,.int .i64 b,.func (.func 102) #[] #[]] H fun v H'=>v= .tuple #[]/\ax H H':=by
 intro d;induction d with
 |zero=>intro a m b H k h1 h2 h3 h4;omega
 |succ d ih=>
  intro a m b H k h1 h2 h3 h4;refine Vc.az.body Tryz.func202 Tryz.call202 rfl (by decide+kernel) rfl ?_;by_cases c1:m-a=1
  .obtain⟨x,hx⟩: ∃ x,A[a]? =some x:=⟨_,aD (by omega)⟩;((conv=>whnf);repeat(any_goals((first|refine Vc.aq ?_)<;>(intros;(conv=>whnf)))))
   refine dt.intro (fun(j:Nat)=>[(11,.int .i64 j),(10,.int .i64 m)]) (fun j H'=>m<=j/\j<=b/\ax H H') (fun j=>j) b ⟨rfl,rfl,aF⟩ ⟨by omega,aB _,ax.refl _⟩ ?_;rintro j H2 ⟨hj1,Cy,bh⟩;by_cases ct:m<j
   .obtain⟨h,hh⟩: ∃ h,(m+j) / 2=h:=⟨_,rfl⟩;obtain⟨y,hy⟩: ∃ y,A[h]? =some y:=⟨_,aD (by omega)⟩;have qs:=Gb (hs.le (show a<=h by omega) hx hy);((conv=>whnf);repeat(any_goals((first|(refine fm.half hh (by omega) ?_)|(refine cm.file (hr.ext (k.trans bh)) hn h y rfl hy ?_;intro bo o af cf ic cU)|(refine cm.file (hr.ext (k.trans bh)) hn a x rfl hx ?_;intro Rr o' yV yW Ls qq)|((with_reducible apply aE.nr);(exact cU);(exact Vc.xt);(conv=>whnf))|((with_reducible apply aE.nr);(exact qq);(exact Vc.xt);(conv=>whnf))|(refine(FP y.1 x.1 y.2.1 x.2.1 af yV _ cf _ yW _).mono ?_;rintro _ H3 ⟨rfl,bw⟩;have eJ:=bw.size)|refine Vc.aq ?_)<;>(intros;(conv=>whnf)))))
    exact⟨h,⟨rfl,rfl,aF⟩,⟨by omega,by omega,bh.trans (by exact Vc.xt)⟩,by omega⟩
   ·((conv=>whnf);repeat(any_goals((first|refine Vc.aq ?_)<;>(intros;(conv=>whnf)))))
    refine dt.intro (fun(j:Nat)=>[(13,.int .i64 a)]) (fun j H'=>H2=H') (fun j=>j) 0 ⟨rfl,aF⟩ rfl ?_;rintro _ _ rfl;((conv=>whnf);repeat(any_goals((first|refine Vc.aq ?_)<;>(intros;(conv=>whnf)))))
    exact⟨rfl,bh⟩
  by_cases c2:b-m=1
  .obtain⟨x,hx⟩: ∃ x,A[m]? =some x:=⟨_,aD (by omega)⟩;((conv=>whnf);repeat(any_goals((first|refine Vc.aq ?_)<;>(intros;(conv=>whnf)))))
   refine dt.intro (fun(i:Nat)=>[(14,.int .i64 i),(15,.int .i64 m)]) (fun i H'=>a<=i/\i<=m/\ax H H') (fun i=>m-i) a ⟨rfl,rfl,aF⟩ ⟨aB _,by omega,ax.refl _⟩ ?_;rintro i H2 ⟨A2,sj,bh⟩;by_cases ct:i<m
   .obtain⟨h,hh⟩: ∃ h,(i+m) / 2=h:=⟨_,rfl⟩;obtain⟨y,hy⟩: ∃ y,A[h]? =some y:=⟨_,aD (by omega)⟩;have qs:=Gb (hs.le (show h<=m by omega) hy hx);((conv=>whnf);repeat(any_goals((first|(refine fm.half hh (by omega) ?_)|(refine cm.file (hr.ext (k.trans bh)) hn m x rfl hx ?_;intro bo o af cf ic cU)|(refine cm.file (hr.ext (k.trans bh)) hn h y rfl hy ?_;intro Rr o' yV yW Ls qq)|((with_reducible apply aE.nr);(exact cU);(exact Vc.xt);(conv=>whnf))|((with_reducible apply aE.nr);(exact qq);(exact Vc.xt);(conv=>whnf))|(refine(FP x.1 y.1 x.2.1 y.2.1 af yV _ cf _ yW _).mono ?_;rintro _ H3 ⟨rfl,bw⟩;have eJ:=bw.size)|refine Vc.aq ?_)<;>(intros;(conv=>whnf)))))
    exact⟨h+1,⟨rfl,rfl,aF⟩,⟨by omega,by omega,bh.trans (by exact Vc.xt)⟩,by omega⟩
   .obtain rfl:i=m:=by omega
    ((conv=>whnf);repeat(any_goals((first|refine Vc.aq ?_)<;>(intros;(conv=>whnf)))))
    refine dt.intro (fun(j:Nat)=>[(17,.int .i64 i)]) (fun j H'=>H2=H') (fun j=>j) 0 ⟨rfl,aF⟩ rfl ?_;rintro _ _ rfl;((conv=>whnf);repeat(any_goals((first|refine Vc.aq ?_)<;>(intros;(conv=>whnf)))))
    exact⟨rfl,bh⟩
  obtain⟨md,Z3⟩: ∃ md,(a+b) / 2=md:=⟨_,rfl⟩;by_cases c3:md<m
  ·((conv=>whnf);repeat(any_goals((first|(refine fm.half Z3 (by omega) ?_)|refine Vc.aq ?_)<;>(intros;(conv=>whnf)))))
   refine dt.intro (fun(s:Nat)=>[(20,.int .i64 s),(21,.int .i64 md)]) (fun s H'=>md+m<=s+b/\s<=md/\ax H H') (fun s=>md-s) (md+m-b) ⟨by show Value.int _ _=Value.int _ _;congr 1;omega,rfl,aF⟩ ⟨by omega,by omega,ax.refl _⟩ ?_;rintro s H2 ⟨A2,sj,bh⟩;by_cases ct:s<md
   .obtain⟨h,hh⟩: ∃ h,(s+md) / 2=h:=⟨_,rfl⟩;obtain⟨q,hq⟩: ∃ q,md+m-1-h=q:=⟨_,rfl⟩;obtain⟨y,hy⟩: ∃ y,A[h]? =some y:=⟨_,aD (by omega)⟩;obtain⟨x,hx⟩: ∃ x,A[q]? =some x:=⟨_,aD (by omega)⟩;have qs:=Gb (hs.le (show h<=q by omega) hy hx);((conv=>whnf);repeat(any_goals((first|(refine fm.half hh (by omega) ?_)|(refine cm.file (hr.ext (k.trans bh)) hn q x (by omega) hx ?_;intro bo o af cf ic cU)|(refine cm.file (hr.ext (k.trans bh)) hn h y rfl hy ?_;intro Rr o' yV yW Ls qq)|((with_reducible apply aE.nr);(exact cU);(exact Vc.xt);(conv=>whnf))|((with_reducible apply aE.nr);(exact qq);(exact Vc.xt);(conv=>whnf))|(refine(FP x.1 y.1 x.2.1 y.2.1 af yV _ cf _ yW _).mono ?_;rintro _ H3 ⟨rfl,bw⟩;have eJ:=bw.size)|refine Vc.aq ?_)<;>(intros;(conv=>whnf)))))
    exact⟨h+1,⟨rfl,rfl,aF⟩,⟨by omega,by omega,bh.trans (by exact Vc.xt)⟩,by omega⟩
   .obtain rfl:s=md:=by omega
    have e:((s:Int)+(m:Int)-(s:Int))=(m:Int):=by omega
    ((conv=>whnf);repeat(any_goals((first|(rw[e];refine(ih s m b _ (k.trans bh) (by omega) (by omega) (by omega) h4).mono ?_;rintro _ H3 ⟨rfl,bw⟩)|refine Vc.aq ?_)<;>(intros;(conv=>whnf)))))
    exact⟨rfl,bh.trans bw⟩
  ·((conv=>whnf);repeat(any_goals((first|(refine fm.half Z3 (by omega) ?_)|refine Vc.aq ?_)<;>(intros;(conv=>whnf)))))
   refine dt.intro (fun(s:Nat)=>[(20,.int .i64 s),(21,.int .i64 m)]) (fun s H'=>a<=s/\s<=m/\ax H H') (fun s=>m-s) a ⟨rfl,rfl,aF⟩ ⟨aB _,by omega,ax.refl _⟩ ?_;rintro s H2 ⟨A2,sj,bh⟩;by_cases ct:s<m
   .obtain⟨h,hh⟩: ∃ h,(s+m) / 2=h:=⟨_,rfl⟩;obtain⟨q,hq⟩: ∃ q,md+m-1-h=q:=⟨_,rfl⟩;obtain⟨y,hy⟩: ∃ y,A[h]? =some y:=⟨_,aD (by omega)⟩;obtain⟨x,hx⟩: ∃ x,A[q]? =some x:=⟨_,aD (by omega)⟩;have qs:=Gb (hs.le (show h<=q by omega) hy hx);((conv=>whnf);repeat(any_goals((first|(refine fm.half hh (by omega) ?_)|(refine cm.file (hr.ext (k.trans bh)) hn q x (by omega) hx ?_;intro bo o af cf ic cU)|(refine cm.file (hr.ext (k.trans bh)) hn h y rfl hy ?_;intro Rr o' yV yW Ls qq)|((with_reducible apply aE.nr);(exact cU);(exact Vc.xt);(conv=>whnf))|((with_reducible apply aE.nr);(exact qq);(exact Vc.xt);(conv=>whnf))|(refine(FP x.1 y.1 x.2.1 y.2.1 af yV _ cf _ yW _).mono ?_;rintro _ H3 ⟨rfl,bw⟩;have eJ:=bw.size)|refine Vc.aq ?_)<;>(intros;(conv=>whnf)))))
    exact⟨h+1,⟨rfl,rfl,aF⟩,⟨by omega,by omega,bh.trans (by exact Vc.xt)⟩,by omega⟩
   .obtain rfl:s=m:=by omega
    by_cases c4:s<md
    ·((conv=>whnf);repeat(any_goals((first|(refine(ih a s md _ (k.trans bh) (by omega) (by omega) (by omega) (by omega)).mono ?_;rintro _ H3 ⟨rfl,bw⟩)|refine Vc.aq ?_)<;>(intros;(conv=>whnf)))))
     exact⟨rfl,bh.trans bw⟩
    ·((conv=>whnf);repeat(any_goals((first|refine Vc.aq ?_)<;>(intros;(conv=>whnf)))))
     exact⟨rfl,bh⟩
set_option maxHeartbeats 2000000 in
theorem abl (A:Tr) (hs:Aj A) (a:Option Addr) (n cap:Nat) (H:ae) (hr:j4 H a A) (hn:A.length=n) (mM:n<=1000):
  az Tryz.prog 159 [.slice a n cap,.int .i64 (n:Int),.func (.func 102) #[] #[]] H fun v H'=>v= .tuple #[]/\ax H H':=by
 refine Vc.az.body Tryz.func159 Tryz.call159 rfl (by decide+kernel) rfl ?_;((conv=>whnf);repeat(any_goals((first|refine Vc.aq ?_)<;>(intros;(conv=>whnf)))))
 refine dt.intro (fun(i:Nat)=>[(7,.int .i64 i),(8,.int .i64 (i+20:Nat))]) (fun i H'=>i<=n/\ax H H') (fun i=>n-i) 0 ⟨rfl,rfl,aF⟩ ⟨aI _,ax.refl _⟩ ?_;rintro i H1 ⟨hi,cd⟩;by_cases ct:i+20<=n
 ·((conv=>whnf);repeat(any_goals((first|(refine(SY A hs a n cap _ (hr.ext cd) hn mM i (i+20) (by omega) ct).mono ?_;rintro _ H2 ⟨rfl,bh⟩)|refine Vc.aq ?_)<;>(intros;(conv=>whnf)))))
  exact⟨i+20,⟨rfl,rfl,aF⟩,⟨ct,cd.trans bh⟩,by omega⟩
 ·((conv=>whnf);repeat(any_goals((first|(refine(SY A hs a n cap _ (hr.ext cd) hn mM i n hi (aB _)).mono ?_;rintro _ H2 ⟨rfl,bh⟩)|refine Vc.aq ?_)<;>(intros;(conv=>whnf)))))
  refine dt.intro (fun(s:Nat)=>[(6,.int .i64 s)]) (fun s H'=>20<=s/\ax H H') (fun s=>n-s) 20 ⟨rfl,aF⟩ ⟨aB _,cd.trans bh⟩ ?_;rintro s H3 ⟨aln,bw⟩;by_cases mf:s<n
  ·((conv=>whnf);repeat(any_goals((first|refine Vc.aq ?_)<;>(intros;(conv=>whnf)))))
   refine dt.intro (fun(i:Nat)=>[(7,.int .i64 i),(8,.int .i64 (i+2*s:Nat))]) (fun i H'=>i<=n/\ax H H') (fun i=>n-i) 0 ⟨rfl,by show Value.int _ _=Value.int _ _;congr 1<;>omega,aF⟩ ⟨aI _,bw⟩ ?_;rintro i H4 ⟨Y6,cH⟩;by_cases XB:i+2*s<=n
   ·((conv=>whnf);repeat(any_goals((first|(refine(UO A hs a n cap H hr hn mM (2*s) i (i+s) (i+2*s) _ cH (by omega) (by omega) (by omega) XB).mono ?_;rintro _ H5 ⟨rfl,cE⟩)|refine Vc.aq ?_)<;>(intros;(conv=>whnf)))))
    exact⟨i+2*s,⟨rfl,by show Value.int _ _=Value.int _ _;congr 1<;>omega,aF⟩,⟨XB,cH.trans cE⟩,by omega⟩
   .by_cases c5:i+s<n
    ·((conv=>whnf);repeat(any_goals((first|(refine(UO A hs a n cap H hr hn mM n i (i+s) n _ cH (by omega) (by omega) c5 (aB _)).mono ?_;rintro _ H5 ⟨rfl,cE⟩)|refine Vc.aq ?_)<;>(intros;(conv=>whnf)))))
     exact⟨s*2,⟨rfl,aF⟩,⟨by omega,cH.trans cE⟩,by omega⟩
    ·((conv=>whnf);repeat(any_goals((first|refine Vc.aq ?_)<;>(intros;(conv=>whnf)))))
     exact⟨s*2,⟨rfl,aF⟩,⟨by omega,cH⟩,by omega⟩
  ·((conv=>whnf);repeat(any_goals((first|refine Vc.aq ?_)<;>(intros;(conv=>whnf)))))
   exact⟨rfl,bw⟩
theorem acu (A:Tr) (hs:Aj A) (a:Option Addr) (n cap:Nat) (H:ae) (hr:j4 H a A) (hn:A.length=n) (mM:n<=1000):
  az Tryz.prog 101 [.slice a n cap,.func (.func 102) #[] #[]] H fun v H'=>v= .tuple #[]/\ax H H':=by
 refine Vc.az.body Tryz.func101 Tryz.call101 rfl (by decide+kernel) rfl ?_;((conv=>whnf);repeat(any_goals((first|(refine(abl A hs a n cap H hr hn mM).mono ?_;rintro _ H1 ⟨rfl,cd⟩)|refine Vc.aq ?_)<;>(intros;(conv=>whnf)))))
 exact⟨rfl,cd⟩
end Go.Proofs.YtphkaogbcfdllaaGreatDoor
namespace Go.lb
open Go.cN Go.eg Go.cM Go.Run
open Go.Vc (ck fk lf jy ka)
theorem O5: ∀ (n:ap) (a b:ap),Op.bytesLess (n++a) (n++b)=Op.bytesLess a b
 |[],a,b=>rfl
 |c::n,a,b=>by
  show Op.bytesLess (c::(n++a)) (c::(n++b))=_;simp[Op.bytesLess,O5 n a b]
theorem VT: ∀ {a b:ap} (x y:ap),a.length=b.length->Op.bytesLess a b=true->Op.bytesLess (a++x) (b++y)=true
 |[],[],x,y,_,h=>by simp[Op.bytesLess]at h
 |[],_::_,x,y,hl,_=>by simp at hl
 |_::_,[],x,y,hl,_=>by simp at hl
 |c::a,d::b,x,y,hl,h=>by
  show Op.bytesLess (c::(a++x)) (d::(b++y))=true;simp only[Op.bytesLess,dz,aK,bC,bU]at h ⊢;rcases h with h|⟨rfl,h⟩
  .exact .inl h
  .exact .inr ⟨rfl,VT x y (by simpa using hl) h⟩
theorem JJ {n:ap} {l:List ap} (h:l≠ []):n++47::glue l=glue (n::l):=(uB n h).symm
theorem afT {n:ap} (hg:jY n):jm n=[]:=by
 have:n=glue [n]:=rfl;rw[this];unfold jm;rw[tn (by intro x hx;rw[aW.1 hx];exact hg)];rfl
theorem acv {n p d:ap} (hg:jY n) (hp:jk p) (cz:p≠ []) (hd:d∈jm (n++47::p)):d=n\/ ∃ e∈jm p,d=n++47::e:=by
 obtain⟨l,rfl,hl⟩:=hp;have oG:l≠ []:=by rintro rfl;exact cz rfl
 rw[JJ oG]at hd;obtain⟨k,hk,oH,ct,rfl⟩:=(n0 (l:=n::l) (by intro x hx;rcases aM.1 hx with rfl|hx;exact hg;exact hl.good x hx)).1 hd;cases k with
 |nil=>exact absurd rfl oH
 |cons x k=>
  rw[List.cons_prefix_cons]at hk;obtain⟨rfl,hk⟩:=hk;by_cases wP:k=[]
  .subst wP;exact .inl rfl
  .refine .inr ⟨glue k,(n0 hl.good).2 ⟨k,hk,wP,by simpa using ct,rfl⟩,(JJ wP).symm⟩
structure XC (A:Tr):Prop where
 mH:dr A
 path: ∀ f∈A,f.1.length<=100/\(px f.1).length<=8
 count:A.length<=30
 size:cQ A<=50000
def ko (B:List (ap×Tr)):Tr:=B.flatMap fun x=>mu x.1 x.2
structure DQ (B:List (ap×Tr)) (N:Nat):Prop where
 good: ∀ x∈B,jY x.1/\x.1.length=N
 Z4:B.Pairwise fun x y=>Op.bytesLess x.1 y.1=true
 low: ∀ x∈B,XC x.2
theorem FZ {n:ap} {A:Tr} {f:Fi} (h:f∈mu n A):f=(n,(true,[]))\/ ∃ g∈A,f=(n++47::g.1,g.2):=by
 rcases aM.1 h with h|h
 .exact .inl h
 .obtain⟨g,hg,rfl⟩:=bH.1 h;exact .inr ⟨g,hg,rfl⟩
theorem UP {n:ap} {A:Tr} {f:Fi} (h:f∈mu n A): ∃ x,f.1=n++x:=by
 rcases FZ h with rfl|⟨g,_,rfl⟩
 .exact⟨[],by simp⟩
 .exact⟨47::g.1,rfl⟩
theorem acw {n:ap} {A:Tr} (h:Sorted A):Sorted (mu n A):=by
 refine bI.2 ⟨fun f hf=> ?_,?_⟩
 .obtain⟨g,_,rfl⟩:=bH.1 hf;have:=O5 n [] (47::g.1);rw[dD]at this;exact this
 .unfold BM;rw[gJ];refine List.Pairwise.imp (fun{a b} h=> ?_) h;rw[O5];simpa [Op.bytesLess]using h
theorem SZ {B:List (ap×Tr)} {N:Nat} (h:DQ B N):Sorted (ko B):=by
 unfold Sorted ko;rw[List.pairwise_flatMap];refine⟨fun x hx=>acw (h.low x hx).mH.sorted,List.Pairwise.imp_of_mem (fun{x y} hx hy hl a ha b hb=> ?_) h.Z4⟩;obtain⟨u,hu⟩:=UP ha;obtain⟨v,hv⟩:=UP hb;rw[hu,hv];exact VT u v (by rw[(h.good x hx).2,(h.good y hy).2]) hl
theorem afU (n:ap) (A:Tr):cQ (mu n A)=cQ A:=by
 unfold mu BM cQ;simp[gV,Function.comp_def]
theorem afV (A B:Tr):cQ (A++B)=cQ A+cQ B:=by unfold cQ;simp
theorem Om: ∀ {B:List (ap×Tr)} {N:Nat},DQ B N->cQ (ko B)<=50000*B.length/\(ko B).length<=31*B.length
 |[],N,_=>⟨by decide,by decide⟩
 |x::B,N,h=>by
  have ih:=Om (B:=B) (N:=N) ⟨fun y hy=>h.good y (by simp[hy]),(bI.1 h.Z4).2,fun y hy=>h.low y (by simp[hy])⟩;have hx:=h.low x (by simp);have e:ko (x::B)=mu x.1 x.2++ko B:=by simp[ko]
  rw[e,afV,afU,au,ay];have h1:=hx.size;have h2:=hx.count;have h3:(mu x.1 x.2).length=x.2.length+1:=by simp[mu,BM]
  omega
theorem aee {n:ap} (hg:jY n) (hn:n.length<=32):jk n:=⟨[n],rfl,by intro x hx;rw[aW.1 hx];exact hg,by simp,by show n.length<=200;omega⟩
theorem abm {n p:ap} (hg:jY n) (hn:n.length<=32) (hp:jk p) (cz:p≠ []) (h1:p.length<=100) (h2:(px p).length<=8):jk (n++47::p):=by
 obtain⟨l,rfl,hl⟩:=hp;have oG:l≠ []:=by rintro rfl;exact cz rfl
 rw[tn hl.good]at h2;refine⟨n::l,JJ oG,?_,?_,?_⟩
 .intro x hx;rcases aM.1 hx with rfl|hx;exact hg;exact hl.good x hx
 .simp;omega
 .rw[<-JJ oG];simp;omega
theorem afW {B:List (ap×Tr)} {N:Nat} (h:DQ B N) (hN:N<=32) (hB:B.length<=15):dr (ko B):=by
 have hs:=SZ h;obtain⟨hz,hc⟩:=Om h;have mem: ∀ k v,ck (ko B) k=some v-> ∃ x∈B,(k=x.1/\v=(true,[]))\/ ∃ p,ck x.2 p=some v/\k=x.1++47::p:=fun k v hk=>by
  obtain⟨x,hx,hm⟩:=iw.1 (lf hk);refine⟨x,hx,?_⟩;rcases FZ hm with e|⟨g,hg,e⟩
  .cases e;exact .inl ⟨rfl,rfl⟩
  .cases e;exact .inr ⟨g.1,jy (h.low x hx).mH.sorted.nodup hg,rfl⟩
 have name: ∀ x∈B,ck (ko B) x.1=some (true,[]):=fun x hx=>jy hs.nodup (iw.2 ⟨x,hx,by simp[mu]⟩);refine⟨hs,fun k v hk=> ?_,fun k v hk d hd=> ?_,by omega,by omega,fun k v hk=> ?_⟩
 .obtain⟨x,hx,⟨rfl,_⟩|⟨p,hp,rfl⟩⟩:=mem k v hk
  .exact⟨aee (h.good x hx).1 (by have:=(h.good x hx).2;omega),(h.good x hx).1.ne⟩
  .obtain⟨h1,h2⟩:=(h.low x hx).mH.clean p v hp;obtain⟨h3,h4⟩:=(h.low x hx).path _ (lf hp);exact⟨abm (h.good x hx).1 (by have:=(h.good x hx).2;omega) h1 h2 h3 h4,by simp⟩
 .obtain⟨x,hx,⟨rfl,_⟩|⟨p,hp,rfl⟩⟩:=mem k v hk
  .rw[afT (h.good x hx).1]at hd;cases hd
  .obtain⟨h1,h2⟩:=(h.low x hx).mH.clean p v hp;rcases acv (h.good x hx).1 h1 h2 hd with rfl|⟨e,he,rfl⟩
   .exact⟨[],name x hx⟩
   .obtain⟨t,ht⟩:=(h.low x hx).mH.above p v hp e he;exact⟨t,jy hs.nodup (iw.2 ⟨x,hx,bG _ (bH.2 ⟨(e,(true,t)),lf ht,rfl⟩)⟩)⟩
 .obtain⟨x,hx,⟨rfl,rfl⟩|⟨p,hp,rfl⟩⟩:=mem k v hk
  .exact⟨by simp,fun _=>rfl⟩
  .exact(h.low x hx).mH.file p v hp
theorem ah5 {B:List (ap×Tr)} {N:Nat} (h:DQ B N) (hN:N<=32) (hB:B.length<=15):pR (ko B)=(some (ko B),0):=Wk (afW h hN hB)
structure XD where
 n:ap
 v:ap
 got:Option (ap×Bool)
def Ak:List XD->List Fi->List Fi×(ap×Nat)
 |[],out=>(out,([],0))
 |p::ps,out=>match p.got with
  |none=>([],(p.n,76))
  |some g=>if(jN g.2 p.n p.v g.1).2≠0 then([],(p.n,(jN g.2 p.n p.v g.1).2))else Ak ps (out++(jN g.2 p.n p.v g.1).1)
theorem UQ {same:Bool} {n v b:ap} (h:(jN same n v b).2=0):(jN same n v b).1=mu n (oX n v (ej.kh b).1).2/\same=true/\(ej.kh b).2=0/\(oX n v (ej.kh b).1).1=0:=by
 unfold jN at h ⊢;split at h
 .cases h
 rename_i h1;split at h
 .rename_i h2;exact absurd h h2
 rename_i h2;split at h
 .rename_i h3;exact absurd h h3
 rename_i h3;rw[ak h1,ak h2,ak h3];exact⟨rfl,by simpa using h1,by simpa using h2,by simpa using h3⟩
theorem UR {same:Bool} {n v b:ap} (h:(jN same n v b).2≠0):(jN same n v b).1=[]:=by
 unfold jN at h ⊢;split
 .rfl
 rename_i h1;rw[ak h1]at h;split
 .rfl
 rename_i h2;rw[ak h2]at h;split
 .rfl
 rename_i h3;rw[ak h3]at h;exact absurd rfl h
theorem aaJ {same:Bool} {n v b:ap}: ∀ f∈(jN same n v b).1,eL f.1 n=true:=by
 intro f hf;by_cases h:(jN same n v b).2=0
 .rw[(UQ h).1]at hf;rcases FZ hf with rfl|⟨g,_,rfl⟩
  .simp[eL]
  .unfold eL;have:(n++[47]).isPrefixOf (n++47::g.1)=true:=by
    rw[dH];exact⟨g.1,by simp⟩
   rw[this];simp
 .rw[UR h]at hf;cases hf
theorem Kh (f:Fi):(ej.lM f).length<=11+f.1.length+f.2.2.length:=by
 unfold ej.lM;split<;>simp[ej.lg]<;>omega
theorem US: ∀ (L:Tr) (N:Nat),(∀ f∈L,f.1.length<=N)->(L.flatMap ej.lM).length<=(11+N)*L.length+cQ L
 |[],N,_=>by simp[cQ]
 |f::L,N,h=>by
  have ih:=US L N fun g hg=>h g (by simp[hg]);have h1:=Kh f;have h2:=h f (by simp);have e:cQ (f::L)=f.2.2.length+cQ L:=by unfold cQ;simp
  rw[eG,au,ay,Nat.mul_succ,e];omega
theorem Kc (L:Tr) (N:Nat) (h: ∀ f∈L,f.1.length<=N):(ej.jv L).length<=(11+N)*L.length+cQ L+5:=by
 have:=US L N h;rw[ej.Ka];simp only[au,ay,cu];omega
theorem afX {B:List (ap×Tr)} {N:Nat} (h:DQ B N) (hN:N<=32) (hB:B.length<=15):(ej.jv (ko B)).length<=1048320:=by
 obtain⟨hz,hc⟩:=Om h;have hp: ∀ f∈ko B,f.1.length<=200:=fun f hf=>by
  obtain⟨x,hx,hm⟩:=iw.1 hf;have hn:=(h.good x hx).2;rcases FZ hm with rfl|⟨g,hg,rfl⟩
  .show x.1.length<=200;omega
  .have:=((h.low x hx).path g hg).1;simp;omega
 have:=Kc _ 200 hp;have h2:(11+200)*(ko B).length<=211*(31*B.length):=fC _ hc;omega
end Go.lb
namespace Go.Proofs.YtphkaogbcfdllaaGreatDoor
open Go Go.Vc Go.cN Go.eg Go.cM Go.lb Go.ej
set_option maxHeartbeats 1000000 in
theorem acx (A:Tr) (a:Option Addr) (n cap:Nat) (H:ae) (hr:j4 H a A) (hn:A.length=n) (mM:n<=600) (hb: ∀ f∈A,f.2.2.length<=1000000) (iM:pR A=(some A,0)) (hp:(jv A).length<=1048320):
  az Tryz.prog 103 [.slice a n cap] H fun v H'=>v= .bool true/\ax H H':=by
 have GR:=fun H' (k:ax H H')=>OZ A a n cap H' (hr.ext k) hn (by omega) (fun f hf=>by have:=hb f hf;omega);rw[iM]at GR;refine Vc.az.body Tryz.func103 Tryz.call103 rfl (by decide+kernel) rfl ?_;((conv=>whnf);repeat(any_goals((first|(refine(GR _ (by exact Vc.xt)).mono ?_;rintro _ H1 ⟨⟨b,mb,rfl,_⟩,cd⟩;have eR:=cd.size)|(refine(ae9 A a n cap _ (hr.ext cd) hn mM hb).mono ?_;rintro _ H2 ⟨⟨a2,c2,rfl,dy⟩,bh⟩)|refine Vc.aq ?_)<;>(intros;(conv=>whnf)))))
 exact⟨by show Value.bool _=_;rw[bB (by omega)],cd.trans bh⟩
end Go.Proofs.YtphkaogbcfdllaaGreatDoor
