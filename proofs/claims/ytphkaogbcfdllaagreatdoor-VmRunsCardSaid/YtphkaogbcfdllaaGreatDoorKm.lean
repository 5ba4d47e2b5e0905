import Derived.Test.YtphkaogbcfdllaaGreatDoorKk
import Derived.Test.YtphkaogbcfdllaaGreatDoorKl
import Derived.ChangeMaps5
import Derived.Test.YtphkaogbcfdllaaGreatDoorTie
import Derived.Test.YtphkaogbcfdllaaGreatDoorCards
import Derived.ProofKit
import Derived.OpenShut
import Derived.LaidMore
import Derived.LaidHandle
import Derived.Lay
import Derived.Lib.LaidTab
import Derived.Stop.LaidErr
import Derived.SevenTiedAt
import Derived.Stop.Joined
set_option linter.unusedVariables false
set_option linter.unusedSimpArgs false
set_option maxRecDepth 100000
/- What this claim needs of the texts beside what the bundles hold. -/
namespace Go.Run
open Go.Scr Go.Pth Go.Tre Go.Blk
open Go.Vc (mget mput mget_put)
theorem run_spent (L:List Ln): ∀ (f u:Nat) (s:St),(runP L f u s).1.2=73→(runP L f u s).1.1=u+f
 |0,u,s,h=>by
  rw[runP]
  split<;>rfl
 |f+1,u,s,h=>by
  cases hx:L[s.at_]? with
  |none=>rw[runP,hx]at h;cases h
  |some x=>
   rw[runP_step hx]at h ⊢
   split at h
   ·rename_i h0
    rw[if_pos h0]
    have:=run_spent L f (u+1) _ h;omega
   ·have:=step_code (kindsL L) x s
    dsimp only at h;omega
theorem run_more (L:List Ln): ∀ (f g u:Nat) (s:St),f≤g→(runP L f u s).1.2≠73→runP L g u s=runP L f u s
 |0,g,u,s,hg,h=>by
  rw[runP]at h
  split at h
  ·exact absurd rfl h
  ·rename_i hlt
   rw[runP_end (by omega),runP_end (by omega)]
 |f+1,0,u,s,hg,h=>by omega
 |f+1,g+1,u,s,hg,h=>by
  cases hx:L[s.at_]? with
  |none=>rw[runP,hx,runP,hx]
  |some x=>
   rw[runP_step hx]at h ⊢
   rw[runP_step hx]
   split
   ·rename_i h0
    rw[if_pos h0]at h
    exact run_more L f g (u+1) _ (by omega) h
   ·rfl
theorem run_less (L:List Ln): ∀ (f g u:Nat) (s:St),u+g<(runP L f u s).1.1→(runP L g u s).1=(u+g,73)
 |0,g,u,s,h=>by have:=run_le L 0 u s;omega
 |f+1,0,u,s,h=>by
  cases hx:L[s.at_]? with
  |none=>rw[runP,hx]at h;dsimp only at h;omega
  |some x=>rw[runP_out (List.getElem?_eq_some_iff.1 hx).1];rfl
 |f+1,g+1,u,s,h=>by
  cases hx:L[s.at_]? with
  |none=>rw[runP,hx]at h;dsimp only at h;omega
  |some x=>
   rw[runP_step hx]at h ⊢
   split
   ·rename_i h0
    rw[if_pos h0]at h
    have:=run_less L f g (u+1) (stepP (kindsL L) x s).1 (by omega)
    rw[this,show u+1+g=u+(g+1)by omega]
   ·rename_i h0
    rw[if_neg h0]at h
    dsimp only at h;omega
end Go.Run
namespace Go.Proofs.YtphkaogbcfdllaaGreatDoor
open Go Go.Vc Go.Scr Go.Pth Go.Tre Go.Blk Go.Run
structure RunE (H H':Heap) (L:List Ln) (F:Nat) (A:Tr) (b mb:Nat) (v:Value):Prop where
 out: ∃ er,v= .tuple #[.int .i64 (runP L F 0 ⟨0,A,none,[]⟩).1.1,.int .i64 (runP L F 0 ⟨0,A,none,[]⟩).2.at_,er]∧EndV H' (runP L F 0 ⟨0,A,none,[]⟩).1.2 (runP L F 0 ⟨0,A,none,[]⟩).2.at_ er∧TreeO no H' b mb (runP L F 0 ⟨0,A,none,[]⟩).2.A∧ButT b mb H H'
theorem run_nil {H:Heap} {al:Option Addr} {cl n b mb:Nat} {A:Tr} {L:List Ln} (hr:Row H al (lnsV L)) (hl:L.length=n) (hn:n≤1000000) (hne:Nested (kindsL L)) (hlens: ∀ x∈L,x.a.length≤1000000∧x.b.length≤1000000∧x.tx.length≤1000000∧x.n≤1000000)
  (ht:TreeO no H b mb A) (hA:Okay A) (hg:Glb H) (hlow:2≤b∧2≤mb) (hH:2≤H.size) (fuel:Int) (F:Nat) (hF:min (max fuel 0) 65536=(F:Int)):
  CallH Tryz.prog 18 [.slice al n cl,.pointer (some ⟨b,0,none⟩),.map none,.int .i64 fuel] H fun v H'=>RunE H H' L F A b mb v:=by
 refine(run_any (cl:=cl) (vm:=none) (V:=none) hr hl hn hne hlens ht trivial hA (fun v hv=>by cases hv) hg ⟨hlow.1,hlow.2,fun v hv=>by cases hv⟩ hH fuel F hF).mono ?_
 rintro v H' ⟨er,rfl,her,ht',_,ho⟩
 exact⟨er,rfl,her,ht',ho.mono fun x e=>by
  rcases e with e|e|e
  ·exact .inl e
  ·exact .inr e
  ·cases e⟩
theorem run_ends {L:List Ln} {F:Nat} {A:Tr} (hne:Nested (kindsL L)):(runP L F 0 ⟨0,A,none,[]⟩).2.at_≤L.length∧(runP L F 0 ⟨0,A,none,[]⟩).1.2≤73:=by
 have key: ∀ (f u:Nat) (s:St),s.at_≤L.length→(∀ p∈s.S,p.1<L.length)→(runP L f u s).2.at_≤L.length∧(runP L f u s).1.2≤73:=by
  intro f
  induction f with
  |zero=>
   intro u s h1 h2
   rw[runP]
   split
   ·exact⟨h1,Nat.le_refl _⟩
   ·exact⟨h1,Nat.zero_le _⟩
  |succ f ih=>
   intro u s h1 h2
   rw[runP]
   split
   ·exact⟨h1,Nat.zero_le _⟩
   ·rename_i x hx
    split
    ·obtain⟨g1,g2⟩:=step_at hne hx h2
     exact ih _ _ g1 g2
    ·exact⟨h1,Nat.le_succ_of_le (step_code _ _ _)⟩
 exact key F 0 _ (Nat.zero_le _) fun p hp=>by cases hp
set_option maxHeartbeats 4000000 in
theorem fuel_any {H:Heap} (hg:Glb H) (hH:2≤H.size) (s:Bs) (hsl:s.length≤9223372036854775807) (FL:Tr) (fa:Option Addr) (nf cf:Nat) (hrf:RowF H fa FL) (hnf:FL.length=nf) (less:Nat) (hless:less<65536):
  CallH Tryz.prog 7 [.string (mkS s),.slice fa nf cf,.int .u16 less] H fun v H'=>v= .bool true∧Ext H H':=by
 have hlc:=fun H1 (k:Ext H H1)=>light18_any s FL fa nf cf H1 (hrf.ext k) hnf hsl
 refine Vc.CallH.body Tryz.func7 Tryz.call7 rfl (by decide+kernel) rfl ?_
 cases hli:(decide (s.length<2000)&&lightF FL)with
 |false=>
  rw[hli]at hlc
  ((conv=>whnf);repeat(any_goals((first|(refine(known18_any hg hH).mono ?_;rintro _ H1 ⟨rfl,hx1⟩;have hz1:=hx1.size)|(refine(hlc _ (by exact Vc.xt)).mono ?_;rintro _ _ ⟨rfl,rfl⟩)|refine Vc.stp ?_)<;>(intros;(conv=>whnf)))))
  exact⟨rfl,hx1⟩
 |true=>
  rw[hli]at hlc
  obtain⟨hs2,hlf⟩:s.length<2000∧lightF FL=true:=by simpa using hli
  obtain⟨h20,hfl⟩:=(light_iff FL).1 hlf
  have hpr:=fun H=>rparse_any s (by omega) H
  rcases hP:parseF s with ⟨_|L,i⟩
  ·rw[hP]at hpr
   ((conv=>whnf);repeat(any_goals((first|(refine(known18_any hg hH).mono ?_;rintro _ H1 ⟨rfl,hx1⟩;have hz1:=hx1.size)|(refine(hlc _ (by exact Vc.xt)).mono ?_;rintro _ _ ⟨rfl,rfl⟩)|(refine(hpr _).mono ?_;rintro _ H2 ⟨rfl,hx2⟩;have hz2:=hx2.size)|refine Vc.stp ?_)<;>(intros;(conv=>whnf)))))
   exact⟨rfl,hx1.trans hx2⟩
  rw[hP]at hpr
  obtain⟨hlens,h200⟩:=parse_len hP
  have hne:Nested (kindsL L):=nested_of hP
  have hlens2: ∀ x∈L,x.a.length≤1000000∧x.b.length≤1000000∧x.tx.length≤1000000∧x.n≤1000000:=fun x hx=>by
   have:=hlens x hx
   exact⟨by have:=this.a;omega,by have:=this.b;omega,by have:=this.tx;omega,by have:=this.n;omega⟩
  ((conv=>whnf);repeat(any_goals((first|(refine(known18_any hg hH).mono ?_;rintro _ H1 ⟨rfl,hx1⟩;have hz1:=hx1.size)|(refine(hlc _ (by exact Vc.xt)).mono ?_;rintro _ _ ⟨rfl,rfl⟩)|(refine(hpr _).mono ?_;rintro _ H2 ⟨⟨a2,c2,rfl,ho2⟩,hx2⟩;have hz2:=hx2.size;have hr2:=ho2.row)|(refine(small18_any (hr2.ext (by exact Vc.xt)) rfl (by omega) (fun x hx=>⟨(hlens2 x hx).1,(hlens2 x hx).2.1,(hlens2 x hx).2.2.1⟩)).mono ?_;rintro _ _ ⟨⟨B,rfl,hB⟩,rfl⟩)|refine Vc.stp ?_)<;>(intros;(conv=>whnf)))))
  cases B with
  |false=>
   ((conv=>whnf);repeat(any_goals((first|refine Vc.stp ?_)<;>(intros;(conv=>whnf)))))
   exact⟨rfl,hx1.trans hx2⟩
  |true=>
  have hA:=treesF_okay FL
  have htr:=fun H' (k:Ext H H')=>trees18_any FL fa nf cf H' (hrf.ext k) hnf (by omega) (fun f hf=>by have:=hfl f hf;omega)
  ((conv=>whnf);repeat(any_goals((first|(have:=ht4;refine(htr _ (by exact Vc.xt)).mono ?_;rintro _ H5 ⟨⟨b5,m5,w5,rfl,ht5,_,hb5,hm5,_⟩,hx5⟩;have hz5:=hx5.size)|(have:=ht3;refine(htr _ (by exact Vc.xt)).mono ?_;rintro _ H4 ⟨⟨b4,m4,w4,rfl,ht4,_,hb4,hm4,_⟩,hx4⟩;have hz4:=hx4.size)|(refine(htr _ (by exact Vc.xt)).mono ?_;rintro _ H3 ⟨⟨b3,m3,w3,rfl,ht3,_,hb3,hm3,_⟩,hx3⟩;have hz3:=hx3.size)|refine Vc.stp ?_)<;>(intros;(conv=>whnf)))))
  have hx25:Ext H2 H5:=hx3.trans (hx4.trans hx5)
  have hx05:Ext H H5:=hx1.trans (hx2.trans hx25)
  have hbl:=fun p hp=>(ho2.block p hp).2
  have l3:=ht3.blk.lt
  have l3':=ht3.map.lt
  have l4:=ht4.blk.lt
  have l4':=ht4.map.lt
  have hr5:=hr2.ext hx25
  refine(run_nil (cl:=c2) hr5 rfl (by omega) hne hlens2 (ht3.ext (hx4.trans hx5)) hA (hg.ext hx05) ⟨by omega,by omega⟩ (by omega) 3000 3000 rfl).mono ?_
  rintro _ H6 hE1
  obtain⟨er1,rfl,hend1,ht6,ho6⟩:=hE1.out
  have hz6:=ho6.size
  have hx06:Ext H H6:=ext_tt hx05 ho6 (by omega) (by omega)
  have hu6:=(ht4.ext hx5).other (ht3.ext (hx4.trans hx5)) (by omega) (by omega) ho6
  have hv6:=ht5.other (ht3.ext (hx4.trans hx5)) (by omega) (by omega) ho6
  have hr6:Row H6 a2 (lnsV L):=hr5.keep ho6 fun p hp e=>by
   have:=hbl p hp
   rcases e with e|e<;>omega
  clear hE1
  ((conv=>whnf);repeat(any_goals((first|refine Vc.stp ?_)<;>(intros;(conv=>whnf)))))
  refine(run_nil (cl:=c2) hr6 rfl (by omega) hne hlens2 hu6 hA (hg.ext hx06) ⟨by omega,by omega⟩ (by omega) 6000 6000 rfl).mono ?_
  rintro _ H7 hE2
  obtain⟨er2,rfl,hend2,hu7,ho7⟩:=hE2.out
  have hz7:=ho7.size
  have hx07:Ext H H7:=ext_tt hx06 ho7 (by omega) (by omega)
  have hend1:=hend1.keep ho7 (tree_nofault hu6)
  have ht7:=ht6.other hu6 (by omega) (by omega) ho7
  have hv7:=hv6.other hu6 (by omega) (by omega) ho7
  have hr7:Row H7 a2 (lnsV L):=hr6.keep ho7 fun p hp e=>by
   have:=hbl p hp
   rcases e with e|e<;>omega
  clear hE2 ht6 hu6 hv6 hr6 hr5 ht3 ht4 ht5 hr2 ho2 ho6 ho7
  obtain⟨n1,n2⟩:=run_ends (F:=3000) (A:=treesF FL) hne
  obtain⟨n3,n4⟩:=run_ends (F:=6000) (A:=treesF FL) hne
  have f1:=(run_le L 3000 0 ⟨0,treesF FL,none,[]⟩).2
  have f2:=(run_le L 6000 0 ⟨0,treesF FL,none,[]⟩).2
  have okR:=run_okay L 3000 0 ⟨0,treesF FL,none,[]⟩ hA
  by_cases h73:(runP L 3000 0 ⟨0,treesF FL,none,[]⟩).1.2=73
  ·have hsp:=run_spent L 3000 0 ⟨0,treesF FL,none,[]⟩ h73
   generalize runP L 3000 0 ⟨0,treesF FL,none,[]⟩=R at*
   generalize runP L 6000 0 ⟨0,treesF FL,none,[]⟩=R' at*
   ((conv=>whnf);repeat(any_goals((first|(refine(code_end (hg.ext hx07) hend1 (by omega) (by omega)).mono ?_;rintro _ H8 ⟨rfl,hx8⟩;have hz8:=hx8.size;rw[h73])|refine Vc.stp ?_)<;>(intros;(conv=>whnf)))))
   rw[hsp]
   exact⟨rfl,hx07.trans hx8⟩
  ·have hmore:=run_more L 3000 6000 0 ⟨0,treesF FL,none,[]⟩ (by omega) h73
   rw[hmore]at hend2 hu7 f2 n3 n4 ⊢
   have hless2:=run_less L 3000 (less % (runP L 3000 0 ⟨0,treesF FL,none,[]⟩).1.1) 0 ⟨0,treesF FL,none,[]⟩
   generalize runP L 3000 0 ⟨0,treesF FL,none,[]⟩=R at*
   have okc:=okR.count
   have okf: ∀ k n,mget R.2.A k=some n→n.2.length≤1000000000:=fun k n h=>Nat.le_trans (okR.file k n h).1 (by decide)
   by_cases h0:R.1.1=0
   ·((conv=>whnf);repeat(any_goals((first|(refine(code_end (hg.ext (hx07.trans (by exact Vc.xt))) (hend1.ext (by exact Vc.xt)) (by omega) (by omega)).mono ?_;rintro _ H8 ⟨rfl,hx8⟩;have hz8:=hx8.size)|(refine(code_end (hg.ext (hx07.trans (by exact Vc.xt))) (hend2.ext (by exact Vc.xt)) (by omega) (by omega)).mono ?_;rintro _ H8 ⟨rfl,hx8⟩;have hz8:=hx8.size)|(refine(files_any (ht7.ext (by exact Vc.xt)) okR.sorted (by omega) okf).mono ?_;rintro _ H9 ⟨⟨a9,c9,rfl,hc9,hr9,_⟩,hx9⟩;have hz9:=hx9.size)|(refine(files_any (hu7.ext (by exact Vc.xt)) okR.sorted (by omega) okf).mono ?_;rintro _ H10 ⟨⟨a10,c10,rfl,hc10,hr10,_⟩,hx10⟩;have hz10:=hx10.size)|(refine(hfiles_any R.2.A R.2.A a9 a10 _ _ c9 c10 _ (hr9.ext (by exact Vc.xt)) hr10 rfl rfl (by omega) (by omega)).mono ?_;rintro _ _ ⟨rfl,rfl⟩;rw[decide_eq_true rfl])|refine Vc.stp ?_)<;>(intros;(conv=>whnf)))))
    exact⟨rfl,hx07.trans (by exact Vc.xt)⟩
   ·((conv=>whnf);repeat(any_goals((first|(refine(code_end (hg.ext (hx07.trans (by exact Vc.xt))) (hend1.ext (by exact Vc.xt)) (by omega) (by omega)).mono ?_;rintro _ H8 ⟨rfl,hx8⟩;have hz8:=hx8.size)|(refine(code_end (hg.ext (hx07.trans (by exact Vc.xt))) (hend2.ext (by exact Vc.xt)) (by omega) (by omega)).mono ?_;rintro _ H8 ⟨rfl,hx8⟩;have hz8:=hx8.size)|(refine(files_any (ht7.ext (by exact Vc.xt)) okR.sorted (by omega) okf).mono ?_;rintro _ H9 ⟨⟨a9,c9,rfl,hc9,hr9,_⟩,hx9⟩;have hz9:=hx9.size)|(refine(files_any (hu7.ext (by exact Vc.xt)) okR.sorted (by omega) okf).mono ?_;rintro _ H10 ⟨⟨a10,c10,rfl,hc10,hr10,_⟩,hx10⟩;have hz10:=hx10.size)|(refine(hfiles_any R.2.A R.2.A a9 a10 _ _ c9 c10 _ (hr9.ext (by exact Vc.xt)) hr10 rfl rfl (by omega) (by omega)).mono ?_;rintro _ _ ⟨rfl,rfl⟩;rw[decide_eq_true rfl])|(refine RemH.pos (by omega) ?_)|refine Vc.stp ?_)<;>(intros;(conv=>whnf)))))
    have hm:((less:Int) % (R.1.1:Int))=((less % R.1.1:Nat):Int):=by simp
    have hlt:less % R.1.1<R.1.1:=Nat.mod_lt _ (by omega)
    have hless3:=hless2 (by omega)
    have x7:Ext H7 H10:=(by exact Vc.xt)
    have x07:Ext H H10:=hx07.trans x7
    have hz10':=x07.size
    refine(run_nil (cl:=c2) (hr7.ext x7) rfl (by omega) hne hlens2 (hv7.ext x7) hA (hg.ext x07) ⟨by omega,by omega⟩ (by omega) ((less:Int) % (R.1.1:Int)) (less % R.1.1) (by rw[hm];omega)).mono ?_
    rintro _ H11 hE3
    obtain⟨er3,rfl,hend3,hv11,ho11⟩:=hE3.out
    obtain⟨n5,n6⟩:=run_ends (F:=less % R.1.1) (A:=treesF FL) hne
    have hx11:Ext H H11:=ext_tt x07 ho11 (by omega) (by omega)
    rw[hless3]at hend3 n6 ⊢
    dsimp only at hend3 n6 ⊢
    have hz11:=hx11.size
    have hm2:(((0+less % R.1.1:Nat):Int)==(less:Int) % (R.1.1:Int))=true:=by rw[hm,Nat.zero_add,beq_iff_eq]
    ((conv=>whnf);repeat(any_goals((first|(refine(code_end (hg.ext hx11) hend3 (by omega) (by omega)).mono ?_;rintro _ H12 ⟨rfl,hx12⟩;have hz12:=hx12.size)|(refine RemH.pos (by omega) ?_)|refine Vc.stp ?_)<;>(intros;(conv=>whnf)))))
    exact⟨rfl,hx11.trans hx12⟩
end Go.Proofs.YtphkaogbcfdllaaGreatDoor
namespace Go.Vc
open Go.ChangeShapes Go.WideShapes Go.RowKit
section
variable {H:Type} {enc:TypeId×Value→H} {P:Program} {w:World} {base:Nat} {spare:Nat→Bool} {held:Bool}
theorem arg_slice {P:Program} {w:World} {r:Reach} {b0:Nat} {t e:TypeId} {v a:Value} (ht:P.underlying t=some (.slice e)) (hval:Value.okWide P w r b0 t v) (h:v.cells.toList=[a]):v=a:=by
 obtain⟨p,n,c,rfl⟩:=okWide_slice ht hval
 simpa [Value.cells]using h
theorem trodAll_five {t t' t'' t3 t4:TypeId} {args:Array Value} {ds:List (DataW H)} {ps:List MemPlace} (h:DataW.TrodAll enc P w base spare held [t,t',t'',t3,t4] args.toList ds ps):
  ∃ v v' v'' v3 v4 d d' d'' d3 d4 p p' p'' p3 p4,args= #[v,v',v'',v3,v4]∧ds=[d,d',d'',d3,d4]∧ps=p++(p'++(p''++(p3++(p4++[]))))∧DataW.Trod enc P w base spare held t v d p∧DataW.Trod enc P w base spare held t' v' d' p'∧DataW.Trod enc P w base spare held t'' v'' d'' p''∧DataW.Trod enc P w base spare held t3 v3 d3 p3∧DataW.Trod enc P w base spare held t4 v4 d4 p4:=by
 obtain⟨v,vs,d,ds',p,q,hargs,rfl,rfl,hd,hrest⟩:=trodAll_cons h
 obtain⟨v',vs',d',ds'',p',q',rfl,rfl,rfl,hd',hrest'⟩:=trodAll_cons hrest
 obtain⟨v'',vs'',d'',ds''',p'',q'',rfl,rfl,rfl,hd'',hrest''⟩:=trodAll_cons hrest'
 obtain⟨v3,vs3,d3,ds3,p3,q3,rfl,rfl,rfl,hd3,hrest3⟩:=trodAll_cons hrest''
 obtain⟨v4,vs4,d4,ds4,p4,q4,rfl,rfl,rfl,hd4,hrest4⟩:=trodAll_cons hrest3
 obtain⟨rfl,rfl,rfl⟩:=trodAll_nil hrest4
 exact⟨v,v',v'',v3,v4,d,d',d'',d3,d4,p,p',p'',p3,p4,by cases args;simp_all,rfl,rfl,hd,hd',hd'',hd3,hd4⟩
end
end Go.Vc
namespace Go.Proofs.YtphkaogbcfdllaaGreatDoor
open Go Go.Vc Go.ChangeShapes Go.WideShapes Go.ChangeAt Go.RowKit
theorem laid_out:laidOutB Tryz.prog=true:=by kernel_rfl
noncomputable def world0 (os:Os):World:=
 let w0:=World.holding Tryz.prog os ⟨#[],#[],[]⟩
 {w0 with heap:=w0.heap.modify 0 fun
   | .cells _ t frozen=> .cells #[.iface 318 (.agg #[.pointer (some ⟨7,30,none⟩)])] t frozen
   |o=>o}
noncomputable def witW (os:Os):World:=(world0 os).layVars Tryz.prog laidD
theorem witW_os (os:Os):(witW os).os=os:=World.layVars_os _ _ _
theorem witW_met (os:Os) (args:Array Value):laidMetH Tryz.prog laidF ((witW os).forCall (fun _ _=>0) ⟨#[],args,[]⟩).memory:=by
 refine laidMetH_of_parts ?_ (by kernel_rfl)
 have e1:(laidD.filter fun x=>(laidD.map (·.1)).contains x.1)=laidD:=List.filter_eq_self.2 fun x hx=>List.contains_iff_mem.2 (List.mem_map.2 ⟨x,hx,rfl⟩)
 have e2:(laidD.filter fun x=> !(laidD.map (·.1)).contains x.1)=[]:=List.filter_eq_nil_iff.2 fun x hx=>by rw[List.contains_iff_mem.2 (List.mem_map.2 ⟨x,hx,rfl⟩)];simp
 have h:laidMet Tryz.prog laidD (witW os):=laidMet_layVars (w0:=world0 os) (laidD.map (·.1)) [] (by rw[e1];rfl) (by rw[e1];kernel_rfl) (by rw[e1];kernel_rfl) (by rw[e2];exact LaidIn.none)
 exact h.of_heap (by simp[World.memory,World.forCall,Input.heap])
end Go.Proofs.YtphkaogbcfdllaaGreatDoor
