import Derived.Test.YtjdieklgoepdjaaGreatDoorKd
import Derived.Test.YtjdieklgoepdjaaGreatDoorKe
set_option linter.unusedVariables false
set_option linter.unusedSimpArgs false
set_option maxRecDepth 100000
/- Spans, the reference: a word's bounds; a span read. -/
namespace Go.Slv
open Go.Scr
def sgnB (c:UInt8):Bool:=decide (c.toNat=61) || decide (c.toNat=60) || decide (c.toNat=62) || decide (c.toNat=94) || decide (c.toNat=126)
def signF (w:Txt):Txt:=if w.take 2=[60,61]∨w.take 2=[62,61]then w.take 2 else match w with
 |[]=>[]
 |c::_=>if sgnB c=true then [c]else []
def hatP (v:VerP):Nat:=if 0<v.ma then 0 else if 0<v.mi then 1 else 2
def signedF (s:Txt) (v:VerP):List BndP:=
 if s=[]then [⟨[61],v⟩]else if s=[94]then [⟨[62,61],v⟩,⟨[60],nextV v (hatP v)⟩]else if s=[126]then [⟨[62,61],v⟩,⟨[60],nextV v 1⟩]else [⟨s,v⟩]
def boundsF (w:Txt):Option (List BndP):=match verF (w.drop (signF w).length)with
 |none=>none
 |some v=>some (signedF (signF w) v)
def orF:Txt→Txt→List Txt
 |cur,[]=>[cur]
 |cur,[c]=>[cur++[c]]
 |cur,c::d::t=>if c.toNat=124∧d.toNat=124 then cur::orF [] t else orF (cur++[c]) (d::t)
def allB:List BndP→List Txt→Option (List BndP)
 |acc,[]=>some acc
 |acc,w::l=>match boundsF w with
  |none=>none
  |some b=>allB (acc++b) l
def orsF:List (List BndP)→List Txt→Option (List (List BndP))
 |acc,[]=>some acc
 |acc,s::l=>if 1≤(wordsP s).length∧(wordsP s).length≤8 then match allB [] (wordsP s)with
   |none=>none
   |some b=>orsF (acc++[b]) l
  else none
def spanF (s:Txt):Option SpnP:=if wordsP s=[[42]]then some ⟨true,[]⟩else if(orF [] s).length≤8 then match orsF [] (orF [] s)with
  |none=>none
  |some o=>some ⟨false,o⟩
 else none
theorem signF_le (w:Txt):(signF w).length≤w.length∧(signF w).length≤2:=by
 unfold signF
 split
 ·simp only[List.length_take];omega
 ·split
  ·simp
  ·split<;>simp
theorem numF_le {most:Nat} {s:Txt} {n:Nat} (h:numF most s=some n):n≤most:=by
 unfold numF at h
 split at h
 ·rename_i h1
  injection h with h
  rw[←h];exact h1.2.2.2
 ·cases h
theorem markP_len {s:Txt} (h:markP s=true):s.length≤16:=by
 unfold markP at h
 simp only[Bool.and_eq_true,decide_eq_true_eq]at h
 exact h.1.1.2
structure VerS (v:VerP):Prop where
 ma:v.ma≤999999999
 mi:v.mi≤999999999
 pa:v.pa≤999999999
 len:v.pre.length≤5
 pre: ∀ m∈v.pre,m.length≤16
theorem coreF_small {core:Txt} {pre:List Txt} (hl:pre.length≤5) (hp: ∀ m∈pre,m.length≤16) {v:VerP} (h:coreF core pre=some v):VerS v:=by
 unfold coreF at h
 split at h
 ·rename_i a b c _
  split at h
  ·rename_i x y z h1 h2 h3
   cases h
   exact⟨numF_le h1,numF_le h2,numF_le h3,hl,hp⟩
  ·cases h
 ·cases h
theorem verF_small {s:Txt} {v:VerP} (h:verF s=some v):VerS v:=by
 unfold verF at h
 split at h
 ·exact coreF_small (Nat.zero_le _) (fun m hm=>by cases hm) h
 ·split at h
  ·rename_i h1
   refine coreF_small h1.1 (fun m hm=> ?_) h
   exact markP_len (List.all_eq_true.1 h1.2 m hm)
  ·cases h
end Go.Slv
namespace Go.Proofs.YtjdieklgoepdjaaGreatDoor
open Go Go.Vc Go.Scr Go.Slv
theorem verS_b {v:VerP} (h:VerS v):VerB v:=⟨by have:=h.ma;omega,by have:=h.mi;omega,by have:=h.pa;omega,by have:=h.len;omega,fun m hm=>by have:=h.pre m hm;omega⟩
def BdsR (H':Heap) (B:Nat) (x:Value):Option (List BndP)→Prop
 |some l=>∃ a cap,x= .tuple #[.slice a l.length cap,.bool true]∧OwnE bndT 5 H' B 171 a l cap
 |none=>x= .tuple #[.slice none 0 0,.bool false]
theorem bnd_lst1 {H:Heap} {s:Bs} {v:VerP} {a:Option Addr} {cap:Nat} (hc:v.pre.length≤cap) (hr:RowT 9 H a (strs v.pre)):LstV bndT H [⟨s,v⟩] [.string (mkS s),.int .i64 v.ma,.int .i64 v.mi,.int .i64 v.pa,.slice a v.pre.length cap]:= .one ⟨a,cap,rfl,hc,hr⟩
theorem nextV_pre (v:VerP) (p:Nat):(nextV v p).pre=[]:=by unfold nextV;(repeat' split)<;>rfl
theorem bnd_lst2 {H:Heap} {s s':Bs} {v:VerP} {p:Nat} {a:Option Addr} {cap:Nat} (hc:v.pre.length≤cap) (hr:RowT 9 H a (strs v.pre)):LstV bndT H [⟨s,v⟩,⟨s',nextV v p⟩] ([.string (mkS s),.int .i64 v.ma,.int .i64 v.mi,.int .i64 v.pa,.slice a v.pre.length cap]++[.string (mkS s'),.int .i64 (nextV v p).ma,.int .i64 (nextV v p).mi,.int .i64 (nextV v p).pa,.slice none (nextV v p).pre.length 0]):=
 .cons ⟨a,cap,rfl,hc,hr⟩ (.one ⟨none,0,rfl,by dsimp only;rw[nextV_pre];exact Nat.zero_le _,by dsimp only;rw[nextV_pre];exact RowT.nil _ _ _⟩)
theorem bndB {K:Value→Prop} {o1 o2:Operand} {s:ByteArray} {x y z w:Value} (h:K (.agg #[.string s,x,y,z,w])):PureH Tryz.prog (Instr.build 171 ((List.map (fun x:Nat×Operand=>x.1) (#[(0,o1),(1,o2)]:Array (Nat×Operand)).toList).zip [.string s,.agg #[x,y,z,w]]).toArray) K:=PureH.build _ (by kernel_rfl) h
set_option maxHeartbeats 4000000 in
theorem rbounds_any (w:Bs) (hw:w≠ []) (hl:w.length≤100000000) (H:Heap):CallH Tryz.prog 94 [.string (mkS w)] H fun x H'=>BdsR H' H.size x (boundsF w)∧Ext H H':=by
 obtain⟨c,t,rfl⟩: ∃ c t,w=c::t:=by
  cases w with
  |nil=>exact absurd rfl hw
  |cons c t=>exact⟨c,t,rfl⟩
 have hsz:(mkS (c::t)).size=t.length+1:=rfl
 have hst:(c::t).length=t.length+1:=rfl
 have hc8:=c.toNat_lt
 obtain⟨S,hS⟩: ∃ S,signF (c::t)=S:=⟨_,rfl⟩
 have hSl:=(signF_le (c::t)).1
 have hbf:boundsF (c::t)=match verF ((c::t).drop S.length)with|none=>none|some v=>some (signedF S v):=by unfold boundsF;rw[hS]
 rw[hbf]
 rw[hS]at hSl
 refine Vc.CallH.body Tryz.func94 Tryz.call94 rfl (by decide+kernel) rfl ?_
 ((conv=>whnf);repeat(any_goals((first|((with_reducible refine Vc.DrawH.held [0,1,2,3,4,5,6,7] [(3,[0])] mixed (by decide+kernel) ?_))|((with_reducible refine Vc.DrawH.held [0,1,2,3,4,5,6] [(2,[0])] mixed (by decide+kernel) ?_))|refine Vc.stq ?_|refine Vc.spl ?_ ?_)<;>(intros;(conv=>whnf)))))
 refine SeqH.cut (fun(_:Unit)=>[(4,.string (mkS S))]) (fun _ H'=>H=H') ?_ ?_
 ·have e1:(((mkS (c::t)).extract 0 2).toList==(⟨#[60,61]⟩:ByteArray).toList)=decide ((c::t).take 2=[60,61]):=by rw[mkS_take];exact str_mk _ _
  have e2:(((mkS (c::t)).extract 0 2).toList==(⟨#[62,61]⟩:ByteArray).toList)=decide ((c::t).take 2=[62,61]):=by rw[mkS_take];exact str_mk _ _
  by_cases hAB:(c::t).take 2=[60,61]∨(c::t).take 2=[62,61]
  ·have hSv:S=(c::t).take 2:=by rw[←hS];unfold signF;rw[if_pos hAB]
   have h2:1≤t.length:=by
    rcases hAB with h|h
    ·have:=congrArg List.length h;simp only[List.length_take,List.length_cons,List.length_nil]at this;omega
    ·have:=congrArg List.length h;simp only[List.length_take,List.length_cons,List.length_nil]at this;omega
   rcases hAB with h|h
   ·rw[decide_eq_true h]at e1
    ((conv=>whnf);repeat(any_goals((first|(refine BndH.nat 2 rfl (by omega) ?_)|((with_reducible refine Vc.DrawH.held [0,1,2,3,4,5,6,7] [(3,[0])] mixed (by decide+kernel) ?_))|((with_reducible refine Vc.DrawH.held [0,1,2,3,4,5,6] [(2,[0])] mixed (by decide+kernel) ?_))|refine Vc.stp ?_)<;>(intros;(conv=>whnf)))))
    exact⟨(),⟨by show Value.string _=_;rw[mkS_take,hSv],trivial⟩,rfl⟩
   ·rw[decide_eq_true h]at e2
    have hne:(c::t).take 2≠ [60,61]:=fun e=>by rw[h]at e;cases e
    rw[decide_eq_false hne]at e1
    ((conv=>whnf);repeat(any_goals((first|(refine BndH.nat 2 rfl (by omega) ?_)|((with_reducible refine Vc.DrawH.held [0,1,2,3,4,5,6,7] [(3,[0])] mixed (by decide+kernel) ?_))|((with_reducible refine Vc.DrawH.held [0,1,2,3,4,5,6] [(2,[0])] mixed (by decide+kernel) ?_))|refine Vc.stp ?_)<;>(intros;(conv=>whnf)))))
    exact⟨(),⟨by show Value.string _=_;rw[mkS_take,hSv],trivial⟩,rfl⟩
  ·rw[decide_eq_false fun e=>hAB (.inl e)]at e1
   rw[decide_eq_false fun e=>hAB (.inr e)]at e2
   have hSv:S=if sgnB c=true then [c]else []:=by rw[←hS];unfold signF;rw[if_neg hAB]
   have hcd:(mkS (c::t)).data.toList.getD 0 0=c:=rfl
   have hx1:(mkS (c::t)).extract 0 1=mkS [c]:=mkS_take _ 1
   rcases (by omega:c.toNat=61∨c.toNat=60∨c.toNat=62∨c.toNat=94∨c.toNat=126∨(c.toNat≠61∧c.toNat≠60∧c.toNat≠62∧c.toNat≠94∧c.toNat≠126))with k|k|k|k|k|⟨k1,k2,k3,k4,k5⟩
   iterate 5
    (focus
     have hSc:S=[c]:=(by rw[hSv];unfold sgnB;rw[k];rfl)
     by_cases hl1:1≤t.length
     all_goals((conv=>whnf);repeat(any_goals((first|(refine BndH.nat 2 rfl (by omega) ?_)|(refine BndH.nat 1 rfl (by omega) ?_)|(refine IdxH.nat 0 rfl (by omega) ?_;(conv=>whnf);rw[hcd])|((with_reducible refine Vc.DrawH.held [0,1,2,3,4,5,6,7] [(3,[0])] mixed (by decide+kernel) ?_))|((with_reducible refine Vc.DrawH.held [0,1,2,3,4,5,6] [(2,[0])] mixed (by decide+kernel) ?_))|refine Vc.stp ?_)<;>(intros;(conv=>whnf)))))
     all_goals exact⟨(),⟨by show Value.string _=_;rw[hx1,hSc],trivial⟩,rfl⟩)
   ·have hSc:S=[]:=by
     rw[hSv];unfold sgnB
     rw[decide_eq_false k1,decide_eq_false k2,decide_eq_false k3,decide_eq_false k4,decide_eq_false k5];rfl
    by_cases hl1:1≤t.length
    all_goals((conv=>whnf);repeat(any_goals((first|(refine BndH.nat 2 rfl (by omega) ?_)|(refine IdxH.nat 0 rfl (by omega) ?_;(conv=>whnf);rw[hcd])|((with_reducible refine Vc.DrawH.held [0,1,2,3,4,5,6,7] [(3,[0])] mixed (by decide+kernel) ?_))|((with_reducible refine Vc.DrawH.held [0,1,2,3,4,5,6] [(2,[0])] mixed (by decide+kernel) ?_))|refine Vc.stp ?_)<;>(intros;(conv=>whnf)))))
    all_goals exact⟨(),⟨by show Value.string _=_;rw[hSc],trivial⟩,rfl⟩
 ·rintro _ _ rfl
  have hsS:(mkS S).size=S.length:=rfl
  have hver:=fun H=>rver_any ((c::t).drop S.length) (by rw[List.length_drop];omega) H
  have hsm: ∀ v,verF ((c::t).drop S.length)=some v→VerS v:=fun v=>verF_small
  have e0:((mkS S).toList==(⟨#[]⟩:ByteArray).toList)=decide (S=[]):=str_mk _ _
  have e1:((mkS S).toList==(⟨#[94]⟩:ByteArray).toList)=decide (S=[94]):=str_mk _ _
  have e2:((mkS S).toList==(⟨#[126]⟩:ByteArray).toList)=decide (S=[126]):=str_mk _ _
  cases hV:verF ((c::t).drop S.length)with
  |none=>
   rw[hV]at hver
   ((conv=>whnf);repeat(any_goals((first|(refine BndH.nat S.length rfl (by omega) ?_;(conv=>whnf);rw[mkS_drop])|(refine(hver _).mono ?_;rintro _ H1 ⟨rfl,hx1⟩;have hz1:=hx1.size)|((with_reducible refine Vc.DrawH.held [0,1,2,3,4,5,6,7] [(3,[0])] mixed (by decide+kernel) ?_))|((with_reducible refine Vc.DrawH.held [0,1,2,3,4,5,6] [(2,[0])] mixed (by decide+kernel) ?_))|refine Vc.stp ?_)<;>(intros;(conv=>whnf)))))
   exact⟨rfl,by exact Vc.xt⟩
  |some v=>
   rw[hV]at hver
   have hvs:=hsm v hV
   have m1:=hvs.ma
   have m2:=hvs.mi
   dsimp only
   unfold signedF
   by_cases k0:S=[]
   ·rw[decide_eq_true k0]at e0
    rw[if_pos k0]
    ((conv=>whnf);repeat(any_goals((first|(refine BndH.nat S.length rfl (by omega) ?_;(conv=>whnf);rw[mkS_drop])|(refine(hver _).mono ?_;rintro x1 H1 ⟨⟨a,cap,ex1,ho1⟩,hx1⟩;unfold verC at ex1;subst ex1;have hz1:=hx1.size)|((with_reducible apply bndB);(conv=>whnf))|((with_reducible refine Vc.DrawH.held [0,1,2,3,4,5,6,7] [(3,[0])] mixed (by decide+kernel) ?_))|((with_reducible refine Vc.DrawH.held [0,1,2,3,4,5,6] [(2,[0])] mixed (by decide+kernel) ?_))|refine Vc.stp ?_)<;>(intros;(conv=>whnf)))))
    exact⟨⟨_,_,rfl,own_litE bndT_ok.ok (by assumption) (bnd_lst1 ho1.cap_le (ho1.rowT.ext (by exact Vc.xt))) (by omega) (by simp)⟩,hx1.trans (by exact Vc.xt)⟩
   rw[decide_eq_false k0]at e0
   rw[if_neg k0]
   by_cases k1:S=[94]
   ·rw[decide_eq_true k1]at e1
    rw[if_pos k1]
    obtain⟨q,hq⟩: ∃ q,hatP v=q:=⟨_,rfl⟩
    rw[hq]
    by_cases g1:0<v.ma
    case' neg=>by_cases g2:0<v.mi
    all_goals(unfold hatP at hq;first|rw[if_pos g1]at hq|rw[if_neg g1,if_pos g2]at hq|rw[if_neg g1,if_neg g2]at hq)
    all_goals subst hq
    all_goals((conv=>whnf);repeat(any_goals((first|(refine BndH.nat S.length rfl (by omega) ?_;(conv=>whnf);rw[mkS_drop])|(refine(hver _).mono ?_;rintro x1 H1 ⟨⟨a,cap,ex1,ho1⟩,hx1⟩;unfold verC at ex1;subst ex1;have hz1:=hx1.size)|((with_reducible apply bndB);(conv=>whnf))|(refine(rnext_any v (verS_b hvs) 0 (by decide) _ _ (verO_lit ho1.cap_le (ho1.row.ext (by exact Vc.xt)))).mono ?_;rintro x5 H5 ⟨ex5,hx5⟩;unfold verC at ex5;subst ex5;have hz5:=hx5.size)|(refine(rnext_any v (verS_b hvs) 1 (by decide) _ _ (verO_lit ho1.cap_le (ho1.row.ext (by exact Vc.xt)))).mono ?_;rintro x5 H5 ⟨ex5,hx5⟩;unfold verC at ex5;subst ex5;have hz5:=hx5.size)|(refine(rnext_any v (verS_b hvs) 2 (by decide) _ _ (verO_lit ho1.cap_le (ho1.row.ext (by exact Vc.xt)))).mono ?_;rintro x5 H5 ⟨ex5,hx5⟩;unfold verC at ex5;subst ex5;have hz5:=hx5.size)|((with_reducible refine Vc.DrawH.held [0,1,2,3,4,5,6,7] [(3,[0])] mixed (by decide+kernel) ?_))|((with_reducible refine Vc.DrawH.held [0,1,2,3,4,5,6] [(2,[0])] mixed (by decide+kernel) ?_))|refine Vc.stp ?_)<;>(intros;(conv=>whnf)))))
    all_goals exact⟨⟨_,_,rfl,own_litE bndT_ok.ok (by assumption) (bnd_lst2 ho1.cap_le (ho1.rowT.ext (by exact Vc.xt))) (by omega) (by simp)⟩,hx1.trans (by exact Vc.xt)⟩
   rw[decide_eq_false k1]at e1
   rw[if_neg k1]
   by_cases k2:S=[126]
   ·rw[decide_eq_true k2]at e2
    rw[if_pos k2]
    ((conv=>whnf);repeat(any_goals((first|(refine BndH.nat S.length rfl (by omega) ?_;(conv=>whnf);rw[mkS_drop])|(refine(hver _).mono ?_;rintro x1 H1 ⟨⟨a,cap,ex1,ho1⟩,hx1⟩;unfold verC at ex1;subst ex1;have hz1:=hx1.size)|((with_reducible apply bndB);(conv=>whnf))|(refine(rnext_any v (verS_b hvs) 1 (by decide) _ _ (verO_lit ho1.cap_le (ho1.row.ext (by exact Vc.xt)))).mono ?_;rintro x5 H5 ⟨ex5,hx5⟩;unfold verC at ex5;subst ex5;have hz5:=hx5.size)|((with_reducible refine Vc.DrawH.held [0,1,2,3,4,5,6,7] [(3,[0])] mixed (by decide+kernel) ?_))|((with_reducible refine Vc.DrawH.held [0,1,2,3,4,5,6] [(2,[0])] mixed (by decide+kernel) ?_))|refine Vc.stp ?_)<;>(intros;(conv=>whnf)))))
    exact⟨⟨_,_,rfl,own_litE bndT_ok.ok (by assumption) (bnd_lst2 ho1.cap_le (ho1.rowT.ext (by exact Vc.xt))) (by omega) (by simp)⟩,hx1.trans (by exact Vc.xt)⟩
   rw[decide_eq_false k2]at e2
   rw[if_neg k2]
   ((conv=>whnf);repeat(any_goals((first|(refine BndH.nat S.length rfl (by omega) ?_;(conv=>whnf);rw[mkS_drop])|(refine(hver _).mono ?_;rintro x1 H1 ⟨⟨a,cap,ex1,ho1⟩,hx1⟩;unfold verC at ex1;subst ex1;have hz1:=hx1.size)|((with_reducible apply bndB);(conv=>whnf))|((with_reducible refine Vc.DrawH.held [0,1,2,3,4,5,6,7] [(3,[0])] mixed (by decide+kernel) ?_))|((with_reducible refine Vc.DrawH.held [0,1,2,3,4,5,6] [(2,[0])] mixed (by decide+kernel) ?_))|refine Vc.stp ?_)<;>(intros;(conv=>whnf)))))
   exact⟨⟨_,_,rfl,own_litE bndT_ok.ok (by assumption) (bnd_lst1 ho1.cap_le (ho1.rowT.ext (by exact Vc.xt))) (by omega) (by simp)⟩,hx1.trans (by exact Vc.xt)⟩
end Go.Proofs.YtjdieklgoepdjaaGreatDoor
namespace Go.Slv
open Go.Scr
theorem orF_bar (cur t:Txt):orF cur (124::124::t)=cur::orF [] t:=by rw[orF,if_pos ⟨rfl,rfl⟩]
theorem orF_step {cur t:Txt} {c:UInt8} (h: ¬(c.toNat=124∧ ∃ u,t=124::u)):orF cur (c::t)=orF (cur++[c]) t:=by
 cases t with
 |nil=>rfl
 |cons d u=>
  rw[orF,if_neg]
  rintro⟨h1,h2⟩
  exact h ⟨h1,u,by rw[UInt8.toNat_inj.1 (h2.trans (show(124:Nat)=(124:UInt8).toNat from rfl))]⟩
theorem orF_len: ∀ (cur s:Txt),(orF cur s).length≤s.length+1∧ ∀ x∈orF cur s,x.length≤cur.length+s.length
 |cur,[]=>by simp[orF]
 |cur,[c]=>by simp[orF]
 |cur,c::d::t=>by
  rw[orF]
  split
  ·obtain⟨h1,h2⟩:=orF_len [] t
   refine⟨by simp only[List.length_cons];omega,fun x hx=> ?_⟩
   rcases List.mem_cons.1 hx with rfl|hx
   ·omega
   ·have:=h2 x hx;simp only[List.length_cons,List.length_nil]at*;omega
  ·obtain⟨h1,h2⟩:=orF_len (cur++[c]) (d::t)
   refine⟨by simp only[List.length_cons]at*;omega,fun x hx=> ?_⟩
   have:=h2 x hx;simp only[List.length_cons,List.length_append,List.length_nil]at*;omega
theorem wordsP_ne {s w:Txt} (h:w∈wordsP s):w≠ []:=by
 unfold wordsP at h
 have:=(List.mem_filter.1 h).2
 simpa using this
theorem wordsP_len {s w:Txt} (h:w∈wordsP s):w.length≤s.length:=by
 unfold wordsP at h
 exact split_len 32 s w (List.mem_filter.1 h).1
theorem signedF_len (s:Txt) (v:VerP):(signedF s v).length≤2:=by
 unfold signedF;(repeat' split)<;>simp
theorem boundsF_len {w:Txt} {b:List BndP} (h:boundsF w=some b):b.length≤2:=by
 unfold boundsF at h
 split at h
 ·cases h
 ·cases h;exact signedF_len _ _
end Go.Slv
namespace Go.Proofs.YtjdieklgoepdjaaGreatDoor
open Go Go.Vc Go.Scr Go.Slv
def SpnR (H':Heap) (B:Nat) (x:Value):Option SpnP→Prop
 |some s=>∃ a cap,x= .tuple #[.agg #[.bool s.any,.slice a s.or_.length cap],.int .i64 0]∧OwnE bndsT 1 H' B 136 a s.or_ cap
 |none=>x= .tuple #[.agg #[.bool false,.slice none 0 0],.int .i64 61]
structure OrS where
 i:Nat
 fr:Nat
 out:List Bs
 a:Option Addr
 cap:Nat
structure OlS where
 acc:List (List BndP)
 a:Option Addr
 cap:Nat
structure AlS where
 k:Nat
 all:List BndP
 a:Option Addr
 cap:Nat
theorem ext_wr2 {H0 H H':Heap} {a:Option Addr} {n:Nat} (h:Ext H0 H) (hb: ∀ p,a=some p→H0.size≤p.block∧p.block<n) (k:Wr a H H'):Ext H0 H':=Only.trans h k fun b hlt ⟨p,hp,e⟩=>by have:=hb p hp;omega
theorem spanB {K:Value→Prop} {o1:Operand} {x:Bool} (h:K (.agg #[.bool x,.slice none 0 0])):PureH Tryz.prog (Instr.build 43 ((List.map (fun x:Nat×Operand=>x.1) (#[(0,o1)]:Array (Nat×Operand)).toList).zip [.bool x]).toArray) K:=PureH.build _ (by kernel_rfl) h
theorem spanB0 {K:Value→Prop} (h:K (.agg #[.bool false,.slice none 0 0])):PureH Tryz.prog (Instr.build 43 (((#[]:Array (Nat×Operand)).toList.map fun x:Nat×Operand=>x.1).zip ([]:List Value)).toArray) K:=PureH.build _ (by kernel_rfl) h
set_option maxHeartbeats 4000000 in
theorem rspan_any (s:Bs) (hl:s.length≤10000000) (H:Heap):CallH Tryz.prog 42 [.string (mkS s)] H fun x H'=>SpnR H' H.size x (spanF s)∧Ext H H':=by
 have hsz:(mkS s).size=s.length:=rfl
 have hwd:=fun H=>rwords9_any s (by omega) H
 obtain⟨W,hW⟩: ∃ W,wordsP s=W:=⟨_,rfl⟩
 obtain⟨L,hL⟩: ∃ L,orF [] s=L:=⟨_,rfl⟩
 have hsf:spanF s=if W=[[42]]then some ⟨true,[]⟩else if L.length≤8 then match orsF [] L with|none=>none|some o=>some ⟨false,o⟩else none:=by unfold spanF;rw[hW,hL];try rfl
 rw[hsf]
 rw[hW]at hwd
 refine Vc.CallH.body Tryz.func42 Tryz.call42 rfl (by decide+kernel) rfl ?_
 by_cases hstar:W=[[42]]
 ·subst hstar
  rw[if_pos rfl]
  have e0:((mkS [42]).toList==(⟨#[42]⟩:ByteArray).toList)=true:=str_mk _ _
  ((conv=>whnf);repeat(any_goals((first|(refine(hwd _).mono ?_;rintro _ H1 ⟨⟨a1,c1,rfl,ho1⟩,hx1⟩;have hz1:=hx1.size)|(refine IdxA.strv ho1.row rfl 0 [42] rfl rfl ?_;intro _ _ _ _ _)|((with_reducible apply spanB);(conv=>whnf))|refine Vc.stp ?_)<;>(intros;(conv=>whnf)))))
  rename_i H0 z0 b0 x0 _ _ _ _ _ H2 z2 b2 k2
  exact⟨⟨none,0,rfl,OwnE.nil _ _ _ _ _⟩,(x0.trans hx1).but k2 (by omega)⟩
 rw[if_neg hstar]
 have hWl: ∀ x,W=[x]→x≠ [42]:=fun x e h=>hstar (by rw[e,h])
 obtain⟨hLl,hLw⟩:=orF_len [] s
 rw[hL]at hLl hLw
 ((conv=>whnf);repeat(any_goals((first|(refine(hwd _).mono ?_;rintro _ H1 ⟨⟨a1,c1,rfl,ho1⟩,hx1⟩;have hz1:=hx1.size)|refine Vc.stq ?_|refine Vc.spl ?_ ?_)<;>(intros;(conv=>whnf)))))
 rename_i H0 z0 b0 x0
 refine SeqH.cut (fun(_:Unit)=>[]) (fun _ H'=>H1=H') ?_ ?_
 ·by_cases h1:W.length=1
  ·obtain⟨x,rfl⟩: ∃ x,W=[x]:=List.length_eq_one_iff.1 h1
   have e0:((mkS x).toList==(⟨#[42]⟩:ByteArray).toList)=false:=by
    show((mkS x).toList==(mkS [42]).toList)=false
    rw[str_mk];exact decide_eq_false (hWl x rfl)
   ((conv=>whnf);repeat(any_goals((first|(refine IdxA.strv ho1.row rfl 0 x rfl rfl ?_;intro _ _ _ _ _)|refine Vc.stp ?_)<;>(intros;(conv=>whnf)))))
   exact⟨(),trivial,rfl⟩
  ·((conv=>whnf);repeat(any_goals((first|refine Vc.stp ?_)<;>(intros;(conv=>whnf)))))
   exact⟨(),trivial,rfl⟩
 ·rintro _ _ rfl
  ((conv=>whnf);repeat(any_goals((first|refine Vc.stq ?_|refine Vc.spl ?_ ?_)<;>(intros;(conv=>whnf)))))
  rename_i H2 z2 b2 x2
  have hx02:Ext H H2:=x0.trans (hx1.trans x2)
  refine SeqH.cut (fun(x:OrS)=>[(6,.slice x.a L.length x.cap)]) (fun x H'=>x.out=L∧Own H' H2.size 9 1 x.a L.length x.cap (strs L)∧Ext H2 H') ?_ ?_
  ·((conv=>whnf);repeat(any_goals((first|refine Vc.stp ?_)<;>(intros;(conv=>whnf)))))
   refine LoopH.intro (fun(x:OrS)=>[(8,.int .i64 x.i),(7,.int .i64 x.fr),(6,.slice x.a x.out.length x.cap)]) (fun x H'=>x.i≤s.length+2∧x.out.length≤x.i∧(if x.i≤s.length then x.fr≤x.i∧L=x.out++orF (mid s x.fr x.i) (s.drop x.i)else x.out=L)∧Own H' H2.size 9 1 x.a x.out.length x.cap (strs x.out)∧Ext H2 H') (fun x=>s.length+2-x.i) ⟨0,0,[],none,0⟩ ⟨rfl,rfl,rfl,trivial⟩ ⟨Nat.zero_le _,Nat.le_refl _,by rw[if_pos (Nat.zero_le _)];exact⟨Nat.le_refl _,by rw[mid_self];exact hL.symm⟩,Own.nil _ _ _ _,Ext.refl _⟩ ?_
   rintro⟨i,fr,out,a,cap⟩ H3 ⟨hi,hol,hinv,ho3,hx3⟩
   dsimp only at hi hol hinv ho3 ⊢
   have hz3:=hx3.size
   by_cases hle:i≤s.length
   ·rw[if_pos hle]at hinv
    obtain⟨hfr,hLe⟩:=hinv
    by_cases heq:i=s.length
    ·subst heq
     rw[List.drop_length,orF]at hLe
     ((conv=>whnf);repeat(any_goals((first|(refine BndH.nat s.length rfl (by omega) ?_)|(refine BndH.nat fr rfl (by omega) ?_;(conv=>whnf);rw[mkS_ext])|refine Vc.stp ?_)<;>(intros;(conv=>whnf)))))
     rename_i H5 hs5 hb5 hx5 a6 c6 H6 ho6 hx6
     exact⟨⟨s.length+2,s.length+2,out++[mid s fr s.length],a6,c6⟩,⟨rfl,rfl,sl_snocS _ _ _ _,trivial⟩,⟨Nat.le_refl _,by show(out++[_]).length≤_;simp;omega,by rw[if_neg (by dsimp only;omega)];exact hLe.symm,own_snocS rfl ho6,hx6⟩,by show s.length+2-(s.length+2)<_;omega⟩
    ·have hlt:i<s.length:=by omega
     obtain⟨c,hc,hd⟩:=drop_get hlt
     rw[hd]at hLe
     have hdl:(s.drop (i+1)).length=s.length-(i+1):=List.length_drop
     have e1:(((mkS s).extract i (i+2)).toList==(⟨#[124,124]⟩:ByteArray).toList)=decide ((c::s.drop (i+1)).take 2=[124,124]):=by
      rw[mkS_ext,hd,show i+2-i=2 by omega];exact str_mk _ _
     by_cases hbar:c.toNat=124∧ ∃ u,s.drop (i+1)=124::u
     ·obtain⟨h1,u,hu⟩:=hbar
      have hc1:c=124:=UInt8.toNat_inj.1 h1
      have hu2:s.drop (i+2)=u:=by
       have:s.drop (i+2)=(s.drop (i+1)).drop 1:=by rw[List.drop_drop]
       rw[this,hu];rfl
      rw[hu]at hdl
      simp only[List.length_cons]at hdl
      rw[hc1,hu,orF_bar]at hLe
      rw[hc1,hu,decide_eq_true (show(124::124::u:Txt).take 2=[124,124]from rfl)]at e1
      ((conv=>whnf);repeat(any_goals((first|(refine BndH.nat (i+2) rfl (by omega) ?_)|(refine BndH.nat i rfl (by omega) ?_)|(refine BndH.nat fr rfl (by omega) ?_;(conv=>whnf);rw[mkS_ext])|refine Vc.stp ?_)<;>(intros;(conv=>whnf)))))
      rename_i H5 hs5 hb5 hx5 a6 c6 H6 ho6 hx6
      exact⟨⟨i+2,i+2,out++[mid s fr i],a6,c6⟩,⟨rfl,rfl,sl_snocS _ _ _ _,trivial⟩,⟨by show i+2≤_;omega,by show(out++[_]).length≤_;simp;omega,by rw[if_pos (by dsimp only;omega)];exact⟨Nat.le_refl _,by dsimp only;rw[mid_self,hu2,hLe];simp⟩,own_snocS rfl ho6,hx6⟩,by show s.length+2-(i+2)<_;omega⟩
     ·have e2:decide ((c::s.drop (i+1)).take 2=[124,124])=false:=decide_eq_false fun e=>hbar (by
       cases hq:s.drop (i+1)with
       |nil=>rw[hq]at e;cases e
       |cons d u=>
        rw[hq]at e
        injection e with e3 e4
        injection e4 with e4 _
        subst e3;subst e4
        exact⟨rfl,u,rfl⟩)
      rw[e2]at e1
      rw[orF_step hbar]at hLe
      by_cases hl1:i+1<s.length
      all_goals((conv=>whnf);repeat(any_goals((first|(refine BndH.nat (i+2) rfl (by omega) ?_)|(refine BndH.nat i rfl (by omega) ?_)|refine Vc.stp ?_)<;>(intros;(conv=>whnf)))))
      all_goals exact⟨⟨i+1,fr,out,a,cap⟩,⟨rfl,rfl,rfl,trivial⟩,⟨by show i+1≤_;omega,by show out.length≤i+1;omega,by rw[if_pos (by dsimp only;omega)];exact⟨by dsimp only;omega,by dsimp only;rw[mid_snoc hfr hd];exact hLe⟩,ho3,hx3⟩,by show s.length+2-(i+1)<s.length+2-i;omega⟩
   ·rw[if_neg hle]at hinv
    subst hinv
    ((conv=>whnf);repeat(any_goals((first|refine Vc.stp ?_)<;>(intros;(conv=>whnf)))))
    exact⟨⟨i,fr,out,a,cap⟩,⟨rfl,trivial⟩,rfl,ho3,hx3⟩
  ·rintro⟨_,_,out,a,cap⟩ H3 ⟨hout,ho3,hx3⟩
   dsimp only at hout ho3 ⊢
   clear hout
   have hz3:=hx3.size
   have hx03:=hx02.trans hx3
   have b03:Blk H3 H.size #[.bool false,.slice none 0 0] 43:=((b0.ext hx1).ext x2).ext hx3
   have b23:Blk H3 H1.size #[.bool false,.slice none 0 0] 43:=b2.ext hx3
   by_cases h8:8<L.length
   ·rw[if_neg (by omega)]
    ((conv=>whnf);repeat(any_goals((first|((with_reducible apply spanB0);(conv=>whnf))|refine Vc.stp ?_)<;>(intros;(conv=>whnf)))))
    rename_i H4 z4 b4 k4
    exact⟨rfl,hx03.but k4 (Nat.le_refl _)⟩
   rw[if_pos (by omega)]
   obtain⟨Z,hZ⟩: ∃ Z,orsF [] L=Z:=⟨_,rfl⟩
   rw[hZ]
   ((conv=>whnf);repeat(any_goals((first|refine Vc.stp ?_)<;>(intros;(conv=>whnf)))))
   refine LoopH.intro (fun(x:OlS)=>[(9,.int .i64 x.acc.length)]) (fun x H'=>x.acc.length≤L.length∧Z=orsF x.acc (L.drop x.acc.length)∧Blk H' H1.size #[.bool false,.slice x.a x.acc.length x.cap] 43∧OwnE bndsT 1 H' H3.size 136 x.a x.acc x.cap∧But H1.size H3 H') (fun x=>L.length-x.acc.length) ⟨[],none,0⟩ ⟨rfl,trivial⟩ ⟨Nat.zero_le _,hZ.symm,b23,OwnE.nil _ _ _ _ _,Only.refl _ _⟩ ?_
   rintro⟨acc,oa,oc⟩ H4 ⟨hi,hinv,hb4,ho4,hx4⟩
   dsimp only at hi hinv hb4 ho4 ⊢
   have hz4:=hx4.size
   have hlt1:=b2.lt
   have b04:=b03.but hx4 (by omega)
   have hx04:=hx03.but hx4 (by omega)
   have ho34:=ho3.keep hx4 fun p hp e=>by have:=(ho3.block p hp).1;omega
   by_cases hlt:acc.length<L.length
   ·obtain⟨w,hw⟩: ∃ w,L[acc.length]? =some w:=⟨_,List.getElem?_eq_getElem hlt⟩
    have hdw:L.drop acc.length=w::L.drop (acc.length+1):=by rw[List.drop_eq_getElem_cons hlt];rw[List.getElem?_eq_getElem hlt]at hw;injection hw with hw;rw[hw]
    have hwl:w.length≤s.length:=by have:=hLw w (List.mem_of_getElem? hw);simpa using this
    rw[hdw,orsF]at hinv
    have hw2:=fun H=>rwords9_any w (by omega) H
    have hWm: ∀ x∈wordsP w,x≠ []∧x.length≤w.length:=fun x hx=>⟨wordsP_ne hx,wordsP_len hx⟩
    obtain⟨V,hV⟩: ∃ V,wordsP w=V:=⟨_,rfl⟩
    rw[hV]at hw2 hinv hWm
    by_cases hc:1≤V.length∧V.length≤8
    case neg=>
     rw[if_neg hc]at hinv
     subst hinv
     by_cases hc1:V.length<1
     all_goals((conv=>whnf);repeat(any_goals((first|((with_reducible apply spanB0);(conv=>whnf))|(refine IdxA.strv ho34.row rfl acc.length w rfl hw ?_;intro _ _ _ _ _)|(refine(hw2 _).mono ?_;rintro _ H5 ⟨⟨a5,c5,rfl,ho5⟩,hx5⟩;have hz5:=hx5.size)|refine Vc.stp ?_)<;>(intros;(conv=>whnf)))))
     all_goals(rename_i H6 z6 b6 k6;exact⟨rfl,(hx04.trans hx5).but k6 (Nat.le_refl _)⟩)
    rw[if_pos hc]at hinv
    obtain⟨hc1,hc8⟩:=hc
    have hc1': ¬V.length<1:=by omega
    ((conv=>whnf);repeat(any_goals((first|(refine IdxA.strv ho34.row rfl acc.length w rfl hw ?_;intro _ _ _ _ _)|(refine(hw2 _).mono ?_;rintro _ H5 ⟨⟨a5,c5,rfl,ho5⟩,hx5⟩;have hz5:=hx5.size)|refine Vc.stp ?_)<;>(intros;(conv=>whnf)))))
    have hx05:=hx04.trans hx5
    refine LoopH.intro (fun(x:AlS)=>[(12,.int .i64 x.k),(11,.slice x.a x.all.length x.cap)]) (fun x H'=>x.k≤V.length∧x.all.length≤2*x.k∧allB [] V=allB x.all (V.drop x.k)∧OwnE bndT 5 H' H5.size 171 x.a x.all x.cap∧Ext H5 H') (fun x=>V.length-x.k) ⟨0,[],none,0⟩ ⟨rfl,rfl,trivial⟩ ⟨Nat.zero_le _,Nat.le_refl _,rfl,OwnE.nil _ _ _ _ _,Ext.refl _⟩ ?_
    rintro⟨k,all,ba,bc⟩ H6 ⟨hk,hal,hai,ho6,hx6⟩
    dsimp only at hk hal hai ho6 ⊢
    have hz6:=hx6.size
    have hx06:=hx05.trans hx6
    have b06:=(b04.ext hx5).ext hx6
    have hb6:=(hb4.ext hx5).ext hx6
    by_cases hkl:k<V.length
    ·obtain⟨v,hv⟩: ∃ v,V[k]? =some v:=⟨_,List.getElem?_eq_getElem hkl⟩
     have hdv:V.drop k=v::V.drop (k+1):=by rw[List.drop_eq_getElem_cons hkl];rw[List.getElem?_eq_getElem hkl]at hv;injection hv with hv;rw[hv]
     rw[hdv,allB]at hai
     obtain⟨hvne,hvl⟩:=hWm v (List.mem_of_getElem? hv)
     have hbd:=fun H=>rbounds_any v hvne (by omega) H
     cases hB:boundsF v with
     |none=>
      rw[hB]at hbd hai
      rw[hai]at hinv
      subst hinv
      ((conv=>whnf);repeat(any_goals((first|((with_reducible apply spanB0);(conv=>whnf))|(refine IdxA.strv (ho5.row.ext hx6) rfl k v rfl hv ?_;intro _ _ _ _ _)|(refine(hbd _).mono ?_;rintro _ H7 ⟨rfl,hx7⟩;have hz7:=hx7.size)|refine Vc.stp ?_)<;>(intros;(conv=>whnf)))))
      rename_i H8 z8 b8 k8
      exact⟨rfl,(hx06.trans hx7).but k8 (Nat.le_refl _)⟩
     |some b=>
      rw[hB]at hbd hai
      have hbl:=boundsF_len hB
      ((conv=>whnf);repeat(any_goals((first|(refine IdxA.strv (ho5.row.ext hx6) rfl k v rfl hv ?_;intro _ _ _ _ _)|(refine(hbd _).mono ?_;rintro _ H7 ⟨⟨a7,c7,rfl,ho7⟩,hx7⟩;have hz7:=hx7.size;obtain⟨vs7,hr7,hl7⟩:=ho7.out)|(refine NextH.appE bndT_ok rfl ⟨_,rfl,fun _ h=>by cases h⟩ rfl rfl rfl rfl (by decide) (by decide) (ho6.ext bndT_ok.ok hx7) rfl hr7.row hl7 rfl (by omega) (by omega) ?_;intro a8 c8 H8 ho8 hw8 hn8)|refine Vc.stp ?_)<;>(intros;(conv=>whnf)))))
      exact⟨⟨k+1,all++b,a8,c8⟩,⟨rfl,by show Value.slice _ _ _=Value.slice _ _ _;rw[List.length_append],trivial⟩,⟨hkl,by show(all++b).length≤2*(k+1);rw[List.length_append];omega,hai,ho8,ext_wr2 (hx6.trans hx7) ho6.block hw8⟩,by show V.length-(k+1)<V.length-k;omega⟩
    ·rw[List.drop_of_length_le (by omega),allB]at hai
     rw[hai]at hinv
     ((conv=>whnf);repeat(any_goals((first|(rename_i Hl zl bl xl;refine NextH.appE bndsT_ok rfl ⟨_,rfl,fun _ h=>by cases h⟩ rfl rfl rfl rfl (by decide) (by decide) (ho4.ext bndsT_ok.ok (hx5.trans (hx6.trans xl))) rfl (Blk.row (c:=[.slice ba all.length bc]) bl) (LstV.one ⟨ba,bc,rfl,ho6.cap_le,ho6.rowL.ext bndT_ok xl⟩) rfl (by omega) (by omega) ?_;intro a8 c8 H8 ho8 hw8 hn8;have hb8:=(hb6.ext xl).keep hw8 (fun⟨p,hp,e⟩=>by have:=(ho4.block p hp).1;omega);have hz8:=hw8.size)|refine Vc.stp ?_)<;>(intros;(conv=>whnf)))))
     rename_i Hl zl bl xl H9 z9 b9 k9
     have hlen:(acc++[all]).length=acc.length+1:=by rw[List.length_append];rfl
     exact⟨⟨acc++[all],a8,c8⟩,⟨by show Value.int .i64 _=Value.int .i64 _;rw[hlen];rfl,trivial⟩,⟨by show(acc++[all]).length≤_;omega,by show Z=orsF (acc++[all]) (L.drop (acc++[all]).length);rw[hlen];exact hinv,by show Blk H9 H1.size #[_,.slice a8 (acc++[all]).length c8] _;rw[hlen];exact b9,ho8.keep bndsT_ok k9 (fun b c u e hb hT=>by subst e;rw[hb.typ hb8]at hT;exact absurd hT (by decide)) fun p hp e=>by have:=(ho8.block p hp).1;omega,((hx4.ext (hx5.trans (hx6.trans xl))).trans hw8 fun b hb ⟨p,hp,e⟩=>by have:=(ho4.block p hp).1;omega).trans k9 fun _ _ e=>e⟩,by show L.length-(acc++[all]).length<_;omega⟩
   ·have hac:acc.length=L.length:=by omega
    rw[List.drop_of_length_le (by omega),orsF]at hinv
    subst hinv
    ((conv=>whnf);repeat(any_goals((first|refine Vc.stp ?_)<;>(intros;(conv=>whnf)))))
    rename_i H5 z5 b5 k5
    exact⟨⟨oa,oc,rfl,(ho4.keep bndsT_ok k5 (fun b c u e hb hT=>by subst e;rw[hb.typ b04]at hT;exact absurd hT (by decide)) fun p hp e=>by have:=(ho4.block p hp).1;omega).base (by omega)⟩,hx04.but k5 (Nat.le_refl _)⟩
structure RowsB (R:List RowP):Prop where
 small: ∀ r∈R,VerS r.v
 needs: ∀ r∈R,r.needs.length≤1000
 span: ∀ r∈R,∀ n∈r.needs,SpnB n.span
theorem rows_ver {R:List RowP} (h:RowsB R): ∀ r∈R,VerB r.v:=fun r hr=>verS_b (h.small r hr)
structure Wait (H H':Heap) (wa:Option Addr) (W:List NeedP):Prop where
 row:RowE (constE needE H) H' wa W
 off:W≠ []→ ∀ p,wa=some p→p.block<H.size∨ ∃ c,Blk H' p.block c 45
theorem Wait.ext {H H1 H2:Heap} {wa:Option Addr} {W:List NeedP} (h:Wait H H1 wa W) (k:Ext H1 H2):Wait H H2 wa W:=⟨h.row.ext (const_ok need_ok H).ok k,fun h0 p hp=>(h.off h0 p hp).imp_right fun⟨c,hc⟩=>⟨c,hc.ext k⟩⟩
theorem Wait.wr {H H1 H2:Heap} {wa oa:Option Addr} {W:List NeedP} {n cap:Nat} {xs:List Value} (h:Wait H H1 wa W) (ho:Own H1 H.size 9 1 oa n cap xs) (k:Wr oa H1 H2):Wait H H2 wa W:=by
 have hne:W≠ []→ ∀ p,wa=some p→ ¬ ∃ q,oa=some q∧q.block=p.block:=fun h0 p hp ⟨q,hq,e⟩=>by
  have h1:=(ho.block q hq).1
  rcases h.off h0 p hp with g|⟨c,hc⟩
  ·omega
  ·rcases ho.out with ⟨g1,_⟩|⟨g,cur,g1,_,hb,_⟩
   ·rw[g1]at hq;cases hq
   ·rw[g1]at hq;cases hq
    rw[←e]at hc
    exact absurd (hc.typ hb) (by decide)
 obtain⟨vs,h1,h2⟩:=h.row.out
 refine⟨⟨vs,h1.keep' k fun h0=>hne fun e=> ?_,?_⟩,fun h0 p hp=>(h.off h0 p hp).imp_right fun⟨c,hc⟩=>⟨c,hc.keep k (hne h0 p hp)⟩⟩
 ·subst e
  have:=h2.len (const_ok need_ok H).ok
  exact h0 (List.eq_nil_of_length_eq_zero (by simpa using this))
 ·clear h1 hne h
  induction h2 with
  |nil=>exact .nil
  |cons h _ ih=>exact .cons h ih
theorem Wait.arg {H:Heap} {a:Option Addr} {N:List NeedP} (h:RowE needE H a N):Wait H H a N:=by
 refine⟨h.const,fun h0 p hp=> .inl ?_⟩
 obtain⟨vs,h1,h2⟩:=h.out
 have hl:=h2.len need_ok
 have:0<N.length:=List.length_pos_iff.2 h0
 obtain⟨b,o,e,hlt,_⟩:=h1.at (by omega)
 rw[hp]at e;cases e
 exact hlt
theorem ext_wrO {H0 H H':Heap} {a:Option Addr} {n:Nat} (h:Ext H0 H) (hb: ∀ p,a=some p→H0.size≤p.block∧p.block<n) (k:Wr a H H'):Ext H0 H':=Only.trans h k fun b hlt ⟨p,hp,e⟩=>by have:=hb p hp;omega
structure WtS where
 i:Nat
 W:List NeedP
 wa:Option Addr
 wc:Nat
 out:List Bs
 oa:Option Addr
 oc:Nat
theorem IdxA.need {H0 H:Heap} {a:Option Addr} {l:List NeedP} {n:Nat} {i:Int} {K:Addr→Prop} (h:RowE (constE needE H0) H a l) (hn:l.length=n) (j:Nat) (x:NeedP) (hi:i=j) (hx:l[j]? =some x)
  (hk: ∀ b o c,needE H0 x c→(∀ k v,c[k]? =some v→hcell H ⟨b,o+k,none⟩=some v)→hcell H ⟨b,o+0,none⟩=some (.string (mkS x.name))→K ⟨b,o,none⟩):IdxA a n 4 i K:=
 IdxA.el (const_ok need_ok H0).ok (by decide) h hn j x hi hx fun b o c h1 h2=>hk b o c h1 h2 (h2 0 _ (by obtain⟨_,_,e,_⟩:=h1;rw[e];rfl))
set_option maxHeartbeats 4000000 in
theorem rreached_any (R:List RowP) (ha:Apart R) (hRB:RowsB R) (N:List NeedP) (P:List PinP) (hs:SortP P) (hrow: ∀ p∈P,∃ r∈R,pinR r=p) (ra na pa:Option Addr) (rn rc nn nc pn pc:Nat) (H:Heap)
  (hR:RowE rowE H ra R) (hN:RowE needE H na N) (hP:RowE pinE H pa P) (hrn:R.length=rn) (hnn:N.length=nn) (hpn:P.length=pn) (hrl:rn≤10000) (hnl:nn≤10000) (hpl:pn≤900) (hnc:nn≤nc):
  CallH Tryz.prog 91 [.slice ra rn rc,.slice na nn nc,.slice pa pn pc] H fun x H'=>(∃ out W a' c',x= .slice a' out.length c'∧Gath R N P W W.length out)∧Ext H H':=by
 have ok:=const_ok need_ok H
 refine Vc.CallH.body Tryz.func91 Tryz.call91 rfl (by decide+kernel) rfl ?_
 ((conv=>whnf);repeat(any_goals((first|refine Vc.stp ?_)<;>(intros;(conv=>whnf)))))
 refine LoopH.intro (fun(x:WtS)=>[(9,.int .i64 x.i),(8,.slice x.wa x.W.length x.wc),(7,.slice x.oa x.out.length x.oc)]) (fun x H'=>Gath R N P x.W x.i x.out∧Wait H H' x.wa x.W∧x.W.length≤x.wc∧Own H' H.size 9 1 x.oa x.out.length x.oc (strs x.out)∧x.W.length≤nn+x.out.length*1000∧Ext H H') (fun x=>(pn-x.out.length)*1001+(x.W.length-x.i)) ⟨0,N,na,nc,[],none,0⟩ ⟨rfl,by show Value.slice _ _ _=Value.slice _ _ _;rw[hnn],rfl,trivial⟩ ⟨gath_nil R N P,.arg hN,by dsimp only;omega,Own.nil _ _ _ _,by dsimp only;omega,Ext.refl _⟩ ?_
 rintro⟨i,W,wa,wc,out,oa,oc⟩ H1 ⟨hg,hw1,hwc,ho1,hwl,hx1⟩
 dsimp only at hg hw1 hwc ho1 hwl ⊢
 have hz1:=hx1.size
 have hol:=hg.len
 have hil:=hg.le
 have hol2:out.length*1000≤900000:=by omega
 by_cases hlt:i<W.length
 ·obtain⟨n,hn⟩: ∃ n,W[i]? =some n:=⟨_,List.getElem?_eq_getElem hlt⟩
  have hpin:=fun H' (k:Ext H H')=>rpin_any P n.name pa pn pc H H' k hP hpn (by omega)
  have hin:=fun H' hr=>rin_any out n.name oa out.length oc H' hr rfl (by omega)
  cases hf:findP P n.name with
  |none=>
   rw[hf]at hpin
   ((conv=>whnf);repeat(any_goals((first|(refine IdxA.need hw1.row rfl i n rfl hn ?_;intro b o c hcN hcl hc0)|(refine(hpin _ (hx1.trans (by exact Vc.xt))).mono ?_;rintro _ H2 ⟨rfl,hx2⟩;have hz2:=hx2.size)|(rename_i Hl zl bl xl;refine DoH.store_all bl rfl (by kernel_rfl) (by kernel_rfl) (by decide) ?_;intro H3 z3 b3 k3)|refine Vc.stp ?_)<;>(intros;(conv=>whnf)))))
   have hx13:Ext H1 H3:=by exact Vc.xt
   exact⟨⟨i+1,W,wa,wc,out,oa,oc⟩,⟨rfl,rfl,rfl,trivial⟩,⟨hg.skip hn (.inr fun p hp e=>by have:=List.find?_eq_none.1 hf p hp;simp[e]at this),hw1.ext hx13,hwc,ho1.ext hx13,hwl,hx1.trans hx13⟩,by show(pn-out.length)*1001+(W.length-(i+1))<_;omega⟩
  |some p=>
   rw[hf]at hpin
   have hpm:=List.mem_of_find?_eq_some hf
   have hpn2:p.name=n.name:=by have:=List.find?_some hf;simpa using this
   obtain⟨r,hr,hrp⟩:=hrow p hpm
   by_cases hmem:p.name∈out
   ·have hin2: ∀ H',Row H' oa (strs out)→CallH Tryz.prog 61 [.slice oa out.length oc,.string (mkS p.name)] H' fun x H''=>x= .bool true∧H'=H'':=fun H' h'=>(rin_any out p.name oa out.length oc H' h' rfl (by omega)).mono fun x H'' ⟨e1,e2⟩=>⟨by rw[e1,decide_eq_true hmem],e2⟩
    ((conv=>whnf);repeat(any_goals((first|(refine IdxA.need hw1.row rfl i n rfl hn ?_;intro b o c hcN hcl hc0)|(refine(hpin _ (hx1.trans (by exact Vc.xt))).mono ?_;rintro _ H2 ⟨⟨cp,rfl,hcp⟩,hx2⟩;have hz2:=hx2.size)|(rename_i Hl zl bl xl;refine DoH.store_list bl rfl (by rw[pin_ok.len hcp];rfl) (by rw[pin_ok.len hcp];rfl) (pin_ok.plain hcp) ?_;intro H3 z3 b3 k3;obtain⟨qa,qc,ecp,h32,hql,hqr⟩:=(id hcp);have hq0:hcell H3 ⟨H2.size,0+0,none⟩=some (.string (mkS p.name)):=blk_list b3 0 0 _ (by rw[ecp];rfl))|(refine(hin2 _ (ho1.row.ext (by exact Vc.xt))).mono ?_;rintro _ _ ⟨rfl,rfl⟩)|refine Vc.stp ?_)<;>(intros;(conv=>whnf)))))
    have hx13:Ext H1 H3:=by exact Vc.xt
    exact⟨⟨i+1,W,wa,wc,out,oa,oc⟩,⟨rfl,rfl,rfl,trivial⟩,⟨hg.skip hn (.inl (by rw[←hpn2];exact hmem)),hw1.ext hx13,hwc,ho1.ext hx13,hwl,hx1.trans hx13⟩,by show(pn-out.length)*1001+(W.length-(i+1))<_;omega⟩
   ·have hin2: ∀ H',Row H' oa (strs out)→CallH Tryz.prog 61 [.slice oa out.length oc,.string (mkS p.name)] H' fun x H''=>x= .bool false∧H'=H'':=fun H' h'=>(rin_any out p.name oa out.length oc H' h' rfl (by omega)).mono fun x H'' ⟨e1,e2⟩=>⟨by rw[e1,decide_eq_false hmem],e2⟩
    obtain⟨ri,hri⟩:=List.getElem?_of_mem hr
    have hidx:idxR R p.name p.v=some ri:=by rw[←hrp];exact idx_of ha hri
    have hpv:VerB p.v:=by rw[←hrp];exact rows_ver hRB r hr
    have hrow2:=fun H' (k:Ext H H') cp hcp=>rrow_any R p hpv (rows_ver hRB) ra rn rc cp H H' k hR hrn (by omega) hcp
    rw[hidx]at hrow2
    have hgp:=hg.push ha hs hn (by rw[←hpn2];exact hmem) hr (by rw[hrp];exact hpm) (by rw[←hpn2,←hrp];rfl)
    have hrnl:=hRB.needs r hr
    have hol3:=hgp.len
    rw[List.length_append,List.length_singleton]at hol3
    obtain⟨M,hM⟩: ∃ M,r.needs.length=M:=⟨_,rfl⟩
    cases M with
    |zero=>
     ((conv=>whnf);repeat(any_goals((first|(refine IdxA.need hw1.row rfl i n rfl hn ?_;intro b o c hcN hcl hc0)|(refine(hpin _ (hx1.trans (by exact Vc.xt))).mono ?_;rintro _ H2 ⟨⟨cp,rfl,hcp⟩,hx2⟩;have hz2:=hx2.size)|(rename_i Hl zl bl xl;refine DoH.store_list bl rfl (by rw[pin_ok.len hcp];rfl) (by rw[pin_ok.len hcp];rfl) (pin_ok.plain hcp) ?_;intro H3 z3 b3 k3;obtain⟨qa,qc,ecp,h32,hql,hqr⟩:=(id hcp);have hq0:hcell H3 ⟨H2.size,0+0,none⟩=some (.string (mkS p.name)):=blk_list b3 0 0 _ (by rw[ecp];rfl))|(refine(hin2 _ (ho1.row.ext (by exact Vc.xt))).mono ?_;rintro _ _ ⟨rfl,rfl⟩)|((fail_if_success (have:=hw6));rename_i Hm zm bm xm;refine NextH.push1b bm (ho1.ext (by exact Vc.xt)) (by omega) (by omega) rfl ⟨_,rfl,fun _ h=>by cases h⟩ rfl rfl rfl rfl rfl rfl rfl ?_;intro a6 c6 H6 ho6 hz6 hw6;have hob:=fun q hq=>(ho1.block q hq);have b6:=(b3.ext xm).keep hw6 (fun⟨q,hq,e⟩=>by have:=hob q hq;omega);have hw16:=(hw1.ext (show Ext H1 Hm by exact Vc.xt)).wr (ho1.ext (show Ext H1 Hm by exact Vc.xt)) hw6;have hx6:Ext H H6:=ext_wrO (hx1.trans (show Ext H1 Hm by exact Vc.xt)) hob hw6)|((with_reducible apply SemH.load_pin);(exact pin_ok.len hcp);(exact fun k u hu=>blk_list b6 0 k u (by rw[Nat.zero_add];exact hu));(exact Ext.refl _);(conv=>whnf))|(refine(hrow2 _ hx6 cp hcp).mono ?_;rintro _ H7 ⟨⟨r7,cr,hr7,rfl,hcr⟩,hx7⟩;have hz7:=hx7.size;rw[hri]at hr7;have e7:=Option.some.inj hr7;subst e7)|(rename_i Hq zq bq xq;refine DoH.store_list bq rfl (by rw[row_ok.len hcr];rfl) (by rw[row_ok.len hcr];rfl) (row_ok.plain hcr) ?_;intro H8 z8 b8 k8;obtain⟨sa,sc,ma,mc,er,r32,_,_,hnl7,hnr7⟩:=(id hcr);have hn38:hcell H8 ⟨H7.size,0+38,none⟩=some (.slice ma r.needs.length mc):=blk_list b8 0 38 _ (by rw[Nat.zero_add];exact(row_last er (by rw[strV_length];exact r32)).2);rw[hM]at hn38;have hx68:Ext H6 H8:=(hx7.trans xq).but k8 (by omega))|refine Vc.stp ?_)<;>(intros;(conv=>whnf)))))
     ((conv=>whnf);repeat(any_goals((first|(refine BndH.nat W.length rfl (by omega) ?_)|refine Vc.stp ?_)<;>(intros;(conv=>whnf)))))
     refine NextH.app0 rfl ⟨_,rfl,fun _ h=>by cases h⟩ rfl (Nat.le_refl _) ?_
     ((conv=>whnf);repeat(any_goals((first|refine Vc.stp ?_)<;>(intros;(conv=>whnf)))))
     have hx8:Ext H H8:=hx6.trans hx68
     have hrn8:(out++[n.name]).length=out.length+1:=by simp
     have e6:Own H8 H.size 9 1 a6 (out++[n.name]).length c6 (strs (out++[n.name])):=by rw[←hpn2];exact(own_snocS rfl ho6).ext hx68
     have hW:W++r.needs=W:=by rw[List.eq_nil_of_length_eq_zero hM,List.append_nil]
     rw[hW]at hgp
     exact⟨⟨i+1,W,wa,W.length,out++[n.name],a6,c6⟩,⟨rfl,rfl,by show Value.slice _ _ _=Value.slice _ _ _;rw[hrn8],trivial⟩,⟨hgp,hw16.ext hx68,Nat.le_refl _,e6,by show W.length≤nn+(out++[n.name]).length*1000;rw[hrn8];omega,hx8⟩,by show(pn-(out++[n.name]).length)*1001+(W.length-(i+1))<_;rw[hrn8];omega⟩
    |succ m=>
     ((conv=>whnf);repeat(any_goals((first|(refine IdxA.need hw1.row rfl i n rfl hn ?_;intro b o c hcN hcl hc0)|(refine(hpin _ (hx1.trans (by exact Vc.xt))).mono ?_;rintro _ H2 ⟨⟨cp,rfl,hcp⟩,hx2⟩;have hz2:=hx2.size)|(rename_i Hl zl bl xl;refine DoH.store_list bl rfl (by rw[pin_ok.len hcp];rfl) (by rw[pin_ok.len hcp];rfl) (pin_ok.plain hcp) ?_;intro H3 z3 b3 k3;obtain⟨qa,qc,ecp,h32,hql,hqr⟩:=(id hcp);have hq0:hcell H3 ⟨H2.size,0+0,none⟩=some (.string (mkS p.name)):=blk_list b3 0 0 _ (by rw[ecp];rfl))|(refine(hin2 _ (ho1.row.ext (by exact Vc.xt))).mono ?_;rintro _ _ ⟨rfl,rfl⟩)|((fail_if_success (have:=hw6));rename_i Hm zm bm xm;refine NextH.push1b bm (ho1.ext (by exact Vc.xt)) (by omega) (by omega) rfl ⟨_,rfl,fun _ h=>by cases h⟩ rfl rfl rfl rfl rfl rfl rfl ?_;intro a6 c6 H6 ho6 hz6 hw6;have hob:=fun q hq=>(ho1.block q hq);have b6:=(b3.ext xm).keep hw6 (fun⟨q,hq,e⟩=>by have:=hob q hq;omega);have hw16:=(hw1.ext (show Ext H1 Hm by exact Vc.xt)).wr (ho1.ext (show Ext H1 Hm by exact Vc.xt)) hw6;have hx6:Ext H H6:=ext_wrO (hx1.trans (show Ext H1 Hm by exact Vc.xt)) hob hw6)|((with_reducible apply SemH.load_pin);(exact pin_ok.len hcp);(exact fun k u hu=>blk_list b6 0 k u (by rw[Nat.zero_add];exact hu));(exact Ext.refl _);(conv=>whnf))|(refine(hrow2 _ hx6 cp hcp).mono ?_;rintro _ H7 ⟨⟨r7,cr,hr7,rfl,hcr⟩,hx7⟩;have hz7:=hx7.size;rw[hri]at hr7;have e7:=Option.some.inj hr7;subst e7)|(rename_i Hq zq bq xq;refine DoH.store_list bq rfl (by rw[row_ok.len hcr];rfl) (by rw[row_ok.len hcr];rfl) (row_ok.plain hcr) ?_;intro H8 z8 b8 k8;obtain⟨sa,sc,ma,mc,er,r32,_,_,hnl7,hnr7⟩:=(id hcr);have hn38:hcell H8 ⟨H7.size,0+38,none⟩=some (.slice ma r.needs.length mc):=blk_list b8 0 38 _ (by rw[Nat.zero_add];exact(row_last er (by rw[strV_length];exact r32)).2);rw[hM]at hn38;have hx68:Ext H6 H8:=(hx7.trans xq).but k8 (by omega))|refine Vc.stp ?_)<;>(intros;(conv=>whnf)))))
     ((conv=>whnf);repeat(any_goals((first|(refine BndH.nat W.length rfl (by omega) ?_)|refine Vc.stp ?_)<;>(intros;(conv=>whnf)))))
     refine NextH.full1 ok.ok rfl ⟨_,rfl,fun _ h=>by cases h⟩ rfl rfl rfl rfl (by decide) (hw16.row.ext ok.ok hx68) rfl (hnr7.const.ext ok.ok (hx6.trans hx68)) hM (by omega) (by omega) ?_
     intro c9 H9 ho9 hx9
     ((conv=>whnf);repeat(any_goals((first|refine Vc.stp ?_)<;>(intros;(conv=>whnf)))))
     have hx8:Ext H H8:=hx6.trans hx68
     have hrn8:(out++[n.name]).length=out.length+1:=by simp
     have e6:Own H8 H.size 9 1 a6 (out++[n.name]).length c6 (strs (out++[n.name])):=by rw[←hpn2];exact(own_snocS rfl ho6).ext hx68
     have hcl9:=ho9.cap_le
     have hWl:(W++r.needs).length=W.length+(m+1):=by rw[List.length_append,hM]
     exact⟨⟨i+1,W++r.needs,some ⟨H8.size,0,none⟩,c9,out++[n.name],a6,c6⟩,⟨rfl,by show Value.slice _ _ _=Value.slice _ _ _;rw[hWl],by show Value.slice _ _ _=Value.slice _ _ _;rw[hrn8],trivial⟩,⟨hgp,⟨ho9.row,fun _ p hp=> .inr (ho9.typ p hp)⟩,hcl9,e6.ext hx9,by show(W++r.needs).length≤nn+(out++[n.name]).length*1000;rw[hrn8,hWl];omega,hx8.trans hx9⟩,by show(pn-(out++[n.name]).length)*1001+((W++r.needs).length-(i+1))<_;rw[hrn8,hWl];omega⟩
 ·obtain rfl:i=W.length:=by omega
  ((conv=>whnf);repeat(any_goals((first|refine Vc.stp ?_)<;>(intros;(conv=>whnf)))))
  exact⟨⟨out,W,oa,oc,rfl,hg⟩,hx1⟩
end Go.Proofs.YtjdieklgoepdjaaGreatDoor
namespace Go.Slv
open Go.Scr Go.Tre
theorem preT_small {l:List Txt} (h:l.length≤5) (hm: ∀ m∈l,m.length≤16):(preT l).length≤1000:=by
 have key: ∀ l:List Txt,(∀ m∈l,m.length≤16)→((l.map fun x=>(46:UInt8)::x).flatten).length≤17*l.length:=by
  intro l
  induction l with
  |nil=>intro _;simp
  |cons x l ih=>
   intro h
   have h1:=ih fun m hm=>h m (List.mem_cons_of_mem _ hm)
   have h2:=h x List.mem_cons_self
   rw[List.map_cons,List.flatten_cons,List.length_append,List.length_cons,List.length_cons];omega
 cases l with
 |nil=>simp[preT]
 |cons x l=>
  have h1:=key l fun m hm'=>hm m (List.mem_cons_of_mem _ hm')
  have h2:=hm x List.mem_cons_self
  simp only[List.length_cons]at h
  unfold preT
  rw[List.length_cons,List.length_append];omega
end Go.Slv
namespace Go.Proofs.YtjdieklgoepdjaaGreatDoor
open Go Go.Vc Go.Scr Go.Slv
theorem metB_iff {P:List PinP} (hs:SortP P) (n:NeedP):metB P n=true↔MetP P n:=by
 unfold metB
 constructor
 ·intro h
  cases hf:findP P n.name with
  |none=>rw[hf]at h;cases h
  |some p=>
   rw[hf]at h
   have h1:=List.find?_some hf
   exact⟨p,List.mem_of_find?_eq_some hf,by simpa using h1,h⟩
 ·rintro⟨p,hp,e,h⟩
  have:findP P n.name=some p:=by rw[←e];exact find_sorted hs hp
  rw[this];exact h
theorem IdxA.pin {H0:Heap} {a:Option Addr} {l:List PinP} {n:Nat} {i:Int} {K:Addr→Prop} (h:RowE pinE H0 a l) (hn:l.length=n) (j:Nat) (x:PinP) (hi:i=j) (hx:l[j]? =some x)
  (hk: ∀ b o c pa pc,pinE H0 x c→c.length=37→x.v.pre.length≤pc→Row H0 pa (strs x.v.pre)→(∀ k u,c[k]? =some u→hcell H0 ⟨b,o+k,none⟩=some u)→hcell H0 ⟨b,o+0,none⟩=some (.string (mkS x.name))→(∀ (k:Nat) (u:Value),([.int .i64 x.v.ma,.int .i64 x.v.mi,.int .i64 x.v.pa,.slice pa x.v.pre.length pc]:List Value)[k]? =some u→hcell H0 ⟨b,o+1+k,none⟩=some u)→K ⟨b,o,none⟩):IdxA a n 37 i K:=
 IdxA.el pin_ok (by decide) h hn j x hi hx fun b o c h1 h2=>by
  obtain⟨pa,pc,ec,h32,hpl,hpr⟩:=(id h1)
  exact hk b o c pa pc h1 (pin_ok.len h1) hpl hpr h2 (h2 0 _ (by rw[ec];rfl)) fun k u hu=>by rw[Nat.add_assoc,Nat.add_comm 1 k];exact h2 (k+1) u (pin_ver ec k u hu)
end Go.Proofs.YtjdieklgoepdjaaGreatDoor
namespace Go.Vc
theorem RowE.strs {H:Heap} {a:Option Addr} {l:List Bs} (h:RowE strE H a l):Row H a (strs l):=by
 obtain⟨vs,h1,h2⟩:=h.out
 rw[h2.strs_eq]at h1;exact h1
theorem Row.strE {H:Heap} {a:Option Addr} {l:List Bs} (h:Row H a (strs l)):RowE strE H a l:=⟨_,h,lst_strs H l⟩
end Go.Vc
namespace Go.Slv
open Go.Scr Go.Tre
theorem vers_at {R:List RowP} {k:Txt} {n i:Nat} {v:VerP} (h:(versF R k n)[i]? =some v): ∃ ri r,(candsF R k n)[i]? =some ri∧R[ri]? =some r∧r.name=k∧r.v=v:=by
 unfold versF at h
 rw[List.getElem?_map]at h
 obtain⟨ri,h1,h2⟩:=Option.map_eq_some_iff.1 h
 obtain⟨_,r,h3,h4⟩:=(cands_mem R k n ri).1 (List.mem_of_getElem? h1)
 refine⟨ri,r,h1,h3,h4,?_⟩
 rw[←h2];unfold verAt;rw[h3]
theorem pins_fits {R:List RowP} (ha:Apart R) {N:List NeedP} {ks:List Txt} {P:List PinP} (h:PinsOk R ks P):FitP R N P↔Sol R N (choP R P):=
 ⟨fun hf=>((fits_fit ha).2 hf).sol,fun hs=>(fits_fit ha).1 ⟨h.sorted,fun p hp=>(h.row p hp).2,hs⟩⟩
end Go.Slv
namespace Go.Proofs.YtjdieklgoepdjaaGreatDoor
open Go Go.Vc Go.Scr Go.Slv
theorem uncons32 {l:List UInt8} {n:Nat} (h:l.length=n+1): ∃ b t,l=b::t∧t.length=n:=by
 cases l with
 |nil=>simp at h
 |cons b t=>exact⟨b,t,rfl,by simpa using h⟩
def pinL (s:Bs) (v:VerP) (sum:List UInt8) (a:Option Addr) (c:Nat):List Value:=[.string (mkS s),.int .i64 v.ma,.int .i64 v.mi,.int .i64 v.pa,.slice a v.pre.length c]++strV sum
theorem pin_built {s:Bs} {v:VerP} {l:List UInt8} {a:Option Addr} {c:Nat} (h:l.length=32):Go.Program.built Tryz.prog 52 [(0,.string (mkS s)),(1,verC v a c),(2,.agg (strV l).toArray)]=some (pinL s v l a c).toArray:=by
 obtain⟨b0,l0,rfl,h0⟩:=uncons32 h
 obtain⟨b1,l1,rfl,h1⟩:=uncons32 h0
 obtain⟨b2,l2,rfl,h2⟩:=uncons32 h1
 obtain⟨b3,l3,rfl,h3⟩:=uncons32 h2
 obtain⟨b4,l4,rfl,h4⟩:=uncons32 h3
 obtain⟨b5,l5,rfl,h5⟩:=uncons32 h4
 obtain⟨b6,l6,rfl,h6⟩:=uncons32 h5
 obtain⟨b7,l7,rfl,h7⟩:=uncons32 h6
 obtain⟨b8,l8,rfl,h8⟩:=uncons32 h7
 obtain⟨b9,l9,rfl,h9⟩:=uncons32 h8
 obtain⟨b10,l10,rfl,h10⟩:=uncons32 h9
 obtain⟨b11,l11,rfl,h11⟩:=uncons32 h10
 obtain⟨b12,l12,rfl,h12⟩:=uncons32 h11
 obtain⟨b13,l13,rfl,h13⟩:=uncons32 h12
 obtain⟨b14,l14,rfl,h14⟩:=uncons32 h13
 obtain⟨b15,l15,rfl,h15⟩:=uncons32 h14
 obtain⟨b16,l16,rfl,h16⟩:=uncons32 h15
 obtain⟨b17,l17,rfl,h17⟩:=uncons32 h16
 obtain⟨b18,l18,rfl,h18⟩:=uncons32 h17
 obtain⟨b19,l19,rfl,h19⟩:=uncons32 h18
 obtain⟨b20,l20,rfl,h20⟩:=uncons32 h19
 obtain⟨b21,l21,rfl,h21⟩:=uncons32 h20
 obtain⟨b22,l22,rfl,h22⟩:=uncons32 h21
 obtain⟨b23,l23,rfl,h23⟩:=uncons32 h22
 obtain⟨b24,l24,rfl,h24⟩:=uncons32 h23
 obtain⟨b25,l25,rfl,h25⟩:=uncons32 h24
 obtain⟨b26,l26,rfl,h26⟩:=uncons32 h25
 obtain⟨b27,l27,rfl,h27⟩:=uncons32 h26
 obtain⟨b28,l28,rfl,h28⟩:=uncons32 h27
 obtain⟨b29,l29,rfl,h29⟩:=uncons32 h28
 obtain⟨b30,l30,rfl,h30⟩:=uncons32 h29
 obtain⟨b31,l31,rfl,h31⟩:=uncons32 h30
 rw[List.eq_nil_of_length_eq_zero h31]
 kernel_rfl
theorem pinL_len {s:Bs} {v:VerP} {l:List UInt8} {a:Option Addr} {c:Nat} (h:l.length=32):(pinL s v l a c).length=37:=by
 unfold pinL;rw[List.length_append,strV_length,h];rfl
theorem SemH.pinLit {H:Heap} {c:List Value} {K:Value→Heap→Prop} (op:Operand) (hl:c.length=37) (hk: ∀ H',H'.size=H.size+1→Blk H' H.size c.toArray 52→Ext H H'→K (.slice (some ⟨H.size,0,none⟩) 1 1) H'):
  SemH Tryz.prog (Instr.buildSlice 32 1 ((List.map (fun x:Nat×Operand=>x.1) (#[(0,op)]:Array (Nat×Operand)).toList).zip [.agg c.toArray]).toArray) H K:=by
 refine SemH.lit (vs:=[.agg c.toArray]) rfl rfl rfl rfl rfl rfl ?_ fun H' h1 h2 h3=>hk H' h1 ?_ h3
 ·show(Nat.beq c.toArray.size 37&&true)=true
  rw[List.size_toArray,hl];rfl
 ·simpa [Value.cells]using h2
end Go.Proofs.YtjdieklgoepdjaaGreatDoor
