import Derived.Test.YtjdieklgoepdjaaGreatDoorKb
import Derived.Test.YtjdieklgoepdjaaGreatDoorRows
import Derived.Test.YtjdieklgoepdjaaGreatDoorKc
import Derived.Shelf.Strings.Builder1
import Derived.Shelf.Strings.OnBuilder
import Derived.Test.YtjdieklgoepdjaaGreatDoorProg
import Derived.Lib.Join
import Derived.Shelf.LaysM
import Derived.Shelf.Strconv.Itoa3
set_option linter.unusedVariables false
set_option linter.unusedSimpArgs false
set_option maxRecDepth 100000
/- Texts cut at a byte. -/
namespace Go.Scr
theorem splitF_ne (c:UInt8): ∀ l:Txt,splitF c l≠ []
 |[]=>by simp[splitF]
 |x::t=>by
  unfold splitF
  split
  ·simp
  ·cases h:splitF c t<;>simp
theorem splitF_len (c:UInt8): ∀ l:Txt,(splitF c l).length≤l.length+1∧ ∀ x∈splitF c l,x.length≤l.length
 |[]=>by simp[splitF]
 |x::t=>by
  obtain⟨h1,h2⟩:=splitF_len c t
  unfold splitF
  simp only[List.length_cons]
  split
  ·refine⟨by simp only[List.length_cons];omega,fun y hy=> ?_⟩
   rcases List.mem_cons.1 hy with rfl|hy
   ·simp
   ·have:=h2 y hy;omega
  ·cases h:splitF c t with
   |nil=>exact absurd h (splitF_ne c t)
   |cons w l=>
    rw[h]at h1 h2
    simp only[List.length_cons]at h1
    refine⟨by simp only[List.length_cons];omega,fun y hy=> ?_⟩
    rcases List.mem_cons.1 hy with rfl|hy
    ·have:=h2 w (by simp);simp only[List.length_cons];omega
    ·have:=h2 y (by simp[hy]);omega
theorem split_len (c:UInt8): ∀ (s:Txt),∀ l∈splitF c s,l.length≤s.length
 |[],l,h=>by simp[splitF]at h;subst h;simp
 |x::t,l,h=>by
  have ih:=split_len c t
  unfold splitF at h
  rw[List.length_cons]
  split at h
  ·rcases List.mem_cons.1 h with rfl|h
   ·simp
   ·have:=ih l h;omega
  ·split at h
   ·rw[List.mem_singleton]at h;subst h;simp
   ·rename_i w ls he
    rw[he]at ih
    rcases List.mem_cons.1 h with rfl|h
    ·have:=ih w (by simp);rw[List.length_cons];omega
    ·have:=ih l (List.mem_cons_of_mem _ h);omega
end Go.Scr
namespace Go.Vc
variable {P:Program} {H:Heap}
theorem PureH.build2 {P:Program} {t:TypeId} {l:List Nat} {v v':Value} {K:Value→Prop} (cells:Array Value) (h:P.built t (l.zip [v,v'])=some cells) (hk:K (.agg cells)):PureH P (Instr.build t (l.zip [v,v']).toArray) K:=
 PureH.build cells h hk
theorem PureH.build3 {P:Program} {t:TypeId} {l:List Nat} {v v' v'':Value} {K:Value→Prop} (cells:Array Value) (h:P.built t (l.zip [v,v',v''])=some cells) (hk:K (.agg cells)):PureH P (Instr.build t (l.zip [v,v',v'']).toArray) K:=
 PureH.build cells h hk
end Go.Vc
namespace Go.Scr
def glueF (cur:Txt):List Txt→List Txt
 |[]=>[cur]
 |w::l=>(cur++w)::l
theorem glueF_nil (l:List Txt) (h:l≠ []):glueF [] l=l:=by cases l with|nil=>exact absurd rfl h|cons w l=>rfl
theorem glueF_step {c x:UInt8} (h:x≠c) (cur t:Txt):glueF cur (splitF c (x::t))=glueF (cur++[x]) (splitF c t):=by
 rw[splitF,if_neg h]
 cases splitF c t with
 |nil=>rfl
 |cons w l=>simp[glueF]
theorem glueF_cut (c:UInt8) (cur t:Txt):glueF cur (splitF c (c::t))=cur::splitF c t:=by
 rw[splitF,if_pos rfl];simp[glueF]
def mid (l:Txt) (a b:Nat):Txt:=(l.drop a).take (b-a)
theorem mid_self (l:Txt) (a:Nat):mid l a a=[]:=by simp[mid]
theorem mid_snoc {l:Txt} {a b:Nat} {c:UInt8} {t:Txt} (hab:a≤b) (h:l.drop b=c::t):mid l a (b+1)=mid l a b++[c]:=by
 unfold mid
 have e:b+1-a=(b-a)+1:=by omega
 have h2:(l.drop a).drop (b-a)=c::t:=by rw[List.drop_drop,show a+(b-a)=b by omega];exact h
 rw[e,List.take_add_one]
 congr 1
 have:=congrArg (·[0]?) h2
 simp only[List.getElem?_drop,List.getElem?_cons_zero]at this
 simp only[List.getElem?_drop]
 have h3:(0:Nat)+(a+(b-a))=a+(b-a):=by omega
 simp at this
 simp[this]
end Go.Scr
namespace Go.Proofs.YtjdieklgoepdjaaGreatDoor
open Go Go.Vc Go.Scr
structure SSt where
 i:Nat
 fr:Nat
 out:List Bs
 a:Option Addr
 cap:Nat
def splitI (s:Bs) (c:UInt8) (x:SSt):List Bs:=if x.i≤s.length then x.out++glueF (mid s x.fr x.i) (splitF c (s.drop x.i))else x.out
set_option maxHeartbeats 4000000 in
theorem rsplit_any (s:Bs) (c:UInt8) (hl:s.length≤100000000) (H:Heap):CallH Tryz.prog 73 [.string (mkS s),.int .u8 c.toNat] H fun v H'=>(∃ a cap,v= .slice a (splitF c s).length cap∧Own H' H.size 9 1 a (splitF c s).length cap (strs (splitF c s)))∧Ext H H':=by
 obtain⟨S,hS⟩: ∃ S,splitF c s=S:=⟨_,rfl⟩
 rw[hS]
 have hsz:(mkS s).size=s.length:=rfl
 refine Vc.CallH.body Tryz.func73 Tryz.call73 rfl (by decide+kernel) rfl ?_
 ((conv=>whnf);repeat(any_goals(first|(refine Vc.sts ?_;(conv=>whnf)))))
 refine LoopH.intro (fun(x:SSt)=>[(7,.int .i64 x.i),(6,.int .i64 x.fr),(5,.slice x.a x.out.length x.cap)]) (fun x H'=>x.i≤s.length+1∧x.fr≤x.i∧x.out.length≤x.i∧S=splitI s c x∧Own H' H.size 9 1 x.a x.out.length x.cap (strs x.out)∧Ext H H') (fun x=>s.length+1-x.i) ⟨0,0,[],none,0⟩ ⟨rfl,rfl,rfl,trivial⟩ ⟨Nat.zero_le _,Nat.le_refl _,Nat.le_refl _,?_,Own.nil _ _ _ _,Ext.refl _⟩ ?_
 ·unfold splitI
  rw[if_pos (Nat.zero_le _)]
  show S=glueF [] (splitF c s)
  rw[glueF_nil _ (splitF_ne c s),hS]
 rintro⟨i,fr,out,a,cap⟩ H2 ⟨hi,hfr,hol,hinv,ho2,hx2⟩
 dsimp only at hi hfr hol hinv ho2 ⊢
 unfold splitI at hinv
 dsimp only at hinv
 have hxe:(mkS s).extract fr i=mkS (mid s fr i):=mkS_ext _ _ _
 by_cases hle:i≤s.length
 ·rw[if_pos hle]at hinv
  by_cases hlt:i<s.length
  ·obtain⟨d,hd,hdr⟩:=drop_get hlt
   rw[hdr]at hinv
   by_cases hdc:d=c
   ·subst hdc
    rw[glueF_cut]at hinv
    ((conv=>whnf);repeat(any_goals((first|(refine IdxH.nat i rfl (by omega) ?_;(conv=>whnf);rw[hd])|(refine BndH.nat fr rfl (by omega) ?_)|(refine BndH.nat i rfl (by omega) ?_)|refine Vc.stp ?_|refine Vc.spl ?_ ?_)<;>(intros;(conv=>whnf)))))
    rename_i H5 hs5 hb5 hx5 a6 c6 H6 ho6 hx6
    refine⟨⟨i+1,i+1,out++[mid s fr i],a6,c6⟩,⟨rfl,rfl,sl_snocS _ _ _ _,trivial⟩,⟨by show i+1≤_;omega,Nat.le_refl _,by show(out++[_]).length≤i+1;simp;omega,?_,own_snocS hxe ho6,hx6⟩,by show s.length+1-(i+1)<s.length+1-i;omega⟩
    unfold splitI
    rw[if_pos (show i+1≤s.length by omega),hinv]
    show _=(out++[mid s fr i])++glueF (mid s (i+1) (i+1)) (splitF d (s.drop (i+1)))
    rw[mid_self,glueF_nil _ (splitF_ne _ _)];simp
   ·have hne:d.toNat≠c.toNat:=fun e=>hdc (UInt8.toNat_inj.1 e)
    rw[glueF_step hdc,←mid_snoc hfr hdr]at hinv
    ((conv=>whnf);repeat(any_goals((first|(refine IdxH.nat i rfl (by omega) ?_;(conv=>whnf);rw[hd])|refine Vc.stp ?_|refine Vc.spl ?_ ?_)<;>(intros;(conv=>whnf)))))
    refine⟨⟨i+1,fr,out,a,cap⟩,⟨rfl,rfl,rfl,trivial⟩,⟨by show i+1≤_;omega,by show fr≤i+1;omega,by show out.length≤i+1;omega,?_,ho2,hx2⟩,by show s.length+1-(i+1)<s.length+1-i;omega⟩
    unfold splitI
    rw[if_pos (show i+1≤s.length by omega),hinv]
  ·have hil:i=s.length:=by omega
   subst hil
   rw[List.drop_of_length_le (by omega)]at hinv
   ((conv=>whnf);repeat(any_goals((first|(refine BndH.nat fr rfl (by omega) ?_)|(refine BndH.nat s.length rfl (by omega) ?_)|refine Vc.stp ?_|refine Vc.spl ?_ ?_)<;>(intros;(conv=>whnf)))))
   rename_i H5 hs5 hb5 hx5 a6 c6 H6 ho6 hx6
   refine⟨⟨s.length+1,s.length+1,out++[mid s fr s.length],a6,c6⟩,⟨rfl,rfl,sl_snocS _ _ _ _,trivial⟩,⟨Nat.le_refl _,Nat.le_refl _,by show(out++[_]).length≤s.length+1;simp;omega,?_,own_snocS hxe ho6,hx6⟩,by show s.length+1-(s.length+1)<s.length+1-s.length;omega⟩
   unfold splitI
   rw[if_neg (show ¬s.length+1≤s.length by omega),hinv]
   show _=out++[mid s fr s.length]
   unfold splitF glueF;simp
 ·rw[if_neg hle]at hinv
  ((conv=>whnf);repeat(any_goals((first|refine Vc.stp ?_|refine Vc.spl ?_ ?_)<;>(intros;(conv=>whnf)))))
  rw[hinv]
  exact⟨⟨a,cap,rfl,ho2⟩,hx2⟩
end Go.Proofs.YtjdieklgoepdjaaGreatDoor
namespace Go.Slv
open Go.Scr
theorem digB_t {c:UInt8} (h1:48≤c.toNat) (h2:c.toNat≤57):digB c=true:=by unfold digB;rw[decide_eq_true_eq];exact⟨h1,h2⟩
theorem digB_f {c:UInt8} (h:c.toNat<48∨57<c.toNat):digB c=false:=by unfold digB;rw[decide_eq_false_iff_not];omega
def valF:Nat→Txt→Nat
 |n,[]=>n
 |n,c::t=>valF (10*n+(c.toNat-48)) t
def numF (most:Nat) (s:Txt):Option Nat:=if digP s=true∧(s.length≤1∨s.head? ≠some 48)∧s.length≤10∧valF 0 s≤most then some (valF 0 s)else none
def signB (c:UInt8):Bool:=decide (97≤c.toNat∧c.toNat≤122) || decide (65≤c.toNat∧c.toNat≤90) || digB c || decide (c.toNat=45)
def markP (s:Txt):Bool:=decide (1≤s.length)&&decide (s.length≤16)&&s.all signB&&(!digP s || decide (s=[48]) || decide (s.head? ≠some 48))
theorem signB_iff (c:UInt8):signB c=true↔(97≤c.toNat∧c.toNat≤122)∨(65≤c.toNat∧c.toNat≤90)∨(48≤c.toNat∧c.toNat≤57)∨c.toNat=45:=by
 unfold signB digB
 simp only[Bool.or_eq_true,decide_eq_true_eq,or_assoc]
end Go.Slv
namespace Go.Proofs.YtjdieklgoepdjaaGreatDoor
open Go Go.Vc Go.Scr Go.Slv
theorem rdigits_any (s:Bs) (hl:s.length≤1000000000) (H:Heap):CallH Tryz.prog 97 [.string (mkS s)] H fun v H'=>v= .bool (digP s)∧H=H':=by
 have hsz:(mkS s).size=s.length:=rfl
 refine Vc.CallH.body Tryz.func97 Tryz.call97 rfl (by decide+kernel) rfl ?_
 ((conv=>whnf);repeat(any_goals((first|refine Vc.stp ?_)<;>(intros;(conv=>whnf)))))
 refine LoopH.intro (fun(i:Nat)=>[(3,.int .i64 i)]) (fun i H'=>H=H'∧i≤s.length∧s.all digB=(s.drop i).all digB) (fun i=>s.length-i) 0 ⟨rfl,trivial⟩ ⟨rfl,Nat.zero_le _,rfl⟩ ?_
 rintro i _ ⟨rfl,hi,hinv⟩
 by_cases hlt:i<s.length
 ·obtain⟨c,hc,hd⟩:=drop_get hlt
  rw[hd,List.all_cons]at hinv
  have hc8:=c.toNat_lt
  by_cases h1:c.toNat<48
  ·rw[digB_f (.inl h1),Bool.false_and]at hinv
   ((conv=>whnf);repeat(any_goals((first|(refine IdxH.nat i rfl (by omega) ?_;(conv=>whnf);rw[hc])|refine Vc.stp ?_)<;>(intros;(conv=>whnf)))))
   exact⟨by unfold digP;rw[hinv,Bool.and_false];rfl,rfl⟩
  by_cases h2:57<c.toNat
  ·rw[digB_f (.inr h2),Bool.false_and]at hinv
   ((conv=>whnf);repeat(any_goals((first|(refine IdxH.nat i rfl (by omega) ?_;(conv=>whnf);rw[hc])|refine Vc.stp ?_)<;>(intros;(conv=>whnf)))))
   exact⟨by unfold digP;rw[hinv,Bool.and_false];rfl,rfl⟩
  ·rw[digB_t (by omega) (by omega),Bool.true_and]at hinv
   ((conv=>whnf);repeat(any_goals((first|(refine IdxH.nat i rfl (by omega) ?_;(conv=>whnf);rw[hc])|refine Vc.stp ?_)<;>(intros;(conv=>whnf)))))
   exact⟨i+1,⟨rfl,trivial⟩,⟨rfl,by omega,hinv⟩,by omega⟩
 ·rw[List.drop_of_length_le (by omega),List.all_nil]at hinv
  cases s with
  |nil=>
   ((conv=>whnf);repeat(any_goals((first|refine Vc.stp ?_)<;>(intros;(conv=>whnf)))))
   exact⟨by show Value.bool (!((mkS []).toList==(mkS []).toList))=_;rw[beq_self_eq_true];rfl,rfl⟩
  |cons c t=>
   have hne:=ne_empty c t
   have hdp:digP (c::t)=true:=by unfold digP;rw[hinv];simp
   ((conv=>whnf);repeat(any_goals((first|refine Vc.stp ?_)<;>(intros;(conv=>whnf)))))
   exact⟨by rw[hdp];show Value.bool (!((mkS (c::t)).toList==_))=_;rw[hne];rfl,rfl⟩
theorem rnum_any (s:Bs) (most:Nat) (hl:s.length≤1000000000) (hm:most≤1000000000) (H:Heap):CallH Tryz.prog 75 [.string (mkS s),.int .i64 most] H fun v H'=>(match numF most s with|some n=>v= .tuple #[.int .i64 n,.bool true]|none=>∃ m:Int,v= .tuple #[.int .i64 m,.bool false])∧H=H':=by
 have hsz:(mkS s).size=s.length:=rfl
 have hdg:=fun H=>rdigits_any s hl H
 refine Vc.CallH.body Tryz.func75 Tryz.call75 rfl (by decide+kernel) rfl ?_
 cases hD:digP s with
 |false=>
  rw[hD]at hdg
  have hn:numF most s=none:=by unfold numF;rw[hD,if_neg (by simp)]
  rw[hn]
  ((conv=>whnf);repeat(any_goals((first|(refine(hdg _).mono ?_;rintro _ _ ⟨rfl,rfl⟩)|refine Vc.stp ?_)<;>(intros;(conv=>whnf)))))
  exact⟨⟨_,rfl⟩,rfl⟩
 |true=>
  rw[hD]at hdg
  have hall:s.all digB=true:=by unfold digP at hD;rw[Bool.and_eq_true]at hD;exact hD.2
  by_cases h10:10<s.length
  ·have hn:numF most s=none:=by unfold numF;rw[if_neg (by omega)]
   rw[hn]
   obtain⟨c,hc,hd⟩:=drop_get (l:=s) (i:=0) (by omega)
   ((conv=>whnf);repeat(any_goals((first|(refine(hdg _).mono ?_;rintro _ _ ⟨rfl,rfl⟩)|(refine IdxH.nat 0 rfl (by omega) ?_;(conv=>whnf);rw[hc])|refine Vc.stp ?_|refine Vc.spl ?_ ?_)<;>(intros;(conv=>whnf)))))
   all_goals exact⟨⟨_,rfl⟩,rfl⟩
  cases s with
  |nil=>cases hD
  |cons c t=>
  have hc8:=c.toNat_lt
  have hst:(c::t).length=t.length+1:=rfl
  by_cases h0:1≤t.length∧c.toNat=48
  ·have ec:c=48:=UInt8.toNat_inj.1 h0.2
   have hn:numF most (c::t)=none:=by unfold numF;rw[if_neg (by rw[ec,List.length_cons,List.head?_cons];rintro⟨_,h|h,_⟩;omega;exact h rfl)]
   rw[hn]
   ((conv=>whnf);repeat(any_goals((first|(refine(hdg _).mono ?_;rintro _ _ ⟨rfl,rfl⟩)|(refine IdxH.nat 0 rfl (by omega) ?_;(conv=>whnf);rw[show(mkS (c::t)).data.toList.getD 0 0=c from rfl])|refine Vc.stp ?_)<;>(intros;(conv=>whnf)))))
   exact⟨⟨_,rfl⟩,rfl⟩
  ·obtain⟨V,hV⟩: ∃ V,valF 0 (c::t)=V:=⟨_,rfl⟩
   have hnf:numF most (c::t)=if V≤most then some V else none:=by
    unfold numF
    rw[hV]
    by_cases hle:V≤most
    ·have h2:(c::t).length≤1∨(c::t).head? ≠some 48:=by
      by_cases h1:(c::t).length≤1
      ·exact .inl h1
      ·exact .inr fun e=>h0 ⟨by omega,by rw[List.head?_cons]at e;injection e with e;rw[e];rfl⟩
     rw[if_pos hle,if_pos ⟨hD,h2,by omega,hle⟩]
    ·rw[if_neg hle,if_neg fun h=>hle h.2.2.2]
   rw[hnf]
   clear hnf
   ((conv=>whnf);repeat(any_goals((first|(refine(hdg _).mono ?_;rintro _ _ ⟨rfl,rfl⟩)|(refine IdxH.nat 0 rfl (by omega) ?_;(conv=>whnf);rw[show(mkS (c::t)).data.toList.getD 0 0=c from rfl])|refine Vc.stp ?_|refine Vc.spl ?_ ?_)<;>(intros;(conv=>whnf)))))
   all_goals
    (refine LoopH.intro (fun(x:Nat×Nat)=>[(7,.int .i64 x.1),(6,.int .i64 x.2)]) (fun x H'=>H=H'∧x.1≤(c::t).length∧valF x.2 ((c::t).drop x.1)=V∧x.2<10 ^ x.1∧((c::t).drop x.1).all digB=true) (fun x=>(c::t).length-x.1) (0,0) ⟨rfl,rfl,trivial⟩ ⟨rfl,Nat.zero_le _,hV,by decide,hall⟩ ?_
     rintro⟨i,n⟩ _ ⟨rfl,hi,hv,hn,hal⟩
     dsimp only at hi hv hn hal ⊢
     have hn9:n<10000000000:=Nat.lt_of_lt_of_le hn (Nat.le_trans (Nat.pow_le_pow_right (by decide) (show i≤10 by omega)) (by decide))
     by_cases hlt:i<(c::t).length
     ·obtain⟨d,hdc,hdr⟩:=drop_get hlt
      rw[hdr]at hv hal
      rw[List.all_cons,Bool.and_eq_true]at hal
      have hd1:48≤d.toNat∧d.toNat≤57:=by
       have:=hal.1
       unfold digB at this
       rw[decide_eq_true_eq]at this
       exact this
      unfold valF at hv
      ((conv=>whnf);repeat(any_goals((first|(refine IdxH.nat i rfl (by omega) ?_;(conv=>whnf);rw[hdc])|refine Vc.stp ?_)<;>(intros;(conv=>whnf)))))
      refine⟨(i+1,10*n+(d.toNat-48)),⟨rfl,by show Value.int .i64 _=Value.int .i64 _;congr 1;omega,trivial⟩,⟨rfl,by show i+1≤_;omega,hv,?_,hal.2⟩,by show(c::t).length-(i+1)<(c::t).length-i;omega⟩
      show 10*n+(d.toNat-48)<10 ^ (i+1)
      rw[Nat.pow_succ];omega
     ·rw[List.drop_of_length_le (by omega)]at hv
      unfold valF at hv
      subst hv
      ((conv=>whnf);repeat(any_goals((first|refine Vc.stp ?_)<;>(intros;(conv=>whnf)))))
      refine⟨?_,rfl⟩
      by_cases hle:n≤most
      ·rw[if_pos hle]
       show Value.tuple #[_,.bool (decide ((n:Int)≤(most:Int)))]=_
       rw[decide_eq_true (by omega)]
      ·rw[if_neg hle]
       exact⟨n,by show Value.tuple #[_,.bool (decide ((n:Int)≤(most:Int)))]=_;rw[decide_eq_false (by omega)]⟩)
theorem rmark_any (s:Bs) (hl:s.length≤1000000000) (H:Heap):CallH Tryz.prog 74 [.string (mkS s)] H fun v H'=>v= .bool (markP s)∧H=H':=by
 have hsz:(mkS s).size=s.length:=rfl
 have hdg:=fun H=>rdigits_any s hl H
 refine Vc.CallH.body Tryz.func74 Tryz.call74 rfl (by decide+kernel) rfl ?_
 by_cases h1:s.length<1
 ·have e:markP s=false:=by unfold markP;rw[decide_eq_false (by omega)];simp
  rw[e]
  ((conv=>whnf);repeat(any_goals((first|refine Vc.stp ?_)<;>(intros;(conv=>whnf)))))
  exact⟨rfl,rfl⟩
 by_cases h16:16<s.length
 ·have e:markP s=false:=by unfold markP;rw[decide_eq_false (show ¬s.length≤16 by omega)];simp
  rw[e]
  ((conv=>whnf);repeat(any_goals((first|refine Vc.stp ?_)<;>(intros;(conv=>whnf)))))
  exact⟨rfl,rfl⟩
 have em:markP s=(s.all signB&&(!digP s || decide (s=[48]) || decide (s.head? ≠some 48))):=by
  unfold markP
  rw[decide_eq_true (show 1≤s.length by omega),decide_eq_true (show s.length≤16 by omega)]
  rfl
 rw[em]
 ((conv=>whnf);repeat(any_goals((first|refine Vc.stp ?_)<;>(intros;(conv=>whnf)))))
 refine LoopH.intro (fun(i:Nat)=>[(3,.int .i64 i)]) (fun i H'=>H=H'∧i≤s.length∧s.all signB=(s.drop i).all signB) (fun i=>s.length-i) 0 ⟨rfl,trivial⟩ ⟨rfl,Nat.zero_le _,rfl⟩ ?_
 rintro i _ ⟨rfl,hi,hinv⟩
 by_cases hlt:i<s.length
 ·obtain⟨c,hc,hd⟩:=drop_get hlt
  rw[hd,List.all_cons]at hinv
  have hc8:=c.toNat_lt
  by_cases hs:(97≤c.toNat∧c.toNat≤122)∨(65≤c.toNat∧c.toNat≤90)∨(48≤c.toNat∧c.toNat≤57)∨c.toNat=45
  ·rw[(signB_iff c).2 hs,Bool.true_and]at hinv
   ((conv=>whnf);repeat(any_goals((first|(refine IdxH.nat i rfl (by omega) ?_;(conv=>whnf);rw[hc])|refine Vc.stp ?_|refine Vc.spl ?_ ?_)<;>(intros;(conv=>whnf)))))
   all_goals first|(exfalso;omega)|exact⟨i+1,⟨rfl,trivial⟩,⟨rfl,by omega,hinv⟩,by omega⟩
  ·rw[show signB c=false by(cases e:signB c with|false=>rfl|true=>exact absurd ((signB_iff c).1 e) hs),Bool.false_and]at hinv
   rw[hinv,Bool.false_and]
   ((conv=>whnf);repeat(any_goals((first|(refine IdxH.nat i rfl (by omega) ?_;(conv=>whnf);rw[hc])|refine Vc.stp ?_|refine Vc.spl ?_ ?_)<;>(intros;(conv=>whnf)))))
   all_goals first|(exfalso;omega)|exact⟨rfl,rfl⟩
 ·rw[List.drop_of_length_le (by omega),List.all_nil]at hinv
  rw[hinv,Bool.true_and]
  cases hD:digP s with
  |false=>
   rw[hD]at hdg
   ((conv=>whnf);repeat(any_goals((first|(refine(hdg _).mono ?_;rintro _ _ ⟨rfl,rfl⟩)|refine Vc.stp ?_)<;>(intros;(conv=>whnf)))))
   exact⟨rfl,rfl⟩
  |true=>
   rw[hD]at hdg
   obtain⟨c,t,rfl⟩: ∃ c t,s=c::t:=by
    cases s with
    |nil=>exact absurd (by decide) h1
    |cons c t=>exact⟨c,t,rfl⟩
   have hc8:=c.toNat_lt
   have hst:(c::t).length=t.length+1:=rfl
   have h0:((mkS (c::t)).toList==(⟨#[48]⟩:ByteArray).toList)=decide (c::t=[48]):=by
    show((mkS (c::t)).toList==(mkS [48]).toList)=_
    exact str_mk _ _
   rw[←h0]
   rw[List.head?_cons]
   ((conv=>whnf);repeat(any_goals((first|(refine(hdg _).mono ?_;rintro _ _ ⟨rfl,rfl⟩)|(refine IdxH.nat 0 rfl (by omega) ?_;(conv=>whnf);rw[show(mkS (c::t)).data.toList.getD 0 0=c from rfl])|refine Vc.stp ?_|refine Vc.spl ?_ ?_)<;>(intros;(conv=>whnf)))))
   ·rename_i e
    exact⟨by rw[e,beq_self_eq_true];rfl,rfl⟩
   ·rename_i e
    rw[h0,decide_eq_false (fun e'=>e (by rw[e']): ¬c::t=[48])]
    refine⟨?_,rfl⟩
    show Value.bool _=Value.bool _
    congr 1
    by_cases h48:c=48
    ·subst h48;rfl
    ·have hne:c.toNat≠48:=fun e=>h48 (UInt8.toNat_inj.1 e)
     rw[show((c.toNat:Int) != 48)=true by rw[bne_iff_ne];omega]
     simp[h48]
end Go.Proofs.YtjdieklgoepdjaaGreatDoor
namespace Go.Slv
open Go.Scr
def cutD:Txt→Txt×Option Txt
 |[]=>([],none)
 |c::t=>if c=45 then([],some t)else(c::(cutD t).1,(cutD t).2)
def coreF (core:Txt) (pre:List Txt):Option VerP:=match splitF 46 core with
 |[a,b,c]=>match numF 999999999 a,numF 999999999 b,numF 999999999 c with
  |some x,some y,some z=>some ⟨x,y,z,pre⟩
  |_,_,_=>none
 |_=>none
def verF (s:Txt):Option VerP:=match (cutD s).2 with
 |none=>coreF (cutD s).1 []
 |some r=>if(splitF 46 r).length≤5∧(splitF 46 r).all markP=true then coreF (cutD s).1 (splitF 46 r)else none
end Go.Slv
namespace Go.Proofs.YtjdieklgoepdjaaGreatDoor
open Go Go.Vc Go.Scr Go.Slv
def verC (v:VerP) (a:Option Addr) (cap:Nat):Value:= .agg #[.int .i64 v.ma,.int .i64 v.mi,.int .i64 v.pa,.slice a v.pre.length cap]
def VerR (H':Heap) (B:Nat) (x:Value):Option VerP→Prop
 |some v=>∃ a cap,x= .tuple #[verC v a cap,.int .i64 0]∧Own H' B 9 1 a v.pre.length cap (strs v.pre)
 |none=>x= .tuple #[.agg #[.int .i64 0,.int .i64 0,.int .i64 0,.slice none 0 0],.int .i64 60]
structure VcS where
 core:Bs
 pre:List Bs
 a:Option Addr
 cap:Nat
structure VcJ (H H':Heap) (g:Nat) (s:Bs) (x:VcS):Prop where
 blk:Blk H' g #[.int .i64 0,.int .i64 0,.int .i64 0,.slice x.a x.pre.length x.cap] 48
 own:Own H' (g+1) 9 1 x.a x.pre.length x.cap (strs x.pre)
 res:Blk H' H.size #[.int .i64 0,.int .i64 0,.int .i64 0,.slice none 0 0] 48
 len:x.core.length≤s.length
 eq:verF s=coreF x.core x.pre
 ext:Ext H H'
set_option maxHeartbeats 4000000 in
theorem rver_any (s:Bs) (hl:s.length≤100000000) (H:Heap):CallH Tryz.prog 31 [.string (mkS s)] H fun x H'=>VerR H' H.size x (verF s)∧Ext H H':=by
 have hsz:(mkS s).size=s.length:=rfl
 refine Vc.CallH.body Tryz.func31 Tryz.call31 rfl (by decide+kernel) rfl ?_
 ((conv=>whnf);repeat(any_goals((first|refine Vc.stq ?_|refine Vc.spl ?_ ?_)<;>(intros;(conv=>whnf)))))
 rename_i H1 z1 b1 x1 H2 z2 b2 x2
 have hx02:=x1.trans x2
 refine SeqH.cut (fun(x:VcS)=>[(5,.string (mkS x.core))]) (fun x H'=>VcJ H H' H1.size s x) ?_ ?_
 ·((conv=>whnf);repeat(any_goals((first|refine Vc.stp ?_)<;>(intros;(conv=>whnf)))))
  refine LoopH.intro (fun(i:Nat)=>[(6,.int .i64 i),(5,.string (mkS s))]) (fun i H'=>H2=H'∧i≤s.length∧cutD s=(s.take i++(cutD (s.drop i)).1,(cutD (s.drop i)).2)) (fun i=>s.length-i) 0 ⟨rfl,rfl,trivial⟩ ⟨rfl,Nat.zero_le _,by simp⟩ ?_
  rintro i _ ⟨rfl,hi,hinv⟩
  by_cases hlt:i<s.length
  ·obtain⟨c,hc,hd⟩:=drop_get hlt
   have hc8:=c.toNat_lt
   rw[hd]at hinv
   by_cases hm:c.toNat=45
   ·have ec:c=45:=UInt8.toNat_inj.1 hm
    rw[ec]at hinv
    have hcut:cutD s=(s.take i,some (s.drop (i+1))):=by rw[hinv];simp[cutD]
    ((conv=>whnf);repeat(any_goals((first|(refine IdxH.nat i rfl (by omega) ?_;(conv=>whnf);rw[hc])|(refine BndH.nat i rfl (by omega) ?_)|(refine BndH.nat (i+1) rfl (by omega) ?_)|(rw[mkS_drop];refine(rsplit_any (s.drop (i+1)) 46 (by rw[List.length_drop];omega) _).mono ?_;rintro _ H3 ⟨⟨a3,c3,rfl,ho3⟩,hx3⟩;have hz3:=hx3.size)|refine Vc.stp ?_)<;>(intros;(conv=>whnf)))))
    rename_i H4 z4 b4 k4
    obtain⟨q,hq⟩: ∃ q,splitF 46 (s.drop (i+1))=q:=⟨_,rfl⟩
    rw[hq]at ho3 b4 ⊢
    have b4:Blk H4 H1.size #[.int .i64 0,.int .i64 0,.int .i64 0,.slice a3 q.length c3] 48:=b4
    have ho4:Own H4 (H1.size+1) 9 1 a3 q.length c3 (strs q):=(ho3.keep k4 fun p hp e=>by have:=(ho3.block p hp).1;omega).base (by omega)
    have hx04:Ext H H4:=(hx02.trans hx3).but k4 (by omega)
    have hql:q.length≤s.length+1:=by
     have:=(splitF_len 46 (s.drop (i+1))).1
     rw[hq]at this
     have h2:=List.length_drop (i:=i+1) (l:=s)
     omega
    have hqw: ∀ w∈q,w.length≤1000000000:=fun w hw=>by
     rw[←hq]at hw
     have:=split_len 46 _ w hw
     rw[List.length_drop]at this
     omega
    have b4r:=b1.ext (x2.trans hx3)
    have b4s:=b4r.but k4 (by omega)
    by_cases h5:5<q.length
    ·have e:verF s=none:=by unfold verF;rw[hcut];dsimp only;rw[hq,if_neg (by omega)]
     rw[e]
     ((conv=>whnf);repeat(any_goals((first|(refine PureH.build0 #[.int .i64 0,.int .i64 0,.int .i64 0,.slice none 0 0] (by kernel_rfl) ?_)|refine Vc.stp ?_)<;>(intros;(conv=>whnf)))))
     rename_i H5 z5 b5 k5
     exact⟨rfl,hx04.but k5 (Nat.le_refl _)⟩
    ·((conv=>whnf);repeat(any_goals((first|refine Vc.stp ?_)<;>(intros;(conv=>whnf)))))
     refine LoopH.intro (fun(k:Nat)=>[(7,.int .i64 k)]) (fun k H'=>H4=H'∧k≤q.length∧q.all markP=(q.drop k).all markP) (fun k=>q.length-k) 0 ⟨rfl,trivial⟩ ⟨rfl,Nat.zero_le _,rfl⟩ ?_
     rintro k _ ⟨rfl,hk,hal⟩
     by_cases hkl:k<q.length
     ·obtain⟨w,hw⟩: ∃ w,q[k]? =some w:=⟨_,List.getElem?_eq_getElem hkl⟩
      have hdk:q.drop k=w::q.drop (k+1):=by rw[List.drop_eq_getElem_cons hkl];rw[List.getElem?_eq_getElem hkl]at hw;injection hw with hw;rw[hw]
      rw[hdk,List.all_cons]at hal
      have hmk:=fun H=>rmark_any w (hqw w (List.mem_of_getElem? hw)) H
      cases hmw:markP w with
      |false=>
       rw[hmw]at hmk hal
       rw[Bool.false_and]at hal
       have e:verF s=none:=by unfold verF;rw[hcut];dsimp only;rw[hq,if_neg (by rw[hal];simp)]
       rw[e]
       ((conv=>whnf);repeat(any_goals((first|(refine IdxA.strv ho4.row rfl k w (by omega) hw ?_;intro _ _ _ _ _)|(refine(hmk _).mono ?_;rintro _ _ ⟨rfl,rfl⟩)|(refine PureH.build0 #[.int .i64 0,.int .i64 0,.int .i64 0,.slice none 0 0] (by kernel_rfl) ?_)|refine Vc.stp ?_)<;>(intros;(conv=>whnf)))))
       rename_i H5 z5 b5 k5
       exact⟨rfl,hx04.but k5 (Nat.le_refl _)⟩
      |true=>
       rw[hmw]at hmk hal
       rw[Bool.true_and]at hal
       ((conv=>whnf);repeat(any_goals((first|(refine IdxA.strv ho4.row rfl k w (by omega) hw ?_;intro _ _ _ _ _)|(refine(hmk _).mono ?_;rintro _ _ ⟨rfl,rfl⟩)|refine Vc.stp ?_)<;>(intros;(conv=>whnf)))))
       exact⟨k+1,⟨rfl,trivial⟩,⟨rfl,by omega,hal⟩,by omega⟩
     ·rw[List.drop_of_length_le (by omega),List.all_nil]at hal
      ((conv=>whnf);repeat(any_goals((first|refine Vc.stp ?_)<;>(intros;(conv=>whnf)))))
      refine⟨⟨s.take i,q,a3,c3⟩,⟨by show Value.string _=_;rw[mkS_take],trivial⟩,⟨b4,ho4,b4s,by show(s.take i).length≤_;rw[List.length_take];omega,?_,hx04⟩⟩
      unfold verF
      rw[hcut]
      dsimp only
      rw[hq,if_pos ⟨by omega,hal⟩]
   ·have hne:c≠45:=fun e=>hm (by rw[e];rfl)
    have hcut:cutD s=(s.take (i+1)++(cutD (s.drop (i+1))).1,(cutD (s.drop (i+1))).2):=by
     rw[hinv,cutD,if_neg hne,List.take_add_one]
     have:s[i]? =some c:=by
      have:=congrArg (·[0]?) hd
      simpa using this
     rw[this]
     simp
    ((conv=>whnf);repeat(any_goals((first|(refine IdxH.nat i rfl (by omega) ?_;(conv=>whnf);rw[hc])|refine Vc.stp ?_)<;>(intros;(conv=>whnf)))))
    exact⟨i+1,⟨rfl,rfl,trivial⟩,⟨rfl,by omega,hcut⟩,by omega⟩
  ·rw[List.drop_of_length_le (by omega),List.take_of_length_le (by omega)]at hinv
   have hcut:cutD s=(s,none):=by rw[hinv];simp[cutD]
   ((conv=>whnf);repeat(any_goals((first|refine Vc.stp ?_)<;>(intros;(conv=>whnf)))))
   exact⟨⟨s,[],none,0⟩,⟨rfl,trivial⟩,⟨b2,Own.nil _ _ _ _,b1.ext x2,Nat.le_refl _,by unfold verF;rw[hcut],hx02⟩⟩
 ·rintro⟨core,pre,a,cap⟩ H3 hj
  have hbj:=hj.blk
  have hoj:=hj.own
  have hcl:=hj.len
  have heq:=hj.eq
  have hxj:=hj.ext
  dsimp only at hbj hoj hcl heq hxj
  rw[heq]
  have hsc:(mkS core).size=core.length:=rfl
  have hsp:=fun H=>rsplit_any core 46 (by omega) H
  obtain⟨q,hq⟩: ∃ q,splitF 46 core=q:=⟨_,rfl⟩
  rw[hq]at hsp
  ((conv=>whnf);repeat(any_goals((first|(refine(hsp _).mono ?_;rintro _ H4 ⟨⟨a4,c4,rfl,ho4⟩,hx4⟩;have hz4:=hx4.size)|refine Vc.stp ?_)<;>(intros;(conv=>whnf)))))
  have hrj:=hj.res
  have hlj:=hbj.lt
  have hgr:H1.size≠H.size:=by omega
  have hb4:=hbj.ext hx4
  have hr4:=hrj.ext hx4
  have hx04:=hxj.trans hx4
  have hql:q.length≤s.length+1:=by
   have:=(splitF_len 46 core).1
   rw[hq]at this
   omega
  by_cases h3:q.length=3
  ·obtain⟨x,y,z,rfl⟩: ∃ x y z,q=[x,y,z]:=by
    match q,h3 with
    |[x,y,z],_=>exact⟨x,y,z,rfl⟩
   have hw: ∀ w∈ [x,y,z],w.length≤1000000000:=fun w hw=>by
    rw[←hq]at hw
    have:=split_len 46 _ w hw
    omega
   have e:coreF core pre=match numF 999999999 x,numF 999999999 y,numF 999999999 z with
    |some x,some y,some z=>some ⟨x,y,z,pre⟩
    |_,_,_=>none:=by unfold coreF;rw[hq]
   rw[e]
   have hnx:=fun H=>rnum_any x 999999999 (hw x (by simp)) (by decide) H
   have hny:=fun H=>rnum_any y 999999999 (hw y (by simp)) (by decide) H
   have hnz:=fun H=>rnum_any z 999999999 (hw z (by simp)) (by decide) H
   clear e hsp hq
   have hn3:[x,y,z].length=3:=rfl
   cases hX:numF 999999999 x<;>cases hY:numF 999999999 y<;>cases hZ:numF 999999999 z
   all_goals rw[hX]at hnx
   all_goals rw[hY]at hny
   all_goals rw[hZ]at hnz
   all_goals((conv=>whnf);repeat(any_goals((first|(refine IdxA.strv ho4.row rfl 0 x rfl rfl ?_;intro _ _ _ _ _)|(refine IdxA.strv ho4.row rfl 1 y rfl rfl ?_;intro _ _ _ _ _)|(refine IdxA.strv ho4.row rfl 2 z rfl rfl ?_;intro _ _ _ _ _)|(refine(hnx _).mono ?_;rintro _ _ ⟨rfl,rfl⟩)|(refine(hnx _).mono ?_;rintro _ _ ⟨⟨mx,rfl⟩,rfl⟩)|(refine(hny _).mono ?_;rintro _ _ ⟨rfl,rfl⟩)|(refine(hny _).mono ?_;rintro _ _ ⟨⟨my,rfl⟩,rfl⟩)|(refine(hnz _).mono ?_;rintro _ _ ⟨rfl,rfl⟩)|(refine(hnz _).mono ?_;rintro _ _ ⟨⟨mz,rfl⟩,rfl⟩)|(refine PureH.build0 #[.int .i64 0,.int .i64 0,.int .i64 0,.slice none 0 0] (by kernel_rfl) ?_)|refine Vc.stp ?_)<;>(intros;(conv=>whnf)))))
   iterate 7 (rename_i H5 z5 b5 k5;exact⟨rfl,hx04.but k5 (Nat.le_refl _)⟩)
   rename_i nx ny nz _ _ _ _ _ _ _ _ _ _ _ _ _ _ _ H5 z5 b5 k5 H6 z6 b6 k6 H7 z7 b7 k7 H8 z8 b8 k8
   have hp:=fun p hp=>(hoj.block p hp).1
   have ho8:=((((hoj.ext hx4).keep k5 fun p hp' e=>by have:=hp p hp';omega).keep k6 fun p hp' e=>by have:=hp p hp';omega).keep k7 fun p hp' e=>by have:=hp p hp';omega).keep k8 fun p hp' e=>by have:=hp p hp';omega
   exact⟨⟨a,cap,rfl,ho8.base (by omega)⟩,(((hx04.but k5 (by omega)).but k6 (by omega)).but k7 (by omega)).but k8 (by omega)⟩
  ·have e:coreF core pre=none:=by
    unfold coreF
    rw[hq]
    split
    ·exact absurd rfl h3
    ·rfl
   rw[e]
   ((conv=>whnf);repeat(any_goals((first|(refine PureH.build0 #[.int .i64 0,.int .i64 0,.int .i64 0,.slice none 0 0] (by kernel_rfl) ?_)|refine Vc.stp ?_)<;>(intros;(conv=>whnf)))))
   rename_i H5 z5 b5 k5
   exact⟨rfl,hx04.but k5 (Nat.le_refl _)⟩
end Go.Proofs.YtjdieklgoepdjaaGreatDoor
namespace Go.Slv
open Go.Scr
def preK (a b:List Txt):Int:=if a=[]then(if b=[]then 0 else 1)else if b=[]then-1 else listC markC a b
theorem cmpV_eq (v w:VerP):cmpV v w=if cmpI v.ma w.ma=0 then(if cmpI v.mi w.mi=0 then(if cmpI v.pa w.pa=0 then preK v.pre w.pre else cmpI v.pa w.pa)else cmpI v.mi w.mi)else cmpI v.ma w.ma:=by
 have hp:lexC cmpI (listC markC) ((if v.pre=[]then 1 else 0:Int),v.pre) ((if w.pre=[]then 1 else 0:Int),w.pre)=preK v.pre w.pre:=by
  unfold lexC preK
  by_cases h1:v.pre=[]<;>by_cases h2:w.pre=[]<;>simp[h1,h2,cmpI,listC]
 unfold lexC at hp
 dsimp only at hp
 unfold cmpV verK lexC
 dsimp only
 rw[hp]
theorem markC_eq (x y:Txt):markC x y=if digP x=true then(if digP y=true then(if cmpI x.length y.length=0 then cmpT x y else cmpI x.length y.length)else-1)else if digP y=true then 1 else cmpT x y:=by
 unfold markC markK lexC
 by_cases h1:digP x=true<;>by_cases h2:digP y=true<;>simp[h1,h2,lexC,cmpI]
theorem cmpI_lt {a b:Int} (h:a<b):cmpI a b= -1:=by unfold cmpI;rw[if_pos h]
theorem cmpI_gt {a b:Int} (h:b<a):cmpI a b=1:=by unfold cmpI;rw[if_neg (by omega),if_pos h]
theorem cmpI_eq (a:Int):cmpI a a=0:=lin_int.refl a
end Go.Slv
namespace Go.Proofs.YtjdieklgoepdjaaGreatDoor
open Go Go.Vc Go.Scr Go.Slv
theorem rcmp_any (a b:Int) (H:Heap):CallH Tryz.prog 95 [.int .i64 a,.int .i64 b] H fun x H'=>x= .int .i64 (cmpI a b)∧H=H':=by
 refine Vc.CallH.body Tryz.func95 Tryz.call95 rfl (by decide+kernel) rfl ?_
 rcases Int.lt_trichotomy a b with h|h|h
 ·rw[cmpI_lt h]
  ((conv=>whnf);repeat(any_goals((first|refine Vc.stp ?_)<;>(intros;(conv=>whnf)))))
  exact⟨rfl,rfl⟩
 ·subst h
  rw[cmpI_eq]
  ((conv=>whnf);repeat(any_goals((first|refine Vc.stp ?_)<;>(intros;(conv=>whnf)))))
  exact⟨rfl,rfl⟩
 ·rw[cmpI_gt h]
  ((conv=>whnf);repeat(any_goals((first|refine Vc.stp ?_)<;>(intros;(conv=>whnf)))))
  exact⟨rfl,rfl⟩
theorem toListS (l:Bs):(mkS l).toList=l:=by rw[ByteArray.toList_eq]
theorem rtext_any (a b:Bs) (H:Heap):CallH Tryz.prog 98 [.string (mkS a),.string (mkS b)] H fun x H'=>x= .int .i64 (cmpT a b)∧H=H':=by
 refine Vc.CallH.body Tryz.func98 Tryz.call98 rfl (by decide+kernel) rfl ?_
 have ea:(mkS a).toList=a:=toListS a
 have eb:(mkS b).toList=b:=toListS b
 by_cases h1:Op.bytesLess a b=true
 ·have h2:Op.bytesLess (mkS a).toList (mkS b).toList=true:=by rw[ea,eb];exact h1
  have h3:cmpT a b= -1:=cmpT_lt.2 h1
  rw[h3]
  ((conv=>whnf);repeat(any_goals((first|refine Vc.stp ?_)<;>(intros;(conv=>whnf)))))
  exact⟨rfl,rfl⟩
 ·have h1:Op.bytesLess a b=false:=by simpa using h1
  have h2:Op.bytesLess (mkS a).toList (mkS b).toList=false:=by rw[ea,eb];exact h1
  by_cases h4:a=b
  ·have h5:(Op.bytesLess (mkS a).toList (mkS b).toList || (mkS a).toList==(mkS b).toList)=true:=by rw[h2,h4,beq_self_eq_true];rfl
   have h3:cmpT a b=0:=(lin_text.eq a b).2 h4
   rw[h3]
   ((conv=>whnf);repeat(any_goals((first|refine Vc.stp ?_)<;>(intros;(conv=>whnf)))))
   exact⟨rfl,rfl⟩
  ·have h5:(Op.bytesLess (mkS a).toList (mkS b).toList || (mkS a).toList==(mkS b).toList)=false:=by rw[h2,ea,eb];simpa using h4
   have h3:cmpT a b=1:=lin_text.gt.2 (cmpT_lt.2 (Go.Tre.lt_tri h1 h4))
   rw[h3]
   ((conv=>whnf);repeat(any_goals((first|refine Vc.stp ?_)<;>(intros;(conv=>whnf)))))
   exact⟨rfl,rfl⟩
theorem rone_any (b:Bool) (H:Heap):CallH Tryz.prog 96 [.bool b] H fun x H'=>x= .int .i64 (if b then 1 else 0)∧H=H':=by
 refine Vc.CallH.body Tryz.func96 Tryz.call96 rfl (by decide+kernel) rfl ?_
 cases b
 ·((conv=>whnf);repeat(any_goals((first|refine Vc.stp ?_)<;>(intros;(conv=>whnf)))))
  exact⟨rfl,rfl⟩
 ·((conv=>whnf);repeat(any_goals((first|refine Vc.stp ?_)<;>(intros;(conv=>whnf)))))
  exact⟨rfl,rfl⟩
structure VerO (H:Heap) (v:VerP) (x:Value):Prop where
 out: ∃ a cap,x=verC v a cap∧v.pre.length≤cap∧Row H a (strs v.pre)
theorem VerO.ext {H H':Heap} {v:VerP} {x:Value} (h:VerO H v x) (k:Ext H H'):VerO H' v x:=by
 obtain⟨a,cap,e,hc,hr⟩:=h.out
 exact⟨a,cap,e,hc,hr.ext k⟩
structure VerB (v:VerP):Prop where
 ma:v.ma≤1000000000
 mi:v.mi≤1000000000
 pa:v.pa≤1000000000
 len:v.pre.length≤1000000000
 pre: ∀ m∈v.pre,m.length≤1000000000
set_option maxHeartbeats 4000000 in
theorem rcmpv_any (v w:VerP) (hv:VerB v) (hw:VerB w) (x y:Value) (H:Heap) (hx:VerO H v x) (hy:VerO H w y):CallH Tryz.prog 44 [x,y] H fun u H'=>u= .int .i64 (cmpV v w)∧Ext H H':=by
 obtain⟨a,ca,rfl,hca,hra⟩:=hx.out
 obtain⟨b,cb,rfl,hcb,hrb⟩:=hy.out
 have b1:=hv.len
 have b2:=hw.len
 have hcm:=fun x y H=>rcmp_any x y H
 rw[cmpV_eq]
 refine Vc.CallH.body Tryz.func44 Tryz.call44 rfl (by decide+kernel) rfl ?_
 unfold verC
 ((conv=>whnf);repeat(any_goals((first|(refine(rcmp_any _ _ _).mono ?_;rintro _ _ ⟨rfl,rfl⟩)|((with_reducible refine Vc.DrawH.held [0,1,2,3,4,5,7,8,9,10,11,12,13,6,14,15,16] [(6,[8,11])] mixed (by decide+kernel) ?_))|refine Vc.stp ?_)<;>(intros;(conv=>whnf)))))
 rename_i H1 z1 g1 x1 H2 z2 g2 x2
 have hx02:=x1.trans x2
 have g12:=g1.ext x2
 by_cases hma:cmpI v.ma w.ma=0
 case neg=>
  rw[if_neg hma]
  ((conv=>whnf);repeat(any_goals((first|((with_reducible refine Vc.DrawH.held [0,1,2,3,4,5,7,8,9,10,11,12,13,6,14,15,16] [(6,[8,11])] mixed (by decide+kernel) ?_))|refine Vc.stp ?_)<;>(intros;(conv=>whnf)))))
  exact⟨rfl,by exact Vc.xt⟩
 rw[if_pos hma]
 by_cases hmi:cmpI v.mi w.mi=0
 case neg=>
  rw[if_neg hmi]
  ((conv=>whnf);repeat(any_goals((first|(refine(rcmp_any _ _ _).mono ?_;rintro _ _ ⟨rfl,rfl⟩)|((with_reducible refine Vc.DrawH.held [0,1,2,3,4,5,7,8,9,10,11,12,13,6,14,15,16] [(6,[8,11])] mixed (by decide+kernel) ?_))|refine Vc.stp ?_)<;>(intros;(conv=>whnf)))))
  exact⟨rfl,by exact Vc.xt⟩
 rw[if_pos hmi]
 by_cases hpa:cmpI v.pa w.pa=0
 case neg=>
  rw[if_neg hpa]
  ((conv=>whnf);repeat(any_goals((first|(refine(rcmp_any _ _ _).mono ?_;rintro _ _ ⟨rfl,rfl⟩)|((with_reducible refine Vc.DrawH.held [0,1,2,3,4,5,7,8,9,10,11,12,13,6,14,15,16] [(6,[8,11])] mixed (by decide+kernel) ?_))|refine Vc.stp ?_)<;>(intros;(conv=>whnf)))))
  exact⟨rfl,by exact Vc.xt⟩
 rw[if_pos hpa]
 by_cases hl1:v.pre.length=0
 ·have e1:v.pre=[]:=List.eq_nil_of_length_eq_zero hl1
  unfold preK
  rw[if_pos e1]
  by_cases hl2:w.pre.length=0
  ·rw[if_pos (List.eq_nil_of_length_eq_zero hl2)]
   have hc:cmpI (w.pre.length:Int) (v.pre.length:Int)=0:=by rw[hl1,hl2];rfl
   ((conv=>whnf);repeat(any_goals((first|(refine(rcmp_any _ _ _).mono ?_;rintro _ _ ⟨rfl,rfl⟩;try rw[hc])|(refine(rone_any _ _).mono ?_;rintro _ _ ⟨rfl,rfl⟩)|((with_reducible refine Vc.DrawH.held [0,1,2,3,4,5,7,8,9,10,11,12,13,6,14,15,16] [(6,[8,11])] mixed (by decide+kernel) ?_))|refine Vc.stp ?_)<;>(intros;(conv=>whnf)))))
   exact⟨by show Value.int .i64 _=Value.int .i64 _;rw[Int.zero_mul],hx02⟩
  ·rw[if_neg (fun e=>hl2 (by rw[e];rfl))]
   have hc:cmpI (w.pre.length:Int) (v.pre.length:Int)=1:=cmpI_gt (by omega)
   ((conv=>whnf);repeat(any_goals((first|(refine(rcmp_any _ _ _).mono ?_;rintro _ _ ⟨rfl,rfl⟩;try rw[hc])|(refine(rone_any _ _).mono ?_;rintro _ _ ⟨rfl,rfl⟩)|((with_reducible refine Vc.DrawH.held [0,1,2,3,4,5,7,8,9,10,11,12,13,6,14,15,16] [(6,[8,11])] mixed (by decide+kernel) ?_))|refine Vc.stp ?_)<;>(intros;(conv=>whnf)))))
   exact⟨by show Value.int .i64 _=Value.int .i64 _;rw[if_pos (by rw[bne_iff_ne];omega)];rfl,hx02⟩
 have n1:v.pre≠ []:=fun e=>hl1 (by rw[e];rfl)
 unfold preK
 rw[if_neg n1]
 by_cases hl2:w.pre.length=0
 ·rw[if_pos (List.eq_nil_of_length_eq_zero hl2)]
  have hc:cmpI (w.pre.length:Int) (v.pre.length:Int)= -1:=cmpI_lt (by omega)
  ((conv=>whnf);repeat(any_goals((first|(refine(rcmp_any _ _ _).mono ?_;rintro _ _ ⟨rfl,rfl⟩;try rw[hc])|(refine(rone_any _ _).mono ?_;rintro _ _ ⟨rfl,rfl⟩)|((with_reducible refine Vc.DrawH.held [0,1,2,3,4,5,7,8,9,10,11,12,13,6,14,15,16] [(6,[8,11])] mixed (by decide+kernel) ?_))|refine Vc.stp ?_)<;>(intros;(conv=>whnf)))))
  exact⟨by show Value.int .i64 _=Value.int .i64 _;rw[if_pos (by rw[bne_iff_ne];omega)];rfl,hx02⟩
 have n2:w.pre≠ []:=fun e=>hl2 (by rw[e];rfl)
 rw[if_neg n2]
 ((conv=>whnf);repeat(any_goals((first|(refine(rcmp_any _ _ _).mono ?_;rintro _ _ ⟨rfl,rfl⟩)|((with_reducible refine Vc.DrawH.held [0,1,2,3,4,5,7,8,9,10,11,12,13,6,14,15,16] [(6,[8,11])] mixed (by decide+kernel) ?_))|refine Vc.stp ?_)<;>(intros;(conv=>whnf)))))
 obtain⟨Z,hZ⟩: ∃ Z,listC markC v.pre w.pre=Z:=⟨_,rfl⟩
 rw[hZ]
 refine LoopH.intro (fun(i:Nat)=>[(8,.int .i64 i)]) (fun i H'=>H2=H'∧i≤v.pre.length∧i≤w.pre.length∧Z=listC markC (v.pre.drop i) (w.pre.drop i)) (fun i=>v.pre.length-i) 0 ⟨rfl,trivial⟩ ⟨rfl,Nat.zero_le _,Nat.zero_le _,hZ.symm⟩ ?_
 rintro i _ ⟨rfl,hi,hj,hinv⟩
 by_cases h1:i<v.pre.length
 ·by_cases h2:i<w.pre.length
  ·obtain⟨x,hx⟩: ∃ x,v.pre[i]? =some x:=⟨_,List.getElem?_eq_getElem h1⟩
   obtain⟨y,hy⟩: ∃ y,w.pre[i]? =some y:=⟨_,List.getElem?_eq_getElem h2⟩
   have hdx:v.pre.drop i=x::v.pre.drop (i+1):=by rw[List.drop_eq_getElem_cons h1];rw[List.getElem?_eq_getElem h1]at hx;injection hx with hx;rw[hx]
   have hdy:w.pre.drop i=y::w.pre.drop (i+1):=by rw[List.drop_eq_getElem_cons h2];rw[List.getElem?_eq_getElem h2]at hy;injection hy with hy;rw[hy]
   have hlc:listC markC (v.pre.drop i) (w.pre.drop i)=if markC x y=0 then listC markC (v.pre.drop (i+1)) (w.pre.drop (i+1))else markC x y:=by rw[hdx,hdy];rfl
   rw[hlc]at hinv
   clear hlc
   have hmk:markC x y=if digP x=true then(if digP y=true then(if cmpI ((mkS x).size:Int) ((mkS y).size:Int)=0 then cmpT x y else cmpI ((mkS x).size:Int) ((mkS y).size:Int))else-1)else if digP y=true then 1 else cmpT x y:=markC_eq x y
   have kx:=fun H=>rdigits_any x (hv.pre x (List.mem_of_getElem? hx)) H
   have ky:=fun H=>rdigits_any y (hw.pre y (List.mem_of_getElem? hy)) H
   generalize markC x y=M at*
   cases hX:digP x<;>cases hY:digP y
   all_goals rw[hX]at kx hmk
   all_goals rw[hY]at ky hmk
   all_goals simp only[if_true,if_false,Bool.false_eq_true]at hmk
   all_goals try(have:=(hX:digP x=true);have:=(hY:digP y=true);by_cases hlen:cmpI ((mkS x).size:Int) ((mkS y).size:Int)=0)
   all_goals try rw[if_pos hlen]at hmk
   all_goals try rw[if_neg hlen]at hmk
   all_goals by_cases hm:M=0
   all_goals try rw[if_pos hm]at hinv
   all_goals try rw[if_neg hm]at hinv
   all_goals try(exfalso;omega)
   all_goals((conv=>whnf);repeat(any_goals((first|(refine IdxA.strv (hra.ext hx02) rfl i x rfl hx ?_;intro _ _ _ _ _)|(refine IdxA.strv (hrb.ext hx02) rfl i y rfl hy ?_;intro _ _ _ _ _)|(refine(kx _).mono ?_;rintro _ _ ⟨rfl,rfl⟩)|(refine(ky _).mono ?_;rintro _ _ ⟨rfl,rfl⟩)|(refine(rcmp_any _ _ _).mono ?_;rintro _ _ ⟨rfl,rfl⟩)|(refine(rtext_any _ _ _).mono ?_;rintro _ _ ⟨rfl,rfl⟩)|((with_reducible refine Vc.DrawH.held [0,1,2,3,4,5,7,8,9,10,11,12,13,6,14,15,16] [(6,[8,11])] mixed (by decide+kernel) ?_))|refine Vc.stp ?_)<;>(intros;(conv=>whnf)))))
   all_goals first|exact⟨i+1,⟨rfl,trivial⟩,⟨rfl,by omega,by omega,hinv⟩,by omega⟩|exact⟨by rw[hinv,hmk];rfl,hx02⟩
  ·have e2:w.pre.drop i=[]:=List.drop_of_length_le (by omega)
   have hd:listC markC (v.pre.drop i) (w.pre.drop i)=1:=by
    rw[e2,List.drop_eq_getElem_cons h1];rfl
   rw[hd]at hinv
   have hc:cmpI (v.pre.length:Int) (w.pre.length:Int)=1:=cmpI_gt (by omega)
   ((conv=>whnf);repeat(any_goals((first|(refine(rcmp_any _ _ _).mono ?_;rintro _ _ ⟨rfl,rfl⟩)|((with_reducible refine Vc.DrawH.held [0,1,2,3,4,5,7,8,9,10,11,12,13,6,14,15,16] [(6,[8,11])] mixed (by decide+kernel) ?_))|refine Vc.stp ?_)<;>(intros;(conv=>whnf)))))
   exact⟨by rw[hc,hinv];rfl,hx02⟩
 ·have e1:v.pre.drop i=[]:=List.drop_of_length_le (by omega)
  by_cases h2:i<w.pre.length
  ·have hd:listC markC (v.pre.drop i) (w.pre.drop i)= -1:=by
    rw[e1,List.drop_eq_getElem_cons h2];rfl
   rw[hd]at hinv
   have hc:cmpI (v.pre.length:Int) (w.pre.length:Int)= -1:=cmpI_lt (by omega)
   ((conv=>whnf);repeat(any_goals((first|(refine(rcmp_any _ _ _).mono ?_;rintro _ _ ⟨rfl,rfl⟩)|((with_reducible refine Vc.DrawH.held [0,1,2,3,4,5,7,8,9,10,11,12,13,6,14,15,16] [(6,[8,11])] mixed (by decide+kernel) ?_))|refine Vc.stp ?_)<;>(intros;(conv=>whnf)))))
   exact⟨by rw[hc,hinv];rfl,hx02⟩
  ·have e2:w.pre.drop i=[]:=List.drop_of_length_le (by omega)
   have hd:listC markC (v.pre.drop i) (w.pre.drop i)=0:=by rw[e1,e2];rfl
   rw[hd]at hinv
   have hc:cmpI (v.pre.length:Int) (w.pre.length:Int)=0:=by rw[show v.pre.length=w.pre.length by omega];exact cmpI_eq _
   ((conv=>whnf);repeat(any_goals((first|(refine(rcmp_any _ _ _).mono ?_;rintro _ _ ⟨rfl,rfl⟩)|((with_reducible refine Vc.DrawH.held [0,1,2,3,4,5,7,8,9,10,11,12,13,6,14,15,16] [(6,[8,11])] mixed (by decide+kernel) ?_))|refine Vc.stp ?_)<;>(intros;(conv=>whnf)))))
   exact⟨by rw[hc,hinv];rfl,hx02⟩
set_option maxHeartbeats 4000000 in
theorem digits_any (s:Bs) (hl:s.length≤1000000000) (H:Heap):CallH Tryz.prog 174 [.string (mkS s)] H fun v H'=>v= .bool (digP s)∧H=H':=by
 have hsz:(mkS s).size=s.length:=rfl
 refine Vc.CallH.body Tryz.func174 Tryz.call174 rfl (by decide+kernel) rfl ?_
 ((conv=>whnf);repeat(any_goals((first|refine Vc.stp ?_)<;>(intros;(conv=>whnf)))))
 refine LoopH.intro (fun(i:Nat)=>[(6,.int .i64 i)]) (fun i H'=>H=H'∧i≤s.length∧s.all digB=(s.drop i).all digB) (fun i=>s.length-i) 0 ⟨rfl,trivial⟩ ⟨rfl,Nat.zero_le _,rfl⟩ ?_
 rintro i _ ⟨rfl,hi,hinv⟩
 by_cases hlt:i<s.length
 ·obtain⟨c,hc,hd⟩:=drop_get hlt
  rw[hd,List.all_cons]at hinv
  have hc8:=c.toNat_lt
  by_cases h1:c.toNat<48
  ·rw[digB_f (.inl h1),Bool.false_and]at hinv
   ((conv=>whnf);repeat(any_goals((first|(refine IdxH.nat i rfl (by omega) ?_;(conv=>whnf);rw[hc])|refine Vc.stp ?_)<;>(intros;(conv=>whnf)))))
   exact⟨by unfold digP;rw[hinv,Bool.and_false];rfl,rfl⟩
  by_cases h2:57<c.toNat
  ·rw[digB_f (.inr h2),Bool.false_and]at hinv
   ((conv=>whnf);repeat(any_goals((first|(refine IdxH.nat i rfl (by omega) ?_;(conv=>whnf);rw[hc])|refine Vc.stp ?_)<;>(intros;(conv=>whnf)))))
   exact⟨by unfold digP;rw[hinv,Bool.and_false];rfl,rfl⟩
  ·rw[digB_t (by omega) (by omega),Bool.true_and]at hinv
   ((conv=>whnf);repeat(any_goals((first|(refine IdxH.nat i rfl (by omega) ?_;(conv=>whnf);rw[hc])|refine Vc.stp ?_)<;>(intros;(conv=>whnf)))))
   exact⟨i+1,⟨rfl,trivial⟩,⟨rfl,by omega,hinv⟩,by omega⟩
 ·rw[List.drop_of_length_le (by omega),List.all_nil]at hinv
  cases s with
  |nil=>
   ((conv=>whnf);repeat(any_goals((first|refine Vc.stp ?_)<;>(intros;(conv=>whnf)))))
   exact⟨by show Value.bool (!((mkS []).toList==(mkS []).toList))=_;rw[beq_self_eq_true];rfl,rfl⟩
  |cons c t=>
   have hne:=ne_empty c t
   have hdp:digP (c::t)=true:=by unfold digP;rw[hinv];simp
   ((conv=>whnf);repeat(any_goals((first|refine Vc.stp ?_)<;>(intros;(conv=>whnf)))))
   exact⟨by rw[hdp];show Value.bool (!((mkS (c::t)).toList==_))=_;rw[hne];rfl,rfl⟩
theorem nani_any (a:Int) (H:Heap):CallH Tryz.prog 173 [.int .i64 a] H fun x H'=>x= .bool false∧H=H':=by
 refine Vc.CallH.body Tryz.func173 Tryz.call173 rfl (by decide+kernel) rfl ?_
 ((conv=>whnf);repeat(any_goals((first|refine Vc.stp ?_)<;>(intros;(conv=>whnf)))))
 exact⟨by simp;rfl,rfl⟩
theorem cmpi_any (a b:Int) (H:Heap):CallH Tryz.prog 135 [.int .i64 a,.int .i64 b] H fun x H'=>x= .int .i64 (cmpI a b)∧H=H':=by
 refine Vc.CallH.body Tryz.func135 Tryz.call135 rfl (by decide+kernel) rfl ?_
 rcases Int.lt_trichotomy a b with h|h|h
 ·rw[cmpI_lt h]
  ((conv=>whnf);repeat(any_goals((first|(refine(nani_any _ _).mono ?_;rintro _ _ ⟨rfl,rfl⟩)|refine Vc.stp ?_)<;>(intros;(conv=>whnf)))))
  exact⟨rfl,rfl⟩
 ·subst h
  rw[cmpI_eq]
  ((conv=>whnf);repeat(any_goals((first|(refine(nani_any _ _).mono ?_;rintro _ _ ⟨rfl,rfl⟩)|refine Vc.stp ?_)<;>(intros;(conv=>whnf)))))
  exact⟨rfl,rfl⟩
 ·rw[cmpI_gt h]
  ((conv=>whnf);repeat(any_goals((first|(refine(nani_any _ _).mono ?_;rintro _ _ ⟨rfl,rfl⟩)|refine Vc.stp ?_)<;>(intros;(conv=>whnf)))))
  exact⟨rfl,rfl⟩
theorem nans_any (a:Bs) (H:Heap):CallH Tryz.prog 112 [.string (mkS a)] H fun x H'=>x= .bool false∧H=H':=by
 refine Vc.CallH.body Tryz.func112 Tryz.call112 rfl (by decide+kernel) rfl ?_
 ((conv=>whnf);repeat(any_goals((first|refine Vc.stp ?_)<;>(intros;(conv=>whnf)))))
 exact⟨by simp;rfl,rfl⟩
theorem cmps_any (a b:Bs) (H:Heap):CallH Tryz.prog 70 [.string (mkS a),.string (mkS b)] H fun x H'=>x= .int .i64 (cmpT a b)∧H=H':=by
 refine Vc.CallH.body Tryz.func70 Tryz.call70 rfl (by decide+kernel) rfl ?_
 have ea:(mkS a).toList=a:=toListS a
 have eb:(mkS b).toList=b:=toListS b
 by_cases h1:Op.bytesLess a b=true
 ·have h2:Op.bytesLess (mkS a).toList (mkS b).toList=true:=by rw[ea,eb];exact h1
  have h3:cmpT a b= -1:=cmpT_lt.2 h1
  rw[h3]
  ((conv=>whnf);repeat(any_goals((first|(refine(nans_any _ _).mono ?_;rintro _ _ ⟨rfl,rfl⟩)|refine Vc.stp ?_)<;>(intros;(conv=>whnf)))))
  exact⟨rfl,rfl⟩
 ·have h1:Op.bytesLess a b=false:=by simpa using h1
  have h2:Op.bytesLess (mkS a).toList (mkS b).toList=false:=by rw[ea,eb];exact h1
  by_cases h4:a=b
  ·have h5:(Op.bytesLess (mkS a).toList (mkS b).toList || (mkS a).toList==(mkS b).toList)=true:=by rw[h2,h4,beq_self_eq_true];rfl
   have h3:cmpT a b=0:=(lin_text.eq a b).2 h4
   rw[h3]
   ((conv=>whnf);repeat(any_goals((first|(refine(nans_any _ _).mono ?_;rintro _ _ ⟨rfl,rfl⟩)|refine Vc.stp ?_)<;>(intros;(conv=>whnf)))))
   exact⟨rfl,rfl⟩
  ·have h5:(Op.bytesLess (mkS a).toList (mkS b).toList || (mkS a).toList==(mkS b).toList)=false:=by rw[h2,ea,eb];simpa using h4
   have h3:cmpT a b=1:=lin_text.gt.2 (cmpT_lt.2 (Go.Tre.lt_tri h1 h4))
   rw[h3]
   ((conv=>whnf);repeat(any_goals((first|(refine(nans_any _ _).mono ?_;rintro _ _ ⟨rfl,rfl⟩)|refine Vc.stp ?_)<;>(intros;(conv=>whnf)))))
   exact⟨rfl,rfl⟩
def orI:List Int→Int
 |[]=>0
 |x::l=>if x=0 then orI l else x
theorem orI_cons (x:Int) (l:List Int):orI (x::l)=if x=0 then orI l else x:=rfl
theorem IdxA.ints {H:Heap} {a:Option Addr} {l:List Int} {n:Nat} {i:Int} {K:Addr→Prop} (h:Row H a (l.map fun x=>Value.int .i64 x)) (hn:l.length=n) (j:Nat) (x:Int) (hi:i=j) (hx:l[j]? =some x)
  (hk: ∀ b o,hcell H ⟨b,o+j,none⟩=some (.int .i64 x)→K ⟨b,o+j,none⟩):IdxA a n 1 i K:=by
 have hj:=(List.getElem?_eq_some_iff.1 hx).1
 rcases h.out with e|⟨b,o,e,hc⟩
 ·exfalso
  have:=congrArg List.length e
  simp at this
  subst this
  simp at hj
 ·subst e
  exact IdxA.at1 j hi (by omega) (hk b o (hc j _ (by rw[List.getElem?_map,hx];rfl)))
theorem or_any (l:List Int) (a:Option Addr) (n cap:Nat) (H:Heap) (hr:Row H a (l.map fun x=>Value.int .i64 x)) (hn:l.length=n) (hl:n≤1000000):CallH Tryz.prog 134 [.slice a n cap] H fun x H'=>x= .int .i64 (orI l)∧H=H':=by
 refine Vc.CallH.body Tryz.func134 Tryz.call134 rfl (by decide+kernel) rfl ?_
 ((conv=>whnf);repeat(any_goals((first|refine Vc.stp ?_)<;>(intros;(conv=>whnf)))))
 refine LoopH.intro (fun(i:Nat)=>[(8,.int .i64 i)]) (fun i H'=>H=H'∧i≤n∧orI l=orI (l.drop i)) (fun i=>n-i) 0 ⟨rfl,trivial⟩ ⟨rfl,Nat.zero_le _,rfl⟩ ?_
 rintro i _ ⟨rfl,hi,hinv⟩
 by_cases hlt:i<n
 ·obtain⟨x,hx⟩: ∃ x,l[i]? =some x:=⟨_,List.getElem?_eq_getElem (by omega)⟩
  have hd:l.drop i=x::l.drop (i+1):=by
   rw[List.drop_eq_getElem_cons (by omega)]
   rw[List.getElem?_eq_getElem (by omega)]at hx
   rw[Option.some.inj hx]
  rw[hd,orI_cons]at hinv
  by_cases h0:x=0
  ·rw[if_pos h0]at hinv
   ((conv=>whnf);repeat(any_goals((first|(refine IdxA.ints hr hn i x rfl hx ?_;intro _ _ _)|refine Vc.stp ?_)<;>(intros;(conv=>whnf)))))
   exact⟨i+1,⟨rfl,trivial⟩,⟨rfl,by omega,hinv⟩,by omega⟩
  ·rw[if_neg h0]at hinv
   ((conv=>whnf);repeat(any_goals((first|(refine IdxA.ints hr hn i x rfl hx ?_;intro _ _ _)|refine Vc.stp ?_)<;>(intros;(conv=>whnf)))))
   exact⟨by rw[hinv];rfl,rfl⟩
 ·rw[List.drop_of_length_le (by omega)]at hinv
  rw[show orI []=0 from rfl]at hinv
  ((conv=>whnf);repeat(any_goals((first|refine Vc.stp ?_)<;>(intros;(conv=>whnf)))))
  exact⟨by rw[hinv];rfl,rfl⟩
theorem or_two (x y:Int):orI [x,y]=if x=0 then y else x:=by
 rw[orI_cons,orI_cons]
 by_cases h:y=0
 ·rw[if_pos h,h];rfl
 ·rw[if_neg h]
theorem mark_two {a b:Bs} (ha:digP a=true) (hb:digP b=true):markC a b=orI [cmpI a.length b.length,cmpT a b]:=by
 rw[or_two]
 unfold markC markK lexC
 simp[ha,hb,cmpI_eq]
theorem mark_left {a b:Bs} (ha:digP a=true) (hb:digP b=false):markC a b= -1:=by
 unfold markC markK lexC
 simp[ha,hb,cmpI]
theorem mark_right {a b:Bs} (ha:digP a=false) (hb:digP b=true):markC a b=1:=by
 unfold markC markK lexC
 simp[ha,hb,cmpI]
theorem mark_none {a b:Bs} (ha:digP a=false) (hb:digP b=false):markC a b=cmpT a b:=by
 unfold markC markK lexC
 simp[ha,hb,cmpI,lexC]
set_option maxHeartbeats 4000000 in
theorem marks_any (a b:Bs) (ha:a.length≤1000000000) (hb:b.length≤1000000000) (H:Heap):CallH Tryz.prog 137 [.string (mkS a),.string (mkS b)] H fun x H'=>x= .int .i64 (markC a b)∧Ext H H':=by
 have hsa:(mkS a).size=a.length:=rfl
 have hsb:(mkS b).size=b.length:=rfl
 have hda:=fun H=>digits_any a ha H
 have hdb:=fun H=>digits_any b hb H
 refine Vc.CallH.body Tryz.func137 Tryz.call137 rfl (by decide+kernel) rfl ?_
 cases hA:digP a with
 |true=>
  cases hB:digP b with
  |true=>
   rw[hA]at hda
   rw[hB]at hdb
   rw[mark_two hA hB]
   ((conv=>whnf);repeat(any_goals((first|(refine(hda _).mono ?_;rintro _ _ ⟨rfl,rfl⟩)|(refine(hdb _).mono ?_;rintro _ _ ⟨rfl,rfl⟩)|(refine(cmpi_any _ _ _).mono ?_;rintro _ _ ⟨rfl,rfl⟩)|(refine(cmps_any _ _ _).mono ?_;rintro _ _ ⟨rfl,rfl⟩)|(rename_i Hm zm bm xm;refine(or_any [cmpI a.length b.length,cmpT a b] _ 2 2 _ (Blk.row (c:=[.int .i64 (cmpI a.length b.length),.int .i64 (cmpT a b)]) bm) rfl (by decide)).mono ?_;rintro _ _ ⟨rfl,rfl⟩)|refine Vc.stp ?_)<;>(intros;(conv=>whnf)))))
   exact⟨rfl,by exact Vc.xt⟩
  |false=>
   rw[hA]at hda
   rw[hB]at hdb
   rw[mark_left hA hB]
   ((conv=>whnf);repeat(any_goals((first|(refine(hda _).mono ?_;rintro _ _ ⟨rfl,rfl⟩)|(refine(hdb _).mono ?_;rintro _ _ ⟨rfl,rfl⟩)|refine Vc.stp ?_)<;>(intros;(conv=>whnf)))))
   exact⟨rfl,by exact Vc.xt⟩
 |false=>
  cases hB:digP b with
  |true=>
   rw[hA]at hda
   rw[hB]at hdb
   rw[mark_right hA hB]
   ((conv=>whnf);repeat(any_goals((first|(refine(hda _).mono ?_;rintro _ _ ⟨rfl,rfl⟩)|(refine(hdb _).mono ?_;rintro _ _ ⟨rfl,rfl⟩)|refine Vc.stp ?_)<;>(intros;(conv=>whnf)))))
   exact⟨rfl,by exact Vc.xt⟩
  |false=>
   rw[hA]at hda
   rw[hB]at hdb
   rw[mark_none hA hB]
   ((conv=>whnf);repeat(any_goals((first|(refine(hda _).mono ?_;rintro _ _ ⟨rfl,rfl⟩)|(refine(hdb _).mono ?_;rintro _ _ ⟨rfl,rfl⟩)|(refine(cmps_any _ _ _).mono ?_;rintro _ _ ⟨rfl,rfl⟩)|refine Vc.stp ?_)<;>(intros;(conv=>whnf)))))
   exact⟨rfl,by exact Vc.xt⟩
end Go.Proofs.YtjdieklgoepdjaaGreatDoor
namespace Go.Slv
def moreN (n:Nat):Nat:=if 999999999≤n then n else n+1
def nextV (v:VerP) (part:Nat):VerP:=
 if part=0 then(if v.ma<999999999 then⟨v.ma+1,0,0,[]⟩else⟨v.ma,v.mi,v.pa,[]⟩)
 else if part=1 then(if v.mi<999999999 then⟨v.ma,v.mi+1,0,[]⟩else⟨v.ma,v.mi,v.pa,[]⟩)
 else⟨v.ma,v.mi,moreN v.pa,[]⟩
end Go.Slv
namespace Go.Proofs.YtjdieklgoepdjaaGreatDoor
open Go Go.Vc Go.Scr Go.Slv
theorem rmore_any (n:Nat) (hn:n≤1000000000) (H:Heap):CallH Tryz.prog 175 [.int .i64 n] H fun x H'=>x= .int .i64 (moreN n)∧H=H':=by
 refine Vc.CallH.body Tryz.func175 Tryz.call175 rfl (by decide+kernel) rfl ?_
 unfold moreN
 by_cases h:999999999≤n
 ·rw[if_pos h]
  ((conv=>whnf);repeat(any_goals((first|refine Vc.stp ?_)<;>(intros;(conv=>whnf)))))
  exact⟨rfl,rfl⟩
 ·rw[if_neg h]
  ((conv=>whnf);repeat(any_goals((first|refine Vc.stp ?_)<;>(intros;(conv=>whnf)))))
  exact⟨rfl,rfl⟩
set_option maxHeartbeats 4000000 in
theorem rnext_any (v:VerP) (hv:VerB v) (part:Nat) (hp:part≤2) (y:Value) (H:Heap) (hy:VerO H v y):CallH Tryz.prog 138 [y,.int .i64 part] H fun x H'=>x=verC (nextV v part) none 0∧Ext H H':=by
 obtain⟨a,c,ey,hc,hr⟩:=hy.out
 subst ey
 have b1:=hv.ma
 have b2:=hv.mi
 have b3:=hv.pa
 refine Vc.CallH.body Tryz.func138 Tryz.call138 rfl (by decide+kernel) rfl ?_
 unfold verC
 rcases (by omega:part=0∨part=1∨part=2)with rfl|rfl|rfl
 ·by_cases h:v.ma<999999999
  ·rw[show nextV v 0=⟨v.ma+1,0,0,[]⟩by unfold nextV;rw[if_pos rfl,if_pos h]]
   ((conv=>whnf);repeat(any_goals((first|(refine PureH.build #[.int .i64 ((v.ma:Int)+1),.int .i64 0,.int .i64 0,.slice none 0 0] (by kernel_rfl) ?_)|refine Vc.stp ?_)<;>(intros;(conv=>whnf)))))
   exact⟨rfl,by exact Vc.xt⟩
  ·rw[show nextV v 0=⟨v.ma,v.mi,v.pa,[]⟩by unfold nextV;rw[if_pos rfl,if_neg h]]
   ((conv=>whnf);repeat(any_goals((first|refine Vc.stp ?_)<;>(intros;(conv=>whnf)))))
   exact⟨rfl,by exact Vc.xt⟩
 ·by_cases h:v.mi<999999999
  ·rw[show nextV v 1=⟨v.ma,v.mi+1,0,[]⟩by unfold nextV;rw[if_neg (by decide),if_pos rfl,if_pos h]]
   ((conv=>whnf);repeat(any_goals((first|(refine PureH.build #[.int .i64 v.ma,.int .i64 ((v.mi:Int)+1),.int .i64 0,.slice none 0 0] (by kernel_rfl) ?_)|refine Vc.stp ?_)<;>(intros;(conv=>whnf)))))
   exact⟨rfl,by exact Vc.xt⟩
  ·rw[show nextV v 1=⟨v.ma,v.mi,v.pa,[]⟩by unfold nextV;rw[if_neg (by decide),if_pos rfl,if_neg h]]
   ((conv=>whnf);repeat(any_goals((first|refine Vc.stp ?_)<;>(intros;(conv=>whnf)))))
   exact⟨rfl,by exact Vc.xt⟩
 ·rw[show nextV v 2=⟨v.ma,v.mi,moreN v.pa,[]⟩by unfold nextV;rw[if_neg (by decide),if_neg (by decide)]]
  ((conv=>whnf);repeat(any_goals((first|(refine(rmore_any v.pa (by omega) _).mono ?_;rintro _ _ ⟨rfl,rfl⟩)|refine Vc.stp ?_)<;>(intros;(conv=>whnf)))))
  exact⟨rfl,by exact Vc.xt⟩
end Go.Proofs.YtjdieklgoepdjaaGreatDoor
namespace Go.Slv
open Go.Scr
def wordsP (s:Txt):List Txt:=(splitF 32 s).filter fun w=>decide (w≠ [])
end Go.Slv
namespace Go.Proofs.YtjdieklgoepdjaaGreatDoor
open Go Go.Vc Go.Scr Go.Slv
structure WdS where
 i:Nat
 out:List Bs
 a:Option Addr
 cap:Nat
set_option maxHeartbeats 4000000 in
theorem rwords9_any (s:Bs) (hl:s.length≤100000000) (H:Heap):CallH Tryz.prog 93 [.string (mkS s)] H fun v H'=>(∃ a cap,v= .slice a (wordsP s).length cap∧Own H' H.size 9 1 a (wordsP s).length cap (strs (wordsP s)))∧Ext H H':=by
 have hsp:=fun H=>rsplit_any s 32 hl H
 have hql:=(splitF_len 32 s).1
 obtain⟨q,hq⟩: ∃ q,splitF 32 s=q:=⟨_,rfl⟩
 unfold wordsP
 rw[hq]at hsp hql ⊢
 refine Vc.CallH.body Tryz.func93 Tryz.call93 rfl (by decide+kernel) rfl ?_
 ((conv=>whnf);repeat(any_goals((first|(refine(hsp _).mono ?_;rintro _ H1 ⟨⟨a1,c1,rfl,ho1⟩,hx1⟩;have hz1:=hx1.size)|refine Vc.stp ?_)<;>(intros;(conv=>whnf)))))
 refine LoopH.intro (fun(x:WdS)=>[(5,.int .i64 x.i),(3,.slice x.a x.out.length x.cap)]) (fun x H'=>x.i≤q.length∧x.out.length≤x.i∧x.out=(q.take x.i).filter (fun w=>decide (w≠ []))∧Own H' H1.size 9 1 x.a x.out.length x.cap (strs x.out)∧Ext H1 H') (fun x=>q.length-x.i) ⟨0,[],none,0⟩ ⟨rfl,rfl,trivial⟩ ⟨Nat.zero_le _,Nat.le_refl _,rfl,Own.nil _ _ _ _,Ext.refl _⟩ ?_
 rintro⟨i,out,a,cap⟩ H2 ⟨hi,hol,hout,ho2,hx2⟩
 dsimp only at hi hol hout ho2 hx2 ⊢
 have hz2:=hx2.size
 by_cases hlt:i<q.length
 ·obtain⟨w,hw⟩: ∃ w,q[i]? =some w:=⟨_,List.getElem?_eq_getElem hlt⟩
  have ht:q.take (i+1)=q.take i++[w]:=by rw[List.take_add_one,hw];rfl
  by_cases hne:w=[]
  ·have e:((mkS w).toList==(⟨#[]⟩:ByteArray).toList)=true:=by show((mkS w).toList==(mkS []).toList)=true;rw[str_mk];exact decide_eq_true hne
   ((conv=>whnf);repeat(any_goals((first|(refine IdxA.strv (ho1.row.ext hx2) rfl i w (by omega) hw ?_;intro _ _ _ _ _)|refine Vc.stp ?_)<;>(intros;(conv=>whnf)))))
   exact⟨⟨i+1,out,a,cap⟩,⟨rfl,rfl,trivial⟩,⟨by show i+1≤_;omega,by show out.length≤i+1;omega,by show out=(q.take (i+1)).filter _;rw[ht,List.filter_append,←hout];simp[hne],ho2,hx2⟩,by show q.length-(i+1)<q.length-i;omega⟩
  ·have e:((mkS w).toList==(⟨#[]⟩:ByteArray).toList)=false:=by show((mkS w).toList==(mkS []).toList)=false;rw[str_mk];exact decide_eq_false hne
   ((conv=>whnf);repeat(any_goals((first|(refine IdxA.strv (ho1.row.ext hx2) rfl i w (by omega) hw ?_;intro _ _ _ _ _)|refine Vc.stp ?_)<;>(intros;(conv=>whnf)))))
   rename_i H5 hs5 hb5 hx5 b9 o9 q1 q2 q3 a6 c6 H6 ho6 hx6
   exact⟨⟨i+1,out++[w],a6,c6⟩,⟨rfl,sl_snocS _ _ _ _,trivial⟩,⟨by show i+1≤_;omega,by show(out++[_]).length≤i+1;simp;omega,by show out++[w]=(q.take (i+1)).filter _;rw[ht,List.filter_append,←hout];simp[hne],own_snocS rfl ho6,hx6⟩,by show q.length-(i+1)<q.length-i;omega⟩
 ·rw[List.take_of_length_le (by omega)]at hout
  ((conv=>whnf);repeat(any_goals((first|refine Vc.stp ?_)<;>(intros;(conv=>whnf)))))
  rw[←hout]
  exact⟨⟨a,cap,rfl,ho2.base (by omega)⟩,hx1.trans hx2⟩
end Go.Proofs.YtjdieklgoepdjaaGreatDoor
namespace Go.Proofs
open Go.Shelf
end Go.Proofs
namespace Go.Proofs.YtjdieklgoepdjaaGreatDoor
open Go Go.Vc Go.Scr Go.RowKit
theorem strings_any (A B:List Bs) (a b:Option Addr) (n m ca cb:Nat) (H:Heap) (hra:Row H a (strs A)) (hrb:Row H b (strs B)) (hn:A.length=n) (hm:B.length=m) (hl:n≤1000000000) (hl2:m≤1000000000):CallH Tryz.prog 23 [.slice a n ca,.slice b m cb] H fun v H'=>v= .bool (decide (A=B))∧H=H':=by
 refine Vc.CallH.body Tryz.func23 Tryz.call23 rfl (by decide+kernel) rfl ?_
 by_cases hnm:n=m
 ·subst hnm
  ((conv=>whnf);repeat(any_goals((first|refine Vc.stp ?_)<;>(intros;(conv=>whnf)))))
  refine LoopH.intro (fun(i:Nat)=>[(5,.int .i64 i)]) (fun i H'=>H=H'∧i≤n∧(A=B↔A.drop i=B.drop i)) (fun i=>n-i) 0 ⟨rfl,trivial⟩ ⟨rfl,Nat.zero_le _,Iff.rfl⟩ ?_
  rintro i _ ⟨rfl,hi,hinv⟩
  by_cases hlt:i<n
  ·have hda:A.drop i=A.getD i []::A.drop (i+1):=by
    rw[List.drop_eq_getElem_cons (by omega),List.getD_eq_getElem?_getD,List.getElem?_eq_getElem (by omega)];rfl
   have hdb:B.drop i=B.getD i []::B.drop (i+1):=by
    rw[List.drop_eq_getElem_cons (by omega),List.getD_eq_getElem?_getD,List.getElem?_eq_getElem (by omega)];rfl
   rw[hda,hdb,List.cons.injEq]at hinv
   by_cases he:A.getD i []=B.getD i []
   ·have es:((mkS (A.getD i [])).toList==(mkS (B.getD i [])).toList)=true:=by rw[str_mk];exact decide_eq_true he
    ((conv=>whnf);repeat(any_goals((first|(refine IdxA.strD hra hn i rfl hlt ?_;intro _ _ _ _ _)|(refine IdxA.strD hrb hm i rfl hlt ?_;intro _ _ _ _ _)|refine Vc.stp ?_|refine Vc.spl ?_ ?_)<;>(intros;(conv=>whnf)))))
    all_goals exact⟨i+1,⟨rfl,trivial⟩,⟨rfl,by omega,hinv.trans (and_iff_right he)⟩,by omega⟩
   ·have es:((mkS (A.getD i [])).toList==(mkS (B.getD i [])).toList)=false:=by rw[str_mk];exact decide_eq_false he
    ((conv=>whnf);repeat(any_goals((first|(refine IdxA.strD hra hn i rfl hlt ?_;intro _ _ _ _ _)|(refine IdxA.strD hrb hm i rfl hlt ?_;intro _ _ _ _ _)|refine Vc.stp ?_|refine Vc.spl ?_ ?_)<;>(intros;(conv=>whnf)))))
    all_goals exact⟨by rw[decide_eq_false (fun e=>he (hinv.1 e).1)];rfl,rfl⟩
  ·rw[List.drop_of_length_le (by omega),List.drop_of_length_le (by omega)]at hinv
   ((conv=>whnf);repeat(any_goals((first|refine Vc.stp ?_|refine Vc.spl ?_ ?_)<;>(intros;(conv=>whnf)))))
   exact⟨by rw[decide_eq_true (hinv.2 rfl)];rfl,rfl⟩
 ·((conv=>whnf);repeat(any_goals((first|refine Vc.stp ?_|refine Vc.spl ?_ ?_)<;>(intros;(conv=>whnf)))))
  exact⟨by rw[decide_eq_false (fun e=>hnm (by rw[←hn,←hm,e]))];rfl,rfl⟩
end Go.Proofs.YtjdieklgoepdjaaGreatDoor
namespace Go.Proofs
open Go.Shelf
end Go.Proofs
namespace Go.Proofs.YtjdieklgoepdjaaGreatDoor
open Go Go.Vc Go.RowKit Go.Sort
structure Glb (H:Heap):Prop where
 et:hcell H ⟨0,0,none⟩=some (.iface 245 (.agg #[.pointer (some ⟨5,118,none⟩)]))
theorem Glb.ext {H H':Heap} (h:Glb H) (k:Ext H H'):Glb H':=⟨hcell_keep h.et k id⟩
def I64 (n:Int):Prop:= -9223372036854775808≤n∧n≤9223372036854775807
theorem dd_len: ∀ (k u:Nat),u<10 ^ (k+1)→(Lib.decDigits u).length≤k+1
 |k,u,h=>by
  rw[Lib.decDigits]
  split
  ·simp
  ·cases k with
   |zero=>omega
   |succ k=>
    have:=dd_len k (u / 10) (by rw[Nat.pow_succ]at h;omega)
    simp;omega
theorem itoa_len (n:Int) (h:I64 n):(Lib.itoa n).length≤30:=by
 unfold I64 at h
 unfold Lib.itoa
 split
 ·have:=dd_len 18 n.natAbs (by show n.natAbs<10 ^ 19;omega)
  simp;omega
 ·have:=dd_len 18 n.toNat (by show n.toNat<10 ^ 19;omega)
  omega
end Go.Proofs.YtjdieklgoepdjaaGreatDoor
namespace Go.Vc
end Go.Vc
namespace Go.Proofs.YtjdieklgoepdjaaGreatDoor
open Go Go.Vc Go.RowKit Go.Sort
theorem dd_small {u:Nat} (h:u<10):Lib.decDigits u=[UInt8.ofNat (48+u)]:=by rw[Lib.decDigits,dif_pos h]
theorem dd_big {u:Nat} (h: ¬u<10):Lib.decDigits u=Lib.decDigits (u / 10)++Lib.decDigits (u % 10):=by
 rw[Lib.decDigits,dif_neg h,dd_small (Nat.mod_lt u (by decide))]
theorem itoa_nat (u:Nat):Lib.itoa (u:Int)=Lib.decDigits u:=by unfold Lib.itoa;rw[if_neg (by omega)];simp
def digs:Bs:=[48,49,50,51,52,53,54,55,56,57]
theorem digs_at (u:Nat) (h:u<10):(mkS digs).extract u (u+1)=mkS (Lib.decDigits u):=by
 rw[dd_small h,mkS_ext,show u+1-u=1 by omega]
 have:u=0∨u=1∨u=2∨u=3∨u=4∨u=5∨u=6∨u=7∨u=8∨u=9:=by omega
 rcases this with rfl|rfl|rfl|rfl|rfl|rfl|rfl|rfl|rfl|rfl<;>rfl
end Go.Proofs.YtjdieklgoepdjaaGreatDoor
namespace Go.Proofs.YtjdieklgoepdjaaGreatDoor
open Go Go.Vc Go.Scr
theorem rdec_ind: ∀ (k n:Nat),n≤k→n≤9223372036854775807→ ∀ H,CallH Tryz.prog 32 [.int .i64 n] H fun v H'=>v= .string (mkS (Lib.decDigits n))∧H=H'
 |k,n,hk,hn,H=>by
  have hdl:(⟨#[48,49,50,51,52,53,54,55,56,57]⟩:ByteArray).size=10:=rfl
  refine Vc.CallH.body Tryz.func32 Tryz.call32 rfl (by decide+kernel) rfl ?_
  by_cases h10:n<10
  ·have hmx:max (n:Int) 0=(n:Int):=by omega
   have hda:=digs_at n h10
   ((conv=>whnf);repeat(any_goals((first|(rw[hmx])|(refine BndH.nat (n+1) (by omega) (by omega) ?_)|(refine BndH.nat n (by omega) (by omega) ?_;(conv=>whnf))|refine Vc.stp ?_)<;>(intros;(conv=>whnf)))))
   exact⟨by show Value.string _=_;exact congrArg _ hda,rfl⟩
  ·obtain⟨k,rfl⟩: ∃ k',k=k'+1:=⟨k-1,by omega⟩
   have c1:=fun H=>rdec_ind k (n / 10) (by omega) (by omega) H
   have hda:=digs_at (n % 10) (by omega)
   have l1:(Lib.decDigits (n / 10)).length≤20:=by have:=dd_len 19 (n / 10) (by omega);omega
   have hdm:(mkS (Lib.decDigits (n % 10))).size≤1:=by rw[dd_small (by omega)];exact Nat.le_refl _
   have hda':({data:= #[48,49,50,51,52,53,54,55,56,57]}:ByteArray).extract (n % 10) (n % 10+1)=mkS (Lib.decDigits (n % 10)):=hda
   have hl1:(mkS (Lib.decDigits (n / 10))).size≤20:=l1
   ((conv=>whnf);repeat(any_goals((first|(refine(c1 _).mono ?_;rintro _ _ ⟨rfl,rfl⟩)|(refine NeedH.mk ⟨by rw[hda'];omega,?_⟩;rw[hda'])|(refine BndH.nat (n % 10+1) (by omega) (by omega) ?_)|(refine BndH.nat (n % 10) (by omega) (by omega) ?_;(conv=>whnf))|refine Vc.stp ?_)<;>(intros;(conv=>whnf)))))
   exact⟨by show Value.string (mkS _++mkS _)=_;rw[mkS_app,←dd_big h10],rfl⟩
theorem rdec_any (n:Nat) (hn:n≤9223372036854775807) (H:Heap):CallH Tryz.prog 32 [.int .i64 n] H fun v H'=>v= .string (mkS (Lib.itoa (n:Int)))∧H=H':=by
 rw[itoa_nat];exact rdec_ind n n (Nat.le_refl _) hn H
end Go.Proofs.YtjdieklgoepdjaaGreatDoor
namespace Go.Slv
open Go.Scr
def preT:List Txt→Txt
 |[]=>[]
 |m::l=>45::(m++(l.map fun x=>46::x).flatten)
theorem preT_app (a b:List Txt) (h:a≠ []):preT (a++b)=preT a++(b.map fun x=>46::x).flatten:=by
 cases a with
 |nil=>exact absurd rfl h
 |cons m l=>simp[preT]
theorem preT_snoc (l:List Txt) (m:Txt):preT (l++[m])=if l=[]then 45::m else preT l++46::m:=by
 by_cases h:l=[]
 ·rw[if_pos h,h];simp[preT]
 ·rw[if_neg h,preT_app _ _ h];simp
theorem preT_take (l:List Txt) (i:Nat):(preT (l.take i)).length≤(preT l).length:=by
 by_cases h:l.take i=[]
 ·rw[h];simp[preT]
 ·have:=preT_app (l.take i) (l.drop i) h
  rw[List.take_append_drop]at this
  rw[this,List.length_append];omega
def numT (v:VerP):Txt:=Lib.itoa (v.ma:Int)++46::(Lib.itoa (v.mi:Int)++46::Lib.itoa (v.pa:Int))
def verT (v:VerP):Txt:=numT v++preT v.pre
end Go.Slv
namespace Go.Proofs.YtjdieklgoepdjaaGreatDoor
open Go Go.Vc Go.Scr Go.Slv
theorem szL2 (l:List UInt8):ByteArray.size ⟨l.toArray⟩=l.length:=rfl
theorem szM2 (l:List UInt8):(mkS l).size=l.length:=rfl
set_option maxHeartbeats 4000000 in
theorem rvtext_any (v:VerP) (hb:v.ma≤1000000000∧v.mi≤1000000000∧v.pa≤1000000000∧v.pre.length≤1000000000) (hT:(preT v.pre).length≤1000000000000) (a:Option Addr) (cap:Nat) (H:Heap) (hr:Row H a (strs v.pre)):CallH Tryz.prog 89 [verC v a cap] H fun x H'=>x= .string (mkS (verT v))∧Ext H H':=by
 obtain⟨b1,b2,b3,b4⟩:=hb
 have l1:=itoa_len (v.ma:Int) ⟨by omega,by omega⟩
 have l2:=itoa_len (v.mi:Int) ⟨by omega,by omega⟩
 have l3:=itoa_len (v.pa:Int) ⟨by omega,by omega⟩
 refine Vc.CallH.body Tryz.func89 Tryz.call89 rfl (by decide+kernel) rfl ?_
 unfold verC
 ((conv=>whnf);repeat(any_goals((first|(refine(rdec_any v.ma (by omega) _).mono ?_;rintro _ _ ⟨rfl,rfl⟩)|(refine(rdec_any v.mi (by omega) _).mono ?_;rintro _ _ ⟨rfl,rfl⟩)|(refine(rdec_any v.pa (by omega) _).mono ?_;rintro _ _ ⟨rfl,rfl⟩)|(refine NeedH.mk ⟨by(simp only[ByteArray.size_append,szL2,szM2,List.length_cons,List.length_nil];omega),?_⟩)|((with_reducible refine Vc.DrawH.held [0,1,4,5,9,10,2,3,6,7,8,11,12,13] [(2,[5,10]),(6,[10])] mixed (by decide+kernel) ?_))|refine Vc.stp ?_)<;>(intros;(conv=>whnf)))))
 rename_i H1 z1 g1 x1
 have hnl:(numT v).length≤100:=by unfold numT;simp only[List.length_append,List.length_cons];omega
 have hs0:(((mkS (Lib.itoa (v.ma:Int))++(⟨#[46]⟩:ByteArray))++mkS (Lib.itoa (v.mi:Int)))++(⟨#[46]⟩:ByteArray))++mkS (Lib.itoa (v.pa:Int))=mkS (numT v++preT (v.pre.take 0)):=by
  rw[show(⟨#[46]⟩:ByteArray)=mkS [46]from rfl]
  simp only[mkS_app,numT,preT,List.take_zero,List.append_nil,List.append_assoc]
  rfl
 refine LoopH.intro (fun(i:Nat)=>[(4,.int .i64 i),(3,.string (mkS (numT v++preT (v.pre.take i))))]) (fun i H'=>H1=H'∧i≤v.pre.length) (fun i=>v.pre.length-i) 0 ⟨rfl,by rw[←hs0];rfl,trivial⟩ ⟨rfl,Nat.zero_le _⟩ ?_
 rintro i _ ⟨rfl,hi⟩
 have hpl:=preT_take v.pre i
 have hsl:(numT v++preT (v.pre.take i)).length=(numT v).length+(preT (v.pre.take i)).length:=List.length_append
 by_cases hlt:i<v.pre.length
 ·obtain⟨m,hm⟩: ∃ m,v.pre[i]? =some m:=⟨_,List.getElem?_eq_getElem hlt⟩
  have hpl2:=preT_take v.pre (i+1)
  have e1:v.pre.take (i+1)=v.pre.take i++[m]:=by rw[List.take_add_one,hm];rfl
  rw[e1,preT_snoc]at hpl2
  by_cases h0:i=0
  ·subst h0
   have e0:v.pre.take 0=[]:=List.take_zero
   rw[if_pos e0]at hpl2
   simp only[List.length_cons]at hpl2
   ((conv=>whnf);repeat(any_goals((first|(refine IdxA.strv (hr.ext x1) rfl 0 m rfl hm ?_;intro _ _ _ _ _)|(refine NeedH.mk ⟨by(simp only[ByteArray.size_append,szL2,szM2,List.length_cons,List.length_nil];omega),?_⟩)|((with_reducible refine Vc.DrawH.held [0,1,4,5,9,10,2,3,6,7,8,11,12,13] [(2,[5,10]),(6,[10])] mixed (by decide+kernel) ?_))|refine Vc.stp ?_)<;>(intros;(conv=>whnf)))))
   exact⟨0+1,⟨rfl,by show Value.string _=Value.string _;rw[e1,preT_snoc,if_pos e0,show(⟨#[45]⟩:ByteArray)=mkS [45]from rfl,mkS_app,mkS_app,e0];simp[preT],trivial⟩,⟨rfl,by omega⟩,by omega⟩
  ·have e0:v.pre.take i≠ []:=fun e=>by
    have:=congrArg List.length e
    rw[List.length_take,List.length_nil]at this
    omega
   rw[if_neg e0,List.length_append]at hpl2
   simp only[List.length_cons]at hpl2
   ((conv=>whnf);repeat(any_goals((first|(refine IdxA.strv (hr.ext x1) rfl i m rfl hm ?_;intro _ _ _ _ _)|(refine NeedH.mk ⟨by(simp only[ByteArray.size_append,szL2,szM2,List.length_cons,List.length_nil];omega),?_⟩)|((with_reducible refine Vc.DrawH.held [0,1,4,5,9,10,2,3,6,7,8,11,12,13] [(2,[5,10]),(6,[10])] mixed (by decide+kernel) ?_))|refine Vc.stp ?_)<;>(intros;(conv=>whnf)))))
   exact⟨i+1,⟨rfl,by show Value.string _=Value.string _;rw[e1,preT_snoc,if_neg e0,show(⟨#[46]⟩:ByteArray)=mkS [46]from rfl,mkS_app,mkS_app];simp,trivial⟩,⟨rfl,by omega⟩,by omega⟩
 ·have e:v.pre.take i=v.pre:=List.take_of_length_le (by omega)
  ((conv=>whnf);repeat(any_goals((first|((with_reducible refine Vc.DrawH.held [0,1,4,5,9,10,2,3,6,7,8,11,12,13] [(2,[5,10]),(6,[10])] mixed (by decide+kernel) ?_))|refine Vc.stp ?_)<;>(intros;(conv=>whnf)))))
  exact⟨by unfold verT;rw[e];rfl,x1⟩
end Go.Proofs.YtjdieklgoepdjaaGreatDoor
namespace Go.Vc
variable {α:Type}
inductive LstV (E:Heap→α→List Value→Prop) (H:Heap):List α→List Value→Prop
 |nil:LstV E H [] []
 |cons {x:α} {c vs:List Value} {l:List α}:E H x c→LstV E H l vs→LstV E H (x::l) (c++vs)
structure EncOk (E:Heap→α→List Value→Prop) (s:Nat):Prop where
 len: ∀ {H x c},E H x c→c.length=s
 ext: ∀ {H H' x c},Ext H H'→E H x c→E H' x c
 plain: ∀ {H x c},E H x c→ ∀ u∈c,plainV u=true
theorem LstV.len {E:Heap→α→List Value→Prop} {s:Nat} (ok:EncOk E s) {H:Heap} {l:List α} {vs:List Value} (h:LstV E H l vs):vs.length=l.length*s:=by
 induction h with
 |nil=>simp
 |cons hc _ ih=>rw[List.length_append,ih,ok.len hc,List.length_cons,Nat.succ_mul,Nat.add_comm]
theorem LstV.ext {E:Heap→α→List Value→Prop} {s:Nat} (ok:EncOk E s) {H H':Heap} {l:List α} {vs:List Value} (h:LstV E H l vs) (k:Ext H H'):LstV E H' l vs:=by
 induction h with
 |nil=>exact .nil
 |cons hc _ ih=>exact .cons (ok.ext k hc) ih
theorem LstV.plain {E:Heap→α→List Value→Prop} {s:Nat} (ok:EncOk E s) {H:Heap} {l:List α} {vs:List Value} (h:LstV E H l vs): ∀ u∈vs,plainV u=true:=by
 induction h with
 |nil=>intro u hu;cases hu
 |cons hc _ ih=>
  intro u hu
  rcases List.mem_append.1 hu with hu|hu
  ·exact ok.plain hc u hu
  ·exact ih u hu
theorem LstV.get {E:Heap→α→List Value→Prop} {s:Nat} (ok:EncOk E s) {H:Heap} {l:List α} {vs:List Value} (h:LstV E H l vs): ∀ {j:Nat} {x:α},l[j]? =some x→ ∃ c,E H x c∧ ∀ k v,c[k]? =some v→vs[j*s+k]? =some v:=by
 induction h with
 |nil=>intro j x hx;cases hx
 |cons hc hr ih=>
  intro j x hx
  rename_i y c vs l
  cases j with
  |zero=>
   injection hx with hx
   subst hx
   exact⟨c,hc,fun k v hk=>by rw[Nat.zero_mul,Nat.zero_add,List.getElem?_append_left (List.getElem?_eq_some_iff.1 hk).1];exact hk⟩
  |succ j=>
   obtain⟨c',h1,h2⟩:=ih (j:=j) hx
   refine⟨c',h1,fun k v hk=> ?_⟩
   have hl:=ok.len hc
   rw[List.getElem?_append_right (by rw[hl,Nat.succ_mul];omega),hl,show(j+1)*s+k-s=j*s+k by rw[Nat.succ_mul];omega]
   exact h2 k v hk
theorem LstV.drop {E:Heap→α→List Value→Prop} {s:Nat} (ok:EncOk E s) {H:Heap} {l:List α} {vs:List Value} (h:LstV E H l vs): ∀ k:Nat,LstV E H (l.drop k) (vs.drop (k*s)):=by
 induction h with
 |nil=>intro k;simp;exact .nil
 |cons hc hr ih=>
  intro k
  rename_i y c vs l
  cases k with
  |zero=>rw[Nat.zero_mul];exact .cons hc hr
  |succ k=>
   have hl:=ok.len hc
   rw[List.drop_succ_cons,List.drop_append,hl,show(k+1)*s-s=k*s by rw[Nat.succ_mul];omega,List.drop_of_length_le (show c.length≤(k+1)*s by rw[hl,Nat.succ_mul];omega),List.nil_append]
   exact ih k
theorem LstV.take {E:Heap→α→List Value→Prop} {s:Nat} (ok:EncOk E s) {H:Heap} {l:List α} {vs:List Value} (h:LstV E H l vs): ∀ k:Nat,LstV E H (l.take k) (vs.take (k*s)):=by
 induction h with
 |nil=>intro k;simp;exact .nil
 |cons hc hr ih=>
  intro k
  rename_i y c vs l
  cases k with
  |zero=>rw[Nat.zero_mul,List.take_zero,List.take_zero];exact .nil
  |succ k=>
   have hl:=ok.len hc
   rw[List.take_succ_cons,List.take_append,hl,show(k+1)*s-s=k*s by rw[Nat.succ_mul];omega,List.take_of_length_le (show c.length≤(k+1)*s by rw[hl,Nat.succ_mul];omega)]
   exact .cons hc (ih k)
structure RowE (E:Heap→α→List Value→Prop) (H:Heap) (a:Option Addr) (l:List α):Prop where
 out: ∃ vs,Row H a vs∧LstV E H l vs
theorem RowE.ext {E:Heap→α→List Value→Prop} {s:Nat} (ok:EncOk E s) {H H':Heap} {a:Option Addr} {l:List α} (h:RowE E H a l) (k:Ext H H'):RowE E H' a l:=by
 obtain⟨vs,h1,h2⟩:=h.out
 exact⟨vs,h1.ext k,h2.ext ok k⟩
theorem IdxA.el {E:Heap→α→List Value→Prop} {s:Nat} (ok:EncOk E s) (hs:0<s) {H:Heap} {a:Option Addr} {l:List α} {n:Nat} {i:Int} {K:Addr→Prop} (h:RowE E H a l) (hn:l.length=n) (j:Nat) (x:α) (hi:i=j) (hx:l[j]? =some x)
  (hk: ∀ b o c,E H x c→(∀ k v,c[k]? =some v→hcell H ⟨b,o+k,none⟩=some v)→K ⟨b,o,none⟩):IdxA a n s i K:=by
 obtain⟨vs,h1,h2⟩:=h.out
 have hj:=(List.getElem?_eq_some_iff.1 hx).1
 obtain⟨c,g1,g2⟩:=h2.get ok hx
 refine Go.Vc.IdxA.row (size:=s) h1 (by rw[h2.len ok,hn]) hs j hi (by omega) fun b o k1 k2 k3=> ?_
 exact hk b (o+j*s) c g1 fun k v hv=>k3 k v (g2 k v hv)
end Go.Vc
namespace Go.Proofs.YtjdieklgoepdjaaGreatDoor
open Go Go.Vc Go.Scr Go.Slv
def bndE (H:Heap) (b:BndP) (c:List Value):Prop:=∃ a cap,c=[.string (mkS b.sign),.int .i64 b.v.ma,.int .i64 b.v.mi,.int .i64 b.v.pa,.slice a b.v.pre.length cap]∧b.v.pre.length≤cap∧Row H a (strs b.v.pre)
theorem bnd_ok:EncOk bndE 5:=⟨fun⟨_,_,e,_⟩=>by rw[e];rfl,fun k ⟨a,cap,e,h,r⟩=>⟨a,cap,e,h,r.ext k⟩,fun⟨_,_,e,_⟩ u hu=>by
 rw[e]at hu
 simp at hu
 rcases hu with rfl|rfl|rfl|rfl|rfl<;>rfl⟩
def bndsE (H:Heap) (l:List BndP) (c:List Value):Prop:=∃ a cap,c=[.slice a l.length cap]∧l.length≤cap∧RowE bndE H a l
theorem bnds_ok:EncOk bndsE 1:=⟨fun⟨_,_,e,_⟩=>by rw[e];rfl,fun k ⟨a,cap,e,h,r⟩=>⟨a,cap,e,h,r.ext bnd_ok k⟩,fun⟨_,_,e,_⟩ u hu=>by
 rw[e]at hu
 simp at hu
 rcases hu with rfl;rfl⟩
def needE (H:Heap) (n:NeedP) (c:List Value):Prop:=∃ a cap,c=[.string (mkS n.name),.bool n.span.any,.slice a n.span.or_.length cap,.string (mkS n.text)]∧n.span.or_.length≤cap∧RowE bndsE H a n.span.or_
theorem need_ok:EncOk needE 4:=⟨fun⟨_,_,e,_⟩=>by rw[e];rfl,fun k ⟨a,cap,e,h,r⟩=>⟨a,cap,e,h,r.ext bnds_ok k⟩,fun⟨_,_,e,_⟩ u hu=>by
 rw[e]at hu
 simp at hu
 rcases hu with rfl|rfl|rfl|rfl<;>rfl⟩
def rowE (H:Heap) (r:RowP) (c:List Value):Prop:=∃ pa pc na nc,c=[.string (mkS r.name),.int .i64 r.v.ma,.int .i64 r.v.mi,.int .i64 r.v.pa,.slice pa r.v.pre.length pc]++strV r.sum++[.int .i64 r.size,.slice na r.needs.length nc]∧r.sum.length=32∧r.v.pre.length≤pc∧Row H pa (strs r.v.pre)∧r.needs.length≤nc∧RowE needE H na r.needs
theorem row_ok:EncOk rowE 39:=⟨fun⟨_,_,_,_,e,h,_⟩=>by rw[e];simp[strV,h],fun k ⟨pa,pc,na,nc,e,h,h1,r1,h2,r2⟩=>⟨pa,pc,na,nc,e,h,h1,r1.ext k,h2,r2.ext need_ok k⟩,fun⟨_,_,_,_,e,h,_⟩ u hu=>by
 rw[e]at hu
 simp[strV]at hu
 rcases hu with rfl|rfl|rfl|rfl|rfl|⟨_,_,rfl⟩|rfl|rfl<;>rfl⟩
end Go.Proofs.YtjdieklgoepdjaaGreatDoor
namespace Go.Vc
theorem NextH.appFull {P:Program} {H:Heap} {t u e ty:TypeId} {i:TypeInfo} {z:Value} {a:Option Addr} {n:Nat} {xs:List Value} {x:Value} {m:Nat} {news:List Value} {cb:Array Bool} {K:Value→Heap→Prop}
  (hr:Row H a xs) (hl:xs.length=n*i.size) (hsrc:Src P H x i.size m news) (hm:0<m)
  (ht:P.underlying t=some (.slice e)) (hu: ∃ d,P.underlying u=some d∧(∀ k,d≠ .int k)) (hi:P.info? e=some i) (hz:i.zero=some z) (hzs:z.cells.size=i.size)
  (h63:n+m≤maxLen) (hbytes:(n+m)*i.bytes≤140737488355328)
  (hk: ∀ cap' H',Own H' H.size e i.size (some ⟨H.size,0,none⟩) (n+m) cap' (xs++news)→Ext H H'→K (.slice (some ⟨H.size,0,none⟩) (n+m) cap') H'):
  NextH P (builtin .append #[t,u] ty cb #[.slice a n n,x]) H K:=by
 refine⟨fun w hw=> ?_⟩
 obtain⟨d,hu,hd⟩:=hu
 have hzero:(match d with| .int _=>true|_=>false)=false:=by cases d<;>first|rfl|exact absurd rfl (hd _)
 have hsmall:n+m≤9223372036854775807:=by have:=h63;simp only[maxLen]at this;omega
 have hlen:(xs++news).length=(n+m)*i.size:=by rw[List.length_append,hl,hsrc.len,Nat.add_mul]
 have hroom: ¬n+m≤n:=by omega
 have hroom': ¬m=0:=by omega
 have goal: ∀ {v w'},(Builtin.append_ #[t,u] ty #[.slice a n n,x]).run P w= .ok v w'→Same w w'→K v w'.heap→Nexts P w K ((builtin .append #[t,u] ty cb #[.slice a n n,x]).run P w):=by
  intro v w' hr hs hk
  simp only[builtin,Sem.run_bind,hr,Result.andThen_ok]
  exact⟨hs,hk⟩
 have hgrow:n<n+m:=by omega
 have h63': ¬(9223372036854775807<((n:Int)+(m:Int))):=by omega
 have hfit:=growslice_fits hgrow hbytes
 have h48: ¬(281474976710656<Builtin.nextslicecap (n+m) n*i.bytes):=by omega
 have hold: ∀ w':World,w'.heap=H→(Builtin.firstCells i.size n (.slice a n n)).run P w'= .ok xs.toArray w':=fun w' hw'=>run_firstRow hr hl w' hw'
 have hge:n+m≤grownCap w (n+m) n e:=grownCap_ge w (n+m) n e
 have hcm:grownCap w (n+m) n e≤maxLen:=grownCap_le_maxLen w (n+m) n e h63
 refine goal (v:= .slice (some ⟨w.heap.size,0,none⟩) (n+m) (grownCap w (n+m) n e))
  (w':=w.drew.alloc (.cells (xs.toArray++news.toArray++Builtin.zeroCells z.cells (grownCap w (n+m) n e-(n+m))) e)) ?_ ⟨rfl,rfl,rfl⟩ ?_
 ·have e1:=hold w.drew hw
  have e2:=hsrc.first w.drew hw
  simp[Builtin.append_,underlying_of ht,underlying_of hu,sizeOf_of hi,typeInfo_of hi,hzero,hsrc.lenOf,hroom,hroom',h63',h48,Question.forced,e1,e2,zeroValue,hz,newRow,grownCap]
  congr 2
  apply Array.ext'
  simp[List.append_assoc]
 ·subst hw
  refine hk _ _ ⟨hlen,.inr ⟨w.heap.size,_,rfl,Nat.le_refl _,Blk.new (push_last _ _),hge,hcm,?_,?_⟩⟩ (Only.push _ _ _)
  ·simp only[Array.size_append,List.size_toArray,size_zeroCells,hzs,hl,hsrc.len,←Nat.add_mul]
   congr 1
   omega
  ·simp only[Array.toList_append,List.append_assoc]
   rw[←List.append_assoc,←hlen]
   exact List.take_left
variable {α:Type}
theorem Blk.typ {H:Heap} {b:Nat} {c c':Array Value} {t t':TypeId} (h:Blk H b c t) (h':Blk H b c' t'):t=t':=by
 obtain⟨fr,h1,_⟩:=h.out
 obtain⟨fr',h2,_⟩:=h'.out
 rw[h1]at h2
 cases h2
 rfl
structure RowT (t:TypeId) (H:Heap) (a:Option Addr) (cs:List Value):Prop where
 row:Row H a cs
 typ:cs≠ []→ ∀ p,a=some p→ ∃ c,Blk H p.block c t
theorem RowT.nil (t:TypeId) (H:Heap) (a:Option Addr):RowT t H a []:=⟨Row.nil _ _,fun h=>absurd rfl h⟩
theorem RowT.keep {F:Nat→Prop} {t:TypeId} {H H':Heap} {a:Option Addr} {cs:List Value} (h:RowT t H a cs) (k:Only F H H') (hF: ∀ b c u,F b→Blk H b c u→u≠t):RowT t H' a cs:=by
 have hn:cs≠ []→ ∀ p,a=some p→ ¬F p.block:=fun h0 p hp hf=>by
  obtain⟨c,hc⟩:=h.typ h0 p hp
  exact hF _ c t hf hc rfl
 refine⟨h.row.keep' k hn,fun h0 p hp=> ?_⟩
 obtain⟨c,hc⟩:=h.typ h0 p hp
 exact⟨c,hc.keep k (hn h0 p hp)⟩
theorem RowT.ext {t:TypeId} {H H':Heap} {a:Option Addr} {cs:List Value} (h:RowT t H a cs) (k:Ext H H'):RowT t H' a cs:=h.keep k fun _ _ _ e=>e.elim
theorem Own.rowT {H:Heap} {base:Nat} {e:TypeId} {size:Nat} {a:Option Addr} {n cap:Nat} {xs:List Value} (h:Own H base e size a n cap xs):RowT e H a xs:=by
 refine⟨h.row,fun h0 p hp=> ?_⟩
 rcases h.out with ⟨h1,_⟩|⟨g,cur,h1,_,hb,_⟩
 ·rw[h1]at hp;cases hp
 ·rw[h1]at hp;cases hp
  exact⟨_,hb⟩
structure EncT (E:Heap→α→List Value→Prop) (s:Nat) (Ts:TypeId→Prop):Prop where
 len: ∀ {H x c},E H x c→c.length=s
 plain: ∀ {H x c},E H x c→ ∀ u∈c,plainV u=true
 keep: ∀ {F:Nat→Prop} {H H' x c},Only F H H'→(∀ b c u,F b→Blk H b c u→ ¬Ts u)→E H x c→E H' x c
theorem EncT.ok {E:Heap→α→List Value→Prop} {s:Nat} {Ts:TypeId→Prop} (h:EncT E s Ts):EncOk E s:=⟨h.len,fun k hx=>h.keep k (fun _ _ _ e=>e.elim) hx,h.plain⟩
theorem LstV.keep {E:Heap→α→List Value→Prop} {s:Nat} {Ts:TypeId→Prop} (ok:EncT E s Ts) {F:Nat→Prop} {H H':Heap} {l:List α} {vs:List Value} (h:LstV E H l vs) (k:Only F H H') (hF: ∀ b c u,F b→Blk H b c u→ ¬Ts u):LstV E H' l vs:=by
 induction h with
 |nil=>exact .nil
 |cons hc _ ih=>exact .cons (ok.keep k hF hc) ih
theorem LstV.app {E:Heap→α→List Value→Prop} {H:Heap} {l m:List α} {vs ws:List Value} (h:LstV E H l vs) (k:LstV E H m ws):LstV E H (l++m) (vs++ws):=by
 induction h with
 |nil=>exact k
 |cons h1 _ ih=>rw[List.cons_append,List.append_assoc];exact .cons h1 ih
theorem LstV.one {E:Heap→α→List Value→Prop} {H:Heap} {x:α} {c:List Value} (h:E H x c):LstV E H [x] c:=by
 have:=LstV.cons h (LstV.nil (E:=E) (H:=H));simpa using this
theorem LstV.mono {E E':Heap→α→List Value→Prop} {H:Heap} (hE: ∀ x c,E H x c→E' H x c) {l:List α} {vs:List Value} (h:LstV E H l vs):LstV E' H l vs:=by
 induction h with
 |nil=>exact .nil
 |cons h1 _ ih=>exact .cons (hE _ _ h1) ih
structure RowL (E:Heap→α→List Value→Prop) (t:TypeId) (H:Heap) (a:Option Addr) (l:List α):Prop where
 out: ∃ vs,RowT t H a vs∧LstV E H l vs
theorem RowL.nil (E:Heap→α→List Value→Prop) (t:TypeId) (H:Heap) (a:Option Addr):RowL E t H a []:=⟨[],RowT.nil _ _ _,.nil⟩
theorem RowL.keep {E:Heap→α→List Value→Prop} {s:Nat} {Ts:TypeId→Prop} (ok:EncT E s Ts) {t:TypeId} {F:Nat→Prop} {H H':Heap} {a:Option Addr} {l:List α} (h:RowL E t H a l) (k:Only F H H') (hF: ∀ b c u,F b→Blk H b c u→ ¬(u=t∨Ts u)):RowL E t H' a l:=by
 obtain⟨vs,h1,h2⟩:=h.out
 exact⟨vs,h1.keep k fun b c u e hb e'=>hF b c u e hb (.inl e'),h2.keep ok k fun b c u e hb e'=>hF b c u e hb (.inr e')⟩
theorem RowL.ext {E:Heap→α→List Value→Prop} {s:Nat} {Ts:TypeId→Prop} (ok:EncT E s Ts) {t:TypeId} {H H':Heap} {a:Option Addr} {l:List α} (h:RowL E t H a l) (k:Ext H H'):RowL E t H' a l:=h.keep ok k fun _ _ _ e=>e.elim
theorem RowL.to {E E':Heap→α→List Value→Prop} {t:TypeId} {H:Heap} {a:Option Addr} {l:List α} (hE: ∀ x c,E H x c→E' H x c) (h:RowL E t H a l):RowE E' H a l:=by
 obtain⟨vs,h1,h2⟩:=h.out
 exact⟨vs,h1.row,h2.mono hE⟩
structure OwnE (E:Heap→α→List Value→Prop) (s:Nat) (H:Heap) (base:Nat) (e:TypeId) (a:Option Addr) (l:List α) (cap:Nat):Prop where
 out: ∃ vs,Own H base e s a l.length cap vs∧LstV E H l vs
theorem OwnE.nil (E:Heap→α→List Value→Prop) (s:Nat) (H:Heap) (base:Nat) (e:TypeId):OwnE E s H base e none [] 0:=⟨[],Own.nil _ _ _ _,.nil⟩
theorem OwnE.ext {E:Heap→α→List Value→Prop} {s:Nat} (ok:EncOk E s) {H H':Heap} {base:Nat} {e:TypeId} {a:Option Addr} {l:List α} {cap:Nat} (h:OwnE E s H base e a l cap) (k:Ext H H'):OwnE E s H' base e a l cap:=by
 obtain⟨vs,h1,h2⟩:=h.out
 exact⟨vs,h1.ext k,h2.ext ok k⟩
theorem OwnE.keep {E:Heap→α→List Value→Prop} {s:Nat} {Ts:TypeId→Prop} (ok:EncT E s Ts) {F:Nat→Prop} {H H':Heap} {base:Nat} {e:TypeId} {a:Option Addr} {l:List α} {cap:Nat} (h:OwnE E s H base e a l cap) (k:Only F H H') (hF: ∀ b c u,F b→Blk H b c u→ ¬Ts u) (ha: ∀ p,a=some p→ ¬F p.block):OwnE E s H' base e a l cap:=by
 obtain⟨vs,h1,h2⟩:=h.out
 exact⟨vs,h1.keep k ha,h2.keep ok k hF⟩
theorem OwnE.row {E:Heap→α→List Value→Prop} {s:Nat} {H:Heap} {base:Nat} {e:TypeId} {a:Option Addr} {l:List α} {cap:Nat} (h:OwnE E s H base e a l cap):RowE E H a l:=by
 obtain⟨vs,h1,h2⟩:=h.out
 exact⟨vs,h1.row,h2⟩
theorem OwnE.rowL {E:Heap→α→List Value→Prop} {s:Nat} {H:Heap} {base:Nat} {e:TypeId} {a:Option Addr} {l:List α} {cap:Nat} (h:OwnE E s H base e a l cap):RowL E e H a l:=by
 obtain⟨vs,h1,h2⟩:=h.out
 exact⟨vs,h1.rowT,h2⟩
theorem OwnE.base {E:Heap→α→List Value→Prop} {s:Nat} {H:Heap} {base base':Nat} {e:TypeId} {a:Option Addr} {l:List α} {cap:Nat} (h:OwnE E s H base e a l cap) (hb:base'≤base):OwnE E s H base' e a l cap:=by
 obtain⟨vs,h1,h2⟩:=h.out
 exact⟨vs,h1.base hb,h2⟩
theorem OwnE.cap_le {E:Heap→α→List Value→Prop} {s:Nat} {H:Heap} {base:Nat} {e:TypeId} {a:Option Addr} {l:List α} {cap:Nat} (h:OwnE E s H base e a l cap):l.length≤cap:=by
 obtain⟨vs,h1,h2⟩:=h.out
 exact h1.cap_le
theorem OwnE.block {E:Heap→α→List Value→Prop} {s:Nat} {H:Heap} {base:Nat} {e:TypeId} {a:Option Addr} {l:List α} {cap:Nat} (h:OwnE E s H base e a l cap): ∀ p,a=some p→base≤p.block∧p.block<H.size:=by
 obtain⟨vs,h1,h2⟩:=h.out
 exact h1.block
theorem OwnE.typ {E:Heap→α→List Value→Prop} {s:Nat} {H:Heap} {base:Nat} {e:TypeId} {a:Option Addr} {l:List α} {cap:Nat} (h:OwnE E s H base e a l cap): ∀ p,a=some p→ ∃ c,Blk H p.block c e:=by
 obtain⟨vs,h1,h2⟩:=h.out
 intro p hp
 rcases h1.out with ⟨g1,_⟩|⟨g,cur,g1,_,hb,_⟩
 ·rw[g1]at hp;cases hp
 ·rw[g1]at hp;cases hp
  exact⟨_,hb⟩
theorem own_litE {E:Heap→α→List Value→Prop} {s:Nat} (ok:EncOk E s) {H:Heap} {g base:Nat} {e:TypeId} {l:List α} {xs:List Value} (h:Blk H g xs.toArray e) (hE:LstV E H l xs) (hb:base≤g) (hn:l.length≤1000000):OwnE E s H base e (some ⟨g,0,none⟩) l l.length:=
 ⟨xs,⟨hE.len ok,.inr ⟨g,xs.toArray,rfl,hb,h,Nat.le_refl _,by unfold maxLen;omega,by simpa using hE.len ok,by rw[←hE.len ok];simp⟩⟩,hE⟩
theorem NextH.appE {P:Program} {E:Heap→α→List Value→Prop} {s:Nat} {Ts:TypeId→Prop} (ok:EncT E s Ts) {H:Heap} {t u e ty:TypeId} {i:TypeInfo} {z:Value} {base:Nat} {a a2:Option Addr} {cap m c2:Nat} {l l2:List α} {n:Nat} {ws:List Value} {cb:Array Bool} {K:Value→Heap→Prop}
  (ht:P.underlying t=some (.slice e)) (hu: ∃ d,P.underlying u=some d∧(∀ k,d≠ .int k)) (hi:P.info? e=some i) (hs:i.size=s) (hz:i.zero=some z) (hzs:z.cells.size=i.size) (hby:i.bytes≤100000)
  (hTs: ¬Ts e) (ho:OwnE E s H base e a l cap) (hn:l.length=n) (hr:Row H a2 ws) (hE:LstV E H l2 ws) (hm:l2.length=m) (hnm:n+m≤1000000) (hb:base≤H.size)
  (hk: ∀ a' cap' H',OwnE E s H' base e a' (l++l2) cap'→Wr a H H'→(∀ p,a'=some p→a'=a∨H.size≤p.block)→K (.slice a' (n+m) cap') H'):
  NextH P (builtin .append #[t,u] ty cb #[.slice a n cap,.slice a2 m c2]) H K:=by
 subst hs hn hm
 have htyp:=ho.typ
 obtain⟨vs,h1,h2⟩:=ho.out
 refine Go.Vc.NextH.append ht hu hi hz hzs h1 (Src.row hr (hE.len ok.ok) (hE.plain ok.ok)) (by unfold maxLen;omega) ?_ hb fun a' cap' H' g1 g2 g3=>hk a' cap' H' ⟨_,by rw[List.length_append];exact g1,?_⟩ g2 g3
 ·exact Nat.le_trans (Nat.mul_le_mul (show l.length+l2.length≤1000000 by omega) hby) (by decide)
 ·refine(h2.app hE).keep ok g2 fun b c u hf hbk hT=> ?_
  obtain⟨p,hp,rfl⟩:=hf
  obtain⟨c',hc'⟩:=htyp p hp
  rw[hbk.typ hc']at hT
  exact hTs hT
theorem NextH.fullE {P:Program} {E:Heap→α→List Value→Prop} {s:Nat} (ok:EncOk E s) {H:Heap} {t u e ty:TypeId} {i:TypeInfo} {z:Value} {a a2:Option Addr} {m c2:Nat} {l l2:List α} {n:Nat} {ws:List Value} {cb:Array Bool} {K:Value→Heap→Prop}
  (ht:P.underlying t=some (.slice e)) (hu: ∃ d,P.underlying u=some d∧(∀ k,d≠ .int k)) (hi:P.info? e=some i) (hs:i.size=s) (hz:i.zero=some z) (hzs:z.cells.size=i.size) (hby:i.bytes≤100000)
  (ho:RowE E H a l) (hn:l.length=n) (hr:Row H a2 ws) (hE:LstV E H l2 ws) (hm:l2.length=m) (hm0:0<m) (hnm:n+m≤1000000)
  (hk: ∀ cap' H',OwnE E s H' H.size e (some ⟨H.size,0,none⟩) (l++l2) cap'→Ext H H'→K (.slice (some ⟨H.size,0,none⟩) (n+m) cap') H'):
  NextH P (builtin .append #[t,u] ty cb #[.slice a n n,.slice a2 m c2]) H K:=by
 subst hs hn hm
 obtain⟨vs,h1,h2⟩:=ho.out
 refine Go.Vc.NextH.appFull h1 (h2.len ok) (Src.row hr (hE.len ok) (hE.plain ok)) hm0 ht hu hi hz hzs (by unfold maxLen;omega) ?_ fun cap' H' g1 g2=>hk cap' H' ⟨_,by rw[List.length_append];exact g1,(h2.app hE).ext ok g2⟩ g2
 exact Nat.le_trans (Nat.mul_le_mul (show l.length+l2.length≤1000000 by omega) hby) (by decide)
end Go.Vc
namespace Go.Proofs.YtjdieklgoepdjaaGreatDoor
open Go Go.Vc Go.Scr Go.Slv
def bndT (H:Heap) (b:BndP) (c:List Value):Prop:=∃ a cap,c=[.string (mkS b.sign),.int .i64 b.v.ma,.int .i64 b.v.mi,.int .i64 b.v.pa,.slice a b.v.pre.length cap]∧b.v.pre.length≤cap∧RowT 9 H a (strs b.v.pre)
theorem bndT_ok:EncT bndT 5 (fun t=>t=9):=⟨fun⟨_,_,e,_⟩=>by rw[e];rfl,fun⟨_,_,e,_⟩ u hu=>by
 rw[e]at hu
 simp at hu
 rcases hu with rfl|rfl|rfl|rfl|rfl<;>rfl,fun k hF ⟨a,cap,e,h,r⟩=>⟨a,cap,e,h,r.keep k fun b c u f hb=>hF b c u f hb⟩⟩
theorem bndT_E {H:Heap} {b:BndP} {c:List Value}:bndT H b c→bndE H b c:=fun⟨a,cap,e,h,r⟩=>⟨a,cap,e,h,r.row⟩
def bndsT (H:Heap) (l:List BndP) (c:List Value):Prop:=∃ a cap,c=[.slice a l.length cap]∧l.length≤cap∧RowL bndT 171 H a l
theorem bndsT_ok:EncT bndsT 1 (fun t=>t=171∨t=9):=⟨fun⟨_,_,e,_⟩=>by rw[e];rfl,fun⟨_,_,e,_⟩ u hu=>by
 rw[e]at hu
 simp at hu
 rcases hu with rfl;rfl,fun k hF ⟨a,cap,e,h,r⟩=>⟨a,cap,e,h,r.keep bndT_ok k hF⟩⟩
theorem bndsT_E {H:Heap} {l:List BndP} {c:List Value}:bndsT H l c→bndsE H l c:=fun⟨a,cap,e,h,r⟩=>⟨a,cap,e,h,r.to fun _ _=>bndT_E⟩
def needT (H:Heap) (n:NeedP) (c:List Value):Prop:=∃ a cap,c=[.string (mkS n.name),.bool n.span.any,.slice a n.span.or_.length cap,.string (mkS n.text)]∧n.span.or_.length≤cap∧RowL bndsT 136 H a n.span.or_
theorem needT_ok:EncT needT 4 (fun t=>t=136∨t=171∨t=9):=⟨fun⟨_,_,e,_⟩=>by rw[e];rfl,fun⟨_,_,e,_⟩ u hu=>by
 rw[e]at hu
 simp at hu
 rcases hu with rfl|rfl|rfl|rfl<;>rfl,fun k hF ⟨a,cap,e,h,r⟩=>⟨a,cap,e,h,r.keep bndsT_ok k hF⟩⟩
theorem needT_E {H:Heap} {n:NeedP} {c:List Value}:needT H n c→needE H n c:=fun⟨a,cap,e,h,r⟩=>⟨a,cap,e,h,r.to fun _ _=>bndsT_E⟩
def rowTT (t:TypeId):Prop:=t=45∨t=136∨t=171∨t=9
def rowT (H:Heap) (r:RowP) (c:List Value):Prop:=∃ pa pc na nc,c=[.string (mkS r.name),.int .i64 r.v.ma,.int .i64 r.v.mi,.int .i64 r.v.pa,.slice pa r.v.pre.length pc]++strV r.sum++[.int .i64 r.size,.slice na r.needs.length nc]∧r.sum.length=32∧r.v.pre.length≤pc∧RowT 9 H pa (strs r.v.pre)∧r.needs.length≤nc∧RowL needT 45 H na r.needs
theorem rowT_E {H:Heap} {r:RowP} {c:List Value}:rowT H r c→rowE H r c:=fun⟨pa,pc,na,nc,e,h,h1,r1,h2,r2⟩=>⟨pa,pc,na,nc,e,h,h1,r1.row,h2,r2.to fun _ _=>needT_E⟩
theorem rowT_ok:EncT rowT 39 rowTT:=⟨fun h=>row_ok.len (rowT_E h),fun h=>row_ok.plain (rowT_E h),fun k hF ⟨pa,pc,na,nc,e,h,h1,r1,h2,r2⟩=>⟨pa,pc,na,nc,e,h,h1,r1.keep k fun b c u f hb e'=>hF b c u f hb (.inr (.inr (.inr e'))),h2,r2.keep needT_ok k hF⟩⟩
def pinE (H:Heap) (p:PinP) (c:List Value):Prop:=∃ pa pc,c=[.string (mkS p.name),.int .i64 p.v.ma,.int .i64 p.v.mi,.int .i64 p.v.pa,.slice pa p.v.pre.length pc]++strV p.sum∧p.sum.length=32∧p.v.pre.length≤pc∧Row H pa (strs p.v.pre)
theorem pin_ok:EncOk pinE 37:=⟨fun⟨_,_,e,h,_⟩=>by rw[e];simp[strV,h],fun k ⟨pa,pc,e,h,h1,r1⟩=>⟨pa,pc,e,h,h1,r1.ext k⟩,fun⟨_,_,e,h,_⟩ u hu=>by
 rw[e]at hu
 simp[strV]at hu
 rcases hu with rfl|rfl|rfl|rfl|rfl|⟨_,_,rfl⟩<;>rfl⟩
def pinT (H:Heap) (p:PinP) (c:List Value):Prop:=∃ pa pc,c=[.string (mkS p.name),.int .i64 p.v.ma,.int .i64 p.v.mi,.int .i64 p.v.pa,.slice pa p.v.pre.length pc]++strV p.sum∧p.sum.length=32∧p.v.pre.length≤pc∧RowT 9 H pa (strs p.v.pre)
theorem pinT_E {H:Heap} {p:PinP} {c:List Value}:pinT H p c→pinE H p c:=fun⟨pa,pc,e,h,h1,r⟩=>⟨pa,pc,e,h,h1,r.row⟩
theorem pinT_ok:EncT pinT 37 (fun t=>t=9):=⟨fun h=>pin_ok.len (pinT_E h),fun h=>pin_ok.plain (pinT_E h),fun k hF ⟨pa,pc,e,h,h1,r⟩=>⟨pa,pc,e,h,h1,r.keep k fun b c u f hb=>hF b c u f hb⟩⟩
def verE (H:Heap) (v:VerP) (c:List Value):Prop:=∃ pa pc,c=[.int .i64 v.ma,.int .i64 v.mi,.int .i64 v.pa,.slice pa v.pre.length pc]∧v.pre.length≤pc∧Row H pa (strs v.pre)
theorem ver_ok:EncOk verE 4:=⟨fun⟨_,_,e,_⟩=>by rw[e];rfl,fun k ⟨pa,pc,e,h1,r1⟩=>⟨pa,pc,e,h1,r1.ext k⟩,fun⟨_,_,e,_⟩ u hu=>by
 rw[e]at hu
 simp at hu
 rcases hu with rfl|rfl|rfl|rfl<;>rfl⟩
theorem SemH.load_ver {H H0:Heap} {b o:Nat} {v:VerP} {pa:Option Addr} {pc:Nat} {K:Value→Heap→Prop} (hc: ∀ k u,([.int .i64 v.ma,.int .i64 v.mi,.int .i64 v.pa,.slice pa v.pre.length pc]:List Value)[k]? =some u→hcell H0 ⟨b,o+k,none⟩=some u) (he:Ext H0 H) (hk:K (verC v pa pc) H):SemH Tryz.prog (Instr.loadAt 48 (.pointer (some ⟨b,o,none⟩))) H K:=by
 have:=Go.Vc.SemH.load_agg (P:=Tryz.prog) (t:=48) (H:=H) (b:=b) (o:=o) (vs:=[.int .i64 v.ma,.int .i64 v.mi,.int .i64 v.pa,.slice pa v.pre.length pc]) (K:=K) rfl rfl rfl (fun j u hu=>hcell_keep (hc j u hu) he id) hk
 exact this
theorem SemH.load_irow {H H0:Heap} {b o:Nat} {c:List Value} {K:Value→Heap→Prop} (hl:c.length=39) (hc: ∀ k u,c[k]? =some u→hcell H0 ⟨b,o+k,none⟩=some u) (he:Ext H0 H) (hk:K (.agg c.toArray) H):SemH Tryz.prog (Instr.loadAt 54 (.pointer (some ⟨b,o,none⟩))) H K:=by
 have:=Go.Vc.SemH.load_agg (P:=Tryz.prog) (t:=54) (H:=H) (b:=b) (o:=o) (vs:=c) (K:=K) rfl rfl (by rw[hl];rfl) (fun j u hu=>hcell_keep (hc j u hu) he id) hk
 exact this
theorem row_ver {c:List Value} {n x1 x2 x3 x4:Value} {X Y:List Value} (e:c=[n,x1,x2,x3,x4]++X++Y): ∀ k u,([x1,x2,x3,x4]:List Value)[k]? =some u→c[k+1]? =some u:=by
 subst e
 intro k u hu
 match k,hu with
 |0,hu=>exact hu
 |1,hu=>exact hu
 |2,hu=>exact hu
 |3,hu=>exact hu
def rowZ:Array Value:= #[.string ⟨#[]⟩,.int .i64 0,.int .i64 0,.int .i64 0,.slice none 0 0]++Array.replicate 32 (.int .u8 0)++ #[.int .i64 0,.slice none 0 0]
structure FndR (H:Heap) (R:List RowP) (o:Option Nat) (x:Value):Prop where
 out:match o with
  |some i=>∃ r c,R[i]? =some r∧x= .tuple #[.agg c.toArray,.bool true]∧rowE H r c
  |none=>x= .tuple #[.agg rowZ,.bool false]
theorem idx_at {R:List RowP} {k:Bs} {v:VerP} {i:Nat} {r:RowP} (hr:R[i]? =some r) (h1:r.name=k) (h2:cmpV r.v v=0) (hno: ∀ j s,j<i→R[j]? =some s→ ¬(s.name=k∧cmpV s.v v=0)):idxR R k v=some i:=by
 unfold idxR
 obtain⟨hi,e⟩:=List.getElem?_eq_some_iff.1 hr
 refine List.findIdx?_eq_some_iff_getElem.2 ⟨hi,?_,fun j hj=> ?_⟩
 ·rw[e];simp[h1,h2]
 ·have:=hno j R[j] hj (List.getElem?_eq_getElem (by omega))
  simpa using this
theorem idx_no {R:List RowP} {k:Bs} {v:VerP} (hno: ∀ j s,j<R.length→R[j]? =some s→ ¬(s.name=k∧cmpV s.v v=0)):idxR R k v=none:=by
 unfold idxR
 rw[List.findIdx?_eq_none_iff]
 intro s hs
 obtain⟨j,hj⟩:=List.getElem?_of_mem hs
 have:=hno j s (List.getElem?_eq_some_iff.1 hj).1 hj
 simpa using this
set_option maxHeartbeats 4000000 in
theorem rfind_any (R:List RowP) (k:Bs) (v:VerP) (hv:VerB v) (hR: ∀ r∈R,VerB r.v) (a:Option Addr) (n cap:Nat) (y:Value) (H0 H:Heap) (k0:Ext H0 H) (hr:RowE rowE H0 a R) (hn:R.length=n) (hnl:n≤1000000) (hy:VerO H v y):CallH Tryz.prog 30 [.slice a n cap,.string (mkS k),y] H fun x H'=>FndR H0 R (idxR R k v) x∧Ext H H':=by
 obtain⟨I,hI⟩: ∃ I,idxR R k v=I:=⟨_,rfl⟩
 rw[hI]
 obtain⟨ya,yc,ey,hyl,hyr⟩:=hy.out
 subst ey
 refine Vc.CallH.body Tryz.func30 Tryz.call30 rfl (by decide+kernel) rfl ?_
 unfold verC
 ((conv=>whnf);repeat(any_goals((first|refine Vc.stp ?_)<;>(intros;(conv=>whnf)))))
 rename_i H1 z1 g1 x1 H2 z2 g2 x2
 have hg1: ∀ (k:Nat) (u:Value),([.int .i64 v.ma,.int .i64 v.mi,.int .i64 v.pa,.slice ya v.pre.length yc]:List Value)[k]? =some u→hcell H1 ⟨H.size,0+k,none⟩=some u:=fun k u hu=>by
  rw[g1.cell,Nat.zero_add]
  match k,hu with
  |0,hu=>exact hu
  |1,hu=>exact hu
  |2,hu=>exact hu
  |3,hu=>exact hu
 have hx02:=x1.trans x2
 refine LoopH.intro (fun(i:Nat)=>[(8,.int .i64 i)]) (fun i H'=>i≤n∧(∀ j s,j<i→R[j]? =some s→ ¬(s.name=k∧cmpV s.v v=0))∧Ext H2 H') (fun i=>n-i) 0 ⟨rfl,trivial⟩ ⟨Nat.zero_le _,fun j s h=>absurd h (Nat.not_lt_zero _),Ext.refl _⟩ ?_
 rintro i H3 ⟨hi,hno,hx3⟩
 have hz3:=hx3.size
 have hx03:=hx02.trans hx3
 have h0x3:=And.intro trivial (k0.trans hx03)
 have g23:=g2.ext hx3
 by_cases hlt:i<n
 ·obtain⟨r,hri⟩: ∃ r,R[i]? =some r:=⟨_,List.getElem?_eq_getElem (by omega)⟩
  have hrb:=hR r (List.mem_of_getElem? hri)
  have hnx: ∀ {C:Prop},(r.name=k∧cmpV r.v v=0→False)→ ∀ j s,j<i+1→R[j]? =some s→ ¬(s.name=k∧cmpV s.v v=0):=fun{C} h j s hj hs=>by
   by_cases e:j=i
   ·subst e;rw[hri]at hs;injection hs with hs;rw[←hs];exact h
   ·exact hno j s (by omega) hs
  by_cases h1:r.name=k
  ·have e1:((mkS r.name).toList==(mkS k).toList)=true:=by rw[str_mk];exact decide_eq_true h1
   by_cases h2:cmpV r.v v=0
   ·rw[←hI,idx_at hri h1 h2 hno]
    ((conv=>whnf);repeat(any_goals((first|(refine IdxA.el row_ok (by decide) hr hn i r rfl hri ?_;intro b o c hcR hcl;obtain⟨pa,pc,na,nc,ec,h32,hpl,hpr,hnl2,hnr⟩:=(id hcR);have hcv:=(fun k u hu=>(by rw[Nat.add_assoc,Nat.add_comm 1 k];exact hcl (k+1) u (row_ver ec k u hu)): ∀ (k:Nat) (u:Value),([.int .i64 r.v.ma,.int .i64 r.v.mi,.int .i64 r.v.pa,.slice pa r.v.pre.length pc]:List Value)[k]? =some u→hcell _ ⟨b,o+1+k,none⟩=some u);have hc0:hcell _ ⟨b,o+0,none⟩=some (Value.string (mkS r.name)):=hcl 0 _ (by rw[ec];rfl))|((with_reducible apply SemH.load_ver);(exact hcv);(exact h0x3.2.trans (by exact Vc.xt));(conv=>whnf))|((with_reducible apply SemH.load_ver);(exact hg1);(focus((exact x2.trans (hx3.trans (by exact Vc.xt)))));(conv=>whnf))|((with_reducible apply SemH.load_irow);(exact row_ok.len hcR);(exact hb5);(exact Ext.refl _);(conv=>whnf))|((with_reducible apply SemH.load_irow);(exact row_ok.len hcR);(exact hcl);(exact h0x3.2.trans (by exact Vc.xt));(conv=>whnf))|(refine(rcmpv_any r.v v hrb hv _ _ _ ⟨_,_,rfl,hpl,hpr.ext (h0x3.2.trans (by exact Vc.xt))⟩ (hy.ext (hx03.trans (by exact Vc.xt)))).mono ?_;rintro _ H4 ⟨rfl,hx4⟩;have hz4:=hx4.size)|(refine DoH.store_all (g23.ext (by exact Vc.xt)) rfl (by(show(List.toArray _).size=39;rw[List.size_toArray,row_ok.len hcR])) (by(show 39=(List.toArray _).size;rw[List.size_toArray,row_ok.len hcR])) (fun u hu=>row_ok.plain hcR u (by simpa using hu)) ?_;intro H5 z5 b5 k5;have hb5: ∀ (k:Nat) (u:Value),c[k]? =some u→hcell H5 ⟨H1.size,0+k,none⟩=some u:=fun k u hu=>(by rw[b5.cell,Nat.zero_add];simpa using hu))|refine Vc.stp ?_)<;>(intros;(conv=>whnf)))))
    exact⟨⟨r,c,hri,rfl,hcR⟩,(hx03.trans (show Ext H3 _ by exact Vc.xt)).but k5 (by omega)⟩
   ·((conv=>whnf);repeat(any_goals((first|(refine IdxA.el row_ok (by decide) hr hn i r rfl hri ?_;intro b o c hcR hcl;obtain⟨pa,pc,na,nc,ec,h32,hpl,hpr,hnl2,hnr⟩:=(id hcR);have hcv:=(fun k u hu=>(by rw[Nat.add_assoc,Nat.add_comm 1 k];exact hcl (k+1) u (row_ver ec k u hu)): ∀ (k:Nat) (u:Value),([.int .i64 r.v.ma,.int .i64 r.v.mi,.int .i64 r.v.pa,.slice pa r.v.pre.length pc]:List Value)[k]? =some u→hcell _ ⟨b,o+1+k,none⟩=some u);have hc0:hcell _ ⟨b,o+0,none⟩=some (Value.string (mkS r.name)):=hcl 0 _ (by rw[ec];rfl))|((with_reducible apply SemH.load_ver);(exact hcv);(exact h0x3.2.trans (by exact Vc.xt));(conv=>whnf))|((with_reducible apply SemH.load_ver);(exact hg1);(focus((exact x2.trans (hx3.trans (by exact Vc.xt)))));(conv=>whnf))|((with_reducible apply SemH.load_irow);(exact row_ok.len hcR);(exact hb5);(exact Ext.refl _);(conv=>whnf))|((with_reducible apply SemH.load_irow);(exact row_ok.len hcR);(exact hcl);(exact h0x3.2.trans (by exact Vc.xt));(conv=>whnf))|(refine(rcmpv_any r.v v hrb hv _ _ _ ⟨_,_,rfl,hpl,hpr.ext (h0x3.2.trans (by exact Vc.xt))⟩ (hy.ext (hx03.trans (by exact Vc.xt)))).mono ?_;rintro _ H4 ⟨rfl,hx4⟩;have hz4:=hx4.size)|(refine DoH.store_all (g23.ext (by exact Vc.xt)) rfl (by(show(List.toArray _).size=39;rw[List.size_toArray,row_ok.len hcR])) (by(show 39=(List.toArray _).size;rw[List.size_toArray,row_ok.len hcR])) (fun u hu=>row_ok.plain hcR u (by simpa using hu)) ?_;intro H5 z5 b5 k5;have hb5: ∀ (k:Nat) (u:Value),c[k]? =some u→hcell H5 ⟨H1.size,0+k,none⟩=some u:=fun k u hu=>(by rw[b5.cell,Nat.zero_add];simpa using hu))|refine Vc.stp ?_)<;>(intros;(conv=>whnf)))))
    exact⟨i+1,⟨rfl,trivial⟩,⟨by omega,hnx (C:=True) fun h=>h2 h.2,hx3.trans (by exact Vc.xt)⟩,by omega⟩
  ·have e1:((mkS r.name).toList==(mkS k).toList)=false:=by rw[str_mk];exact decide_eq_false h1
   ((conv=>whnf);repeat(any_goals((first|(refine IdxA.el row_ok (by decide) hr hn i r rfl hri ?_;intro b o c hcR hcl;obtain⟨pa,pc,na,nc,ec,h32,hpl,hpr,hnl2,hnr⟩:=(id hcR);have hcv:=(fun k u hu=>(by rw[Nat.add_assoc,Nat.add_comm 1 k];exact hcl (k+1) u (row_ver ec k u hu)): ∀ (k:Nat) (u:Value),([.int .i64 r.v.ma,.int .i64 r.v.mi,.int .i64 r.v.pa,.slice pa r.v.pre.length pc]:List Value)[k]? =some u→hcell _ ⟨b,o+1+k,none⟩=some u);have hc0:hcell _ ⟨b,o+0,none⟩=some (Value.string (mkS r.name)):=hcl 0 _ (by rw[ec];rfl))|((with_reducible apply SemH.load_ver);(exact hcv);(exact h0x3.2.trans (by exact Vc.xt));(conv=>whnf))|((with_reducible apply SemH.load_ver);(exact hg1);(focus((exact x2.trans (hx3.trans (by exact Vc.xt)))));(conv=>whnf))|((with_reducible apply SemH.load_irow);(exact row_ok.len hcR);(exact hb5);(exact Ext.refl _);(conv=>whnf))|((with_reducible apply SemH.load_irow);(exact row_ok.len hcR);(exact hcl);(exact h0x3.2.trans (by exact Vc.xt));(conv=>whnf))|(refine(rcmpv_any r.v v hrb hv _ _ _ ⟨_,_,rfl,hpl,hpr.ext (h0x3.2.trans (by exact Vc.xt))⟩ (hy.ext (hx03.trans (by exact Vc.xt)))).mono ?_;rintro _ H4 ⟨rfl,hx4⟩;have hz4:=hx4.size)|(refine DoH.store_all (g23.ext (by exact Vc.xt)) rfl (by(show(List.toArray _).size=39;rw[List.size_toArray,row_ok.len hcR])) (by(show 39=(List.toArray _).size;rw[List.size_toArray,row_ok.len hcR])) (fun u hu=>row_ok.plain hcR u (by simpa using hu)) ?_;intro H5 z5 b5 k5;have hb5: ∀ (k:Nat) (u:Value),c[k]? =some u→hcell H5 ⟨H1.size,0+k,none⟩=some u:=fun k u hu=>(by rw[b5.cell,Nat.zero_add];simpa using hu))|refine Vc.stp ?_)<;>(intros;(conv=>whnf)))))
   exact⟨i+1,⟨rfl,trivial⟩,⟨by omega,hnx (C:=True) fun h=>h1 h.1,hx3.trans (by exact Vc.xt)⟩,by omega⟩
 ·obtain rfl:i=n:=by omega
  rw[←hI,idx_no fun j s hj hs=>hno j s (by omega) hs]
  ((conv=>whnf);repeat(any_goals((first|(refine PureH.build0 rowZ (by kernel_rfl) ?_)|refine Vc.stp ?_)<;>(intros;(conv=>whnf)))))
  rename_i H4 z4 b4 k4
  exact⟨⟨rfl⟩,hx03.but k4 (by omega)⟩
def bndC (b:BndP) (a:Option Addr) (cap:Nat):Value:= .agg #[.string (mkS b.sign),.int .i64 b.v.ma,.int .i64 b.v.mi,.int .i64 b.v.pa,.slice a b.v.pre.length cap]
theorem verO_of {H:Heap} {v:VerP} {a:Option Addr} {cap:Nat} (h:v.pre.length≤cap) (hr:Row H a (strs v.pre)):VerO H v (verC v a cap):=⟨a,cap,rfl,h,hr⟩
theorem verO_lit {H:Heap} {v:VerP} {a:Option Addr} {cap:Nat} (h:v.pre.length≤cap) (hr:Row H a (strs v.pre)):VerO H v (.agg #[.int .i64 v.ma,.int .i64 v.mi,.int .i64 v.pa,.slice a v.pre.length cap]):=⟨a,cap,rfl,h,hr⟩
theorem bnd_cells {H:Heap} {g:Nat} {s:ByteArray} {x y z w:Value} {T:TypeId} (h:Blk H g #[.string s,x,y,z,w] T): ∀ (k:Nat) (u:Value),([x,y,z,w]:List Value)[k]? =some u→hcell H ⟨g,1+k,none⟩=some u:=fun k u hu=>by
 rw[h.cell]
 match k,hu with
 |0,hu=>exact hu
 |1,hu=>exact hu
 |2,hu=>exact hu
 |3,hu=>exact hu
set_option maxHeartbeats 4000000 in
theorem rholds_any (b:BndP) (v:VerP) (hb:VerB b.v) (hv:VerB v) (a:Option Addr) (cap:Nat) (y:Value) (H:Heap) (hc:b.v.pre.length≤cap) (hr:Row H a (strs b.v.pre)) (hy:VerO H v y):
  CallH Tryz.prog 172 [bndC b a cap,y] H fun x H'=>x= .bool (holdsP b v)∧Ext H H':=by
 have hh:holdsP b v=if b.sign=[61]then decide (cmpV v b.v=0)else if b.sign=[60]then decide (cmpV v b.v<0)else if b.sign=[60,61]then decide (cmpV v b.v≤0)else if b.sign=[62]then decide (0<cmpV v b.v)else if b.sign=[62,61]then decide (0≤cmpV v b.v)else false:=rfl
 rw[hh]
 clear hh
 obtain⟨ya,yc,ey,hyl,hyr⟩:=hy.out
 subst ey
 generalize hC:cmpV v b.v=C
 have e1:((mkS b.sign).toList==(⟨#[61]⟩:ByteArray).toList)=decide (b.sign=[61]):=str_mk _ _
 have e2:((mkS b.sign).toList==(⟨#[60]⟩:ByteArray).toList)=decide (b.sign=[60]):=str_mk _ _
 have e3:((mkS b.sign).toList==(⟨#[60,61]⟩:ByteArray).toList)=decide (b.sign=[60,61]):=str_mk _ _
 have e4:((mkS b.sign).toList==(⟨#[62]⟩:ByteArray).toList)=decide (b.sign=[62]):=str_mk _ _
 have e5:((mkS b.sign).toList==(⟨#[62,61]⟩:ByteArray).toList)=decide (b.sign=[62,61]):=str_mk _ _
 refine Vc.CallH.body Tryz.func172 Tryz.call172 rfl (by decide+kernel) rfl ?_
 unfold bndC verC
 ((conv=>whnf);repeat(any_goals((first|refine Vc.stq ?_|refine Vc.spl ?_ ?_)<;>(intros;(conv=>whnf)))))
 rename_i H1 z1 g1 x1 H2 z2 g2 x2
 have hg1:=bnd_cells g1
 by_cases h1:b.sign=[61]
 ·rw[decide_eq_true h1]at e1
  rw[if_pos h1]
  ((conv=>whnf);repeat(any_goals((first|((with_reducible apply SemH.load_ver);(exact hg1);(exact x2);(conv=>whnf))|(refine(rcmpv_any v b.v hv hb _ _ _ (hy.ext (by exact Vc.xt)) (verO_lit hc (hr.ext (by exact Vc.xt)))).mono ?_;rintro _ H4 ⟨rfl,hx4⟩;have hz4:=hx4.size)|refine Vc.stp ?_)<;>(intros;(conv=>whnf)))))
  exact⟨by rw[hC];rfl,by exact Vc.xt⟩
 rw[decide_eq_false h1]at e1
 rw[if_neg h1]
 by_cases h2:b.sign=[60]
 ·rw[decide_eq_true h2]at e2
  rw[if_pos h2]
  ((conv=>whnf);repeat(any_goals((first|((with_reducible apply SemH.load_ver);(exact hg1);(exact x2);(conv=>whnf))|(refine(rcmpv_any v b.v hv hb _ _ _ (hy.ext (by exact Vc.xt)) (verO_lit hc (hr.ext (by exact Vc.xt)))).mono ?_;rintro _ H4 ⟨rfl,hx4⟩;have hz4:=hx4.size)|refine Vc.stp ?_)<;>(intros;(conv=>whnf)))))
  exact⟨by rw[hC];rfl,by exact Vc.xt⟩
 rw[decide_eq_false h2]at e2
 rw[if_neg h2]
 by_cases h3:b.sign=[60,61]
 ·rw[decide_eq_true h3]at e3
  rw[if_pos h3]
  ((conv=>whnf);repeat(any_goals((first|((with_reducible apply SemH.load_ver);(exact hg1);(exact x2);(conv=>whnf))|(refine(rcmpv_any v b.v hv hb _ _ _ (hy.ext (by exact Vc.xt)) (verO_lit hc (hr.ext (by exact Vc.xt)))).mono ?_;rintro _ H4 ⟨rfl,hx4⟩;have hz4:=hx4.size)|refine Vc.stp ?_)<;>(intros;(conv=>whnf)))))
  exact⟨by rw[hC];rfl,by exact Vc.xt⟩
 rw[decide_eq_false h3]at e3
 rw[if_neg h3]
 by_cases h4:b.sign=[62]
 ·rw[decide_eq_true h4]at e4
  rw[if_pos h4]
  ((conv=>whnf);repeat(any_goals((first|((with_reducible apply SemH.load_ver);(exact hg1);(exact x2);(conv=>whnf))|(refine(rcmpv_any v b.v hv hb _ _ _ (hy.ext (by exact Vc.xt)) (verO_lit hc (hr.ext (by exact Vc.xt)))).mono ?_;rintro _ H4 ⟨rfl,hx4⟩;have hz4:=hx4.size)|refine Vc.stp ?_)<;>(intros;(conv=>whnf)))))
  exact⟨by rw[hC];rfl,by exact Vc.xt⟩
 rw[decide_eq_false h4]at e4
 rw[if_neg h4]
 by_cases h5:b.sign=[62,61]
 ·rw[decide_eq_true h5]at e5
  rw[if_pos h5]
  ((conv=>whnf);repeat(any_goals((first|((with_reducible apply SemH.load_ver);(exact hg1);(exact x2);(conv=>whnf))|(refine(rcmpv_any v b.v hv hb _ _ _ (hy.ext (by exact Vc.xt)) (verO_lit hc (hr.ext (by exact Vc.xt)))).mono ?_;rintro _ H4 ⟨rfl,hx4⟩;have hz4:=hx4.size)|refine Vc.stp ?_)<;>(intros;(conv=>whnf)))))
  exact⟨by rw[hC];rfl,by exact Vc.xt⟩
 rw[decide_eq_false h5]at e5
 rw[if_neg h5]
 ((conv=>whnf);repeat(any_goals((first|((with_reducible apply SemH.load_ver);(exact hg1);(exact x2);(conv=>whnf))|(refine(rcmpv_any v b.v hv hb _ _ _ (hy.ext (by exact Vc.xt)) (verO_lit hc (hr.ext (by exact Vc.xt)))).mono ?_;rintro _ H4 ⟨rfl,hx4⟩;have hz4:=hx4.size)|refine Vc.stp ?_)<;>(intros;(conv=>whnf)))))
 exact⟨rfl,by exact Vc.xt⟩
end Go.Proofs.YtjdieklgoepdjaaGreatDoor
namespace Go.Vc
variable {α:Type}
theorem RowE.fix {E:Heap→α→List Value→Prop} {s:Nat} (ok:EncOk E s) (hs:0<s) {H:Heap} {a:Option Addr} {l:List α} {n:Nat} (h:RowE E H a l) (hn:l.length=n) {j:Nat} {x:α} (hx:l[j]? =some x):
  ∃ b o c,E H x c∧(∀ k v,c[k]? =some v→hcell H ⟨b,o+k,none⟩=some v)∧ ∀ (i:Int) (K:Addr→Prop),i=j→K ⟨b,o,none⟩→IdxA a n s i K:=by
 obtain⟨vs,h1,h2⟩:=h.out
 have hj:=(List.getElem?_eq_some_iff.1 hx).1
 obtain⟨c,g1,g2⟩:=h2.get ok hx
 have hl:=h2.len ok
 have h0:0<vs.length:=by
  rw[hl]
  exact Nat.mul_pos (by omega) hs
 obtain⟨b,o,rfl,_,hc⟩:=h1.at h0
 refine⟨b,o+j*s,c,g1,fun k v hv=> ?_,fun i K hi hK=> ?_⟩
 ·rw[Nat.add_assoc]
  exact hc _ _ (g2 k v hv)
 ·subst hi
  exact⟨by omega,by omega,_,rfl,by rw[addk,Int.toNat_natCast];exact hK⟩
end Go.Vc
