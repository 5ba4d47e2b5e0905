import Derived.Test.YtphkaogbcfdllaaGreatDoorKh
import Derived.Test.YtphkaogbcfdllaaGreatDoorKf
set_option linter.unusedVariables false
set_option linter.unusedSimpArgs false
set_option maxRecDepth 100000
/- Build scripts at work, the reference: names, texts with their variables put in, which lines belong together. -/
namespace Go.Run
open Go.Scr
theorem tw_all {p:UInt8→Bool}: ∀ t:Txt,(t.takeWhile p).length=t.length↔t.all p=true
 |[]=>by simp
 |c::t=>by
  rw[List.takeWhile_cons,List.all_cons]
  cases h:p c with
  |true=>
   rw[if_pos rfl,List.length_cons,List.length_cons,Bool.true_and,←tw_all t]
   omega
  |false=>
   rw[if_neg (by simp),List.length_nil,List.length_cons,Bool.false_and]
   simp
def nmB (c:UInt8):Bool:=lowB c || digB c
theorem isName_cons (c:UInt8) (t:Txt):isName (c::t)=(lowB c&&(c::t).all nmB):=by
 unfold isName
 rw[Bool.eq_iff_iff,decide_eq_true_eq,Bool.and_eq_true,List.all_cons,Bool.and_eq_true,←tw_all t]
 show _∧(if lowB c=true then 1+(t.takeWhile fun x=>lowB x || digB x).length else 0)=_↔_
 constructor
 ·rintro⟨_,h⟩
  split at h
  ·rename_i hl
   rw[List.length_cons]at h
   exact⟨hl,by unfold nmB;rw[hl];rfl,by show(t.takeWhile fun x=>lowB x || digB x).length=_;omega⟩
  ·rw[List.length_cons]at h;omega
 ·rintro⟨hl,_,h⟩
  refine⟨by simp,?_⟩
  rw[if_pos hl,List.length_cons]
  have h:(t.takeWhile fun x=>lowB x || digB x).length=t.length:=h
  omega
def elsV:Option Nat→Int
 |none=> -1
 |some e=>e
end Go.Run
namespace Go.Proofs.YtphkaogbcfdllaaGreatDoor
open Go Go.Vc Go.Scr Go.Pth Go.Tre Go.Blk Go.Run
theorem rletter_any (c:UInt8) (H:Heap):CallH Tryz.prog 175 [.int .u8 c.toNat] H fun v H'=>v= .bool (lowB c)∧H=H':=by
 have hc:=c.toNat_lt
 unfold lowB
 refine Vc.CallH.body Tryz.func175 Tryz.call175 rfl (by decide+kernel) rfl ?_
 ((conv=>whnf);repeat(any_goals((first|refine Vc.stp ?_|refine Vc.spl ?_ ?_)<;>(intros;(conv=>whnf)))))
 all_goals(refine⟨?_,rfl⟩;first|(rw[decide_eq_true (by omega)];rfl)|(rw[decide_eq_false (by omega)];rfl)|(show Value.bool _=Value.bool _;congr 1;rw[Bool.eq_iff_iff,decide_eq_true_eq,decide_eq_true_eq];omega))
theorem rdigit_any (c:UInt8) (H:Heap):CallH Tryz.prog 176 [.int .u8 c.toNat] H fun v H'=>v= .bool (digB c)∧H=H':=by
 have hc:=c.toNat_lt
 unfold digB
 refine Vc.CallH.body Tryz.func176 Tryz.call176 rfl (by decide+kernel) rfl ?_
 ((conv=>whnf);repeat(any_goals((first|refine Vc.stp ?_|refine Vc.spl ?_ ?_)<;>(intros;(conv=>whnf)))))
 all_goals(refine⟨?_,rfl⟩;first|(rw[decide_eq_true (by omega)];rfl)|(rw[decide_eq_false (by omega)];rfl)|(show Value.bool _=Value.bool _;congr 1;rw[Bool.eq_iff_iff,decide_eq_true_eq,decide_eq_true_eq];omega))
theorem rname_any (s:Bs) (hl:s.length≤1000000000) (H:Heap):CallH Tryz.prog 128 [.string (mkS s)] H fun v H'=>v= .bool (isName s)∧H=H':=by
 have hsz:(mkS s).size=s.length:=rfl
 by_cases hnil:s=[]
 ·subst hnil
  refine Vc.CallH.body Tryz.func128 Tryz.call128 rfl (by decide+kernel) rfl ?_
  ((conv=>whnf);repeat(any_goals((first|refine Vc.stp ?_|refine Vc.spl ?_ ?_)<;>(intros;(conv=>whnf)))))
  exact⟨rfl,rfl⟩
 obtain⟨c,t,hct⟩: ∃ c t,s=c::t:=by cases s with|nil=>exact absurd rfl hnil|cons c t=>exact⟨c,t,rfl⟩
 have hne:((mkS s).toList==(⟨#[]⟩:ByteArray).toList)=false:=by rw[hct];exact ne_empty c t
 have hs0:=fun H=>rletter_any c H
 have h0:(mkS s).data.toList.getD 0 0=c:=by rw[hct];rfl
 have hlen:s.length=t.length+1:=by rw[hct];rfl
 have hnm:isName s=(lowB c&&s.all nmB):=by rw[hct];exact isName_cons c t
 refine Vc.CallH.body Tryz.func128 Tryz.call128 rfl (by decide+kernel) rfl ?_
 cases hlow:lowB c with
 |false=>
  rw[hlow]at hs0 hnm
  rw[hnm]
  ((conv=>whnf);repeat(any_goals((first|(refine IdxH.nat 0 rfl (by omega) ?_;(conv=>whnf);rw[h0])|(refine(hs0 _).mono ?_;rintro _ _ ⟨rfl,rfl⟩)|refine Vc.stp ?_|refine Vc.spl ?_ ?_)<;>(intros;(conv=>whnf)))))
  exact⟨rfl,rfl⟩
 |true=>
  rw[hlow]at hs0 hnm
  ((conv=>whnf);repeat(any_goals((first|(refine IdxH.nat 0 rfl (by omega) ?_;(conv=>whnf);rw[h0])|(refine(hs0 _).mono ?_;rintro _ _ ⟨rfl,rfl⟩)|refine Vc.stp ?_|refine Vc.spl ?_ ?_)<;>(intros;(conv=>whnf)))))
  clear hs0 h0 hlow hne
  refine LoopH.intro (fun(i:Nat)=>[(3,.int .i64 i)]) (fun i H'=>H=H'∧i≤s.length∧isName s=(s.drop i).all nmB) (fun i=>s.length-i) 0 ⟨rfl,trivial⟩ ⟨rfl,Nat.zero_le _,by rw[hnm];simp⟩ ?_
  rintro i _ ⟨rfl,hi,hb⟩
  dsimp only
  by_cases hlt:i<s.length
  ·obtain⟨c,hc,hd⟩:=drop_get hlt
   rw[hd,List.all_cons]at hb
   have hs1:=fun H=>rletter_any c H
   have hd1:=fun H=>rdigit_any c H
   unfold nmB at hb
   cases hb1:lowB c with
   |true=>
    rw[hb1]at hs1 hb
    rw[Bool.true_or,Bool.true_and]at hb
    ((conv=>whnf);repeat(any_goals((first|(refine IdxH.nat i rfl (by omega) ?_;(conv=>whnf);rw[hc])|(refine(hs1 _).mono ?_;rintro _ _ ⟨rfl,rfl⟩)|(refine(hd1 _).mono ?_;rintro _ _ ⟨rfl,rfl⟩)|refine Vc.stp ?_|refine Vc.spl ?_ ?_)<;>(intros;(conv=>whnf)))))
    exact⟨i+1,⟨rfl,trivial⟩,⟨rfl,by omega,hb⟩,by omega⟩
   |false=>
    rw[hb1]at hs1 hb
    cases hb2:digB c with
    |true=>
     rw[hb2]at hd1 hb
     rw[Bool.false_or,Bool.true_and]at hb
     ((conv=>whnf);repeat(any_goals((first|(refine IdxH.nat i rfl (by omega) ?_;(conv=>whnf);rw[hc])|(refine(hs1 _).mono ?_;rintro _ _ ⟨rfl,rfl⟩)|(refine(hd1 _).mono ?_;rintro _ _ ⟨rfl,rfl⟩)|refine Vc.stp ?_|refine Vc.spl ?_ ?_)<;>(intros;(conv=>whnf)))))
     exact⟨i+1,⟨rfl,trivial⟩,⟨rfl,by omega,hb⟩,by omega⟩
    |false=>
     rw[hb2]at hd1 hb
     rw[Bool.false_or,Bool.false_and]at hb
     ((conv=>whnf);repeat(any_goals((first|(refine IdxH.nat i rfl (by omega) ?_;(conv=>whnf);rw[hc])|(refine(hs1 _).mono ?_;rintro _ _ ⟨rfl,rfl⟩)|(refine(hd1 _).mono ?_;rintro _ _ ⟨rfl,rfl⟩)|refine Vc.stp ?_|refine Vc.spl ?_ ?_)<;>(intros;(conv=>whnf)))))
     exact⟨by rw[hb];rfl,rfl⟩
  ·rw[List.drop_of_length_le (by omega)]at hb
   ((conv=>whnf);repeat(any_goals((first|refine Vc.stp ?_|refine Vc.spl ?_ ?_)<;>(intros;(conv=>whnf)))))
   exact⟨by rw[hb];rfl,rfl⟩
set_option maxHeartbeats 2000000 in
theorem rfilled_any (vm:Option Nat) (V:Option Vars) (s:Bs) (hl:s.length≤1000000) (hV:Fit V) (H:Heap) (hv:VarsO H vm V):
  CallH Tryz.prog 124 [.string (mkS s),.map vm] H fun v H'=>v= .string (mkS (fillF (varsF V) s))∧Ext H H':=by
 have hsz:(mkS s).size=s.length:=rfl
 have hWl: ∀ k,(getV (varsF V) k).length≤65536:=hV
 obtain⟨W,hW⟩: ∃ W,varsF V=W:=⟨_,rfl⟩
 rw[hW]at hWl ⊢
 refine Vc.CallH.body Tryz.func124 Tryz.call124 rfl (by decide+kernel) rfl ?_
 ((conv=>whnf);repeat(any_goals((first|refine Vc.stp ?_)<;>(intros;(conv=>whnf)))))
 refine LoopH.intro (fun(x:TxS)=>[(6,.int .i64 x.i),(5,.slice x.a x.l.length x.cap)]) (fun x H'=>x.i≤s.length∧x.l.length≤65536*x.i∧Own H' H.size 5 1 x.a x.l.length x.cap (strV x.l)∧fillF W s=x.l++fillF W (s.drop x.i)∧Ext H H') (fun x=>s.length-x.i) ⟨0,[],none,0⟩ ⟨rfl,rfl,trivial⟩ ⟨Nat.zero_le _,Nat.zero_le _,Own.nil _ _ _ _,rfl,Ext.refl _⟩ ?_
 rintro⟨i,l,a,cap⟩ H1 ⟨hi,hll,ho,hinv,hx1⟩
 dsimp only at hi hll ho hinv hx1 ⊢
 have hz1:=hx1.size
 have one: ∀ {c:UInt8} {a2:Option Addr} {c2:Nat} {H2:Heap} {j:Nat},i+1≤j→j≤s.length→Own H2 H.size 5 1 a2 (l.length+1) c2 (strV l++[.int .u8 c.toNat])→Ext H H2→fillF W s=l++c::fillF W (s.drop j)→ ∀ {env:Env},Bears env [(6,.int .i64 (j:Nat)),(5,.slice a2 (l.length+1) c2)]→ ∃ x:TxS,Bears env [(6,.int .i64 x.i),(5,.slice x.a x.l.length x.cap)]∧(x.i≤s.length∧x.l.length≤65536*x.i∧Own H2 H.size 5 1 x.a x.l.length x.cap (strV x.l)∧fillF W s=x.l++fillF W (s.drop x.i)∧Ext H H2)∧s.length-x.i<s.length-i:=by
  intro c a2 c2 H2 j hj hjl ho2 hx2 e env hbe
  refine⟨⟨j,l++[c],a2,c2⟩,?_,⟨hjl,by show(l++[c]).length≤_;simp only[List.length_append,List.length_cons,List.length_nil];omega,own_snoc ho2,by show _=(l++[c])++_;rw[e,List.append_assoc];rfl,hx2⟩,by show s.length-j<s.length-i;omega⟩
  have e2:(l++[c]).length=l.length+1:=by simp
  show Bears env [(6,.int .i64 (j:Nat)),(5,.slice a2 (l++[c]).length c2)]
  rw[e2];exact hbe
 by_cases hlt:i<s.length
 ·obtain⟨c,hc,hd⟩:=drop_get hlt
  rw[hd,fillF_cons]at hinv
  by_cases h36:c≠36
  ·rw[if_pos h36]at hinv
   have n36:=ne_nat 36 (by decide) h36
   ((conv=>whnf);repeat(any_goals((first|(refine IdxH.nat i rfl (by omega) ?_;(conv=>whnf);rw[hc])|refine Vc.stp ?_)<;>(intros;(conv=>whnf)))))
   rename_i Ha za ba xa a2 c2 H2 ho2 hx2
   exact one (Nat.le_refl _) hlt ho2 hx2 hinv ⟨rfl,rfl,trivial⟩
  have h36:c=36:=Classical.not_not.1 h36
  subst h36
  rw[if_neg (by simp)]at hinv
  have n36:(36:UInt8).toNat=36:=rfl
  obtain⟨t,ht⟩: ∃ t,s.drop (i+1)=t:=⟨_,rfl⟩
  have htl:t.length=s.length-(i+1):=by rw[←ht,List.length_drop]
  have hnle:=nameN_le t
  rw[ht]at hinv
  obtain⟨n,hN⟩: ∃ n,nameN t=n:=⟨_,rfl⟩
  rw[hN]at hinv hnle
  cases t with
  |nil=>
   have hl1:i+1=s.length:=by rw[List.length_nil]at htl;omega
   have hn0:n=0:=by rw[←hN];rfl
   rw[if_neg (by omega),if_neg (by simp)]at hinv
   ((conv=>whnf);repeat(any_goals((first|(refine IdxH.nat i rfl (by omega) ?_;(conv=>whnf);rw[hc])|refine Vc.stp ?_)<;>(intros;(conv=>whnf)))))
   refine LoopH.intro (fun(_:Unit)=>[(7,.int .i64 ((i:Int)+1))]) (fun _ H'=>H1=H') (fun _=>0) () ⟨rfl,trivial⟩ rfl ?_
   rintro _ _ rfl
   ((conv=>whnf);repeat(any_goals((first|(refine IdxH.nat i rfl (by omega) ?_;(conv=>whnf);rw[hc])|refine Vc.stp ?_)<;>(intros;(conv=>whnf)))))
   rename_i Ha za ba xa a2 c2 H2 ho2 hx2
   exact one (Nat.le_refl _) (by omega) ho2 hx2 (by rw[hinv,ht]) ⟨rfl,rfl,trivial⟩
  |cons d u=>
   have hl1:i+1<s.length:=by rw[List.length_cons]at htl;omega
   obtain⟨d',hd',hdd⟩:=drop_get hl1
   rw[ht,List.cons.injEq]at hdd
   obtain⟨rfl,hu⟩:=hdd
   by_cases h2:d=36
   ·subst h2
    have hn0:n=0:=by rw[←hN];rfl
    rw[if_neg (by omega),if_pos (show(36::u).head? =some 36 from rfl)]at hinv
    have n37:(36:UInt8).toNat=36:=rfl
    ((conv=>whnf);repeat(any_goals((first|(refine IdxH.nat (i+1) (by omega) (by omega) ?_;(conv=>whnf);rw[hd'])|(refine IdxH.nat i rfl (by omega) ?_;(conv=>whnf);rw[hc])|refine Vc.stp ?_)<;>(intros;(conv=>whnf)))))
    rename_i Ha za ba xa a2 c2 H2 ho2 hx2
    exact one (j:=i+1+1) (by omega) (by omega) ho2 hx2 (by rw[hinv,←hu];rfl) ⟨rfl,rfl,trivial⟩
   have n37:=ne_nat 36 (by decide) h2
   have hs1:=fun H=>rletter_any d H
   cases hlow:lowB d with
   |false=>
    rw[hlow]at hs1
    have hn0:n=0:=by rw[←hN];show(if lowB d=true then 1+(u.takeWhile fun x=>lowB x || digB x).length else 0)=0;rw[hlow];rfl
    rw[if_neg (by omega),if_neg (by simpa using h2)]at hinv
    ((conv=>whnf);repeat(any_goals((first|(refine IdxH.nat (i+1) (by omega) (by omega) ?_;(conv=>whnf);rw[hd'])|(refine IdxH.nat i rfl (by omega) ?_;(conv=>whnf);rw[hc])|refine Vc.stp ?_)<;>(intros;(conv=>whnf)))))
    refine LoopH.intro (fun(_:Unit)=>[(7,.int .i64 ((i:Int)+1))]) (fun _ H'=>H1=H') (fun _=>0) () ⟨rfl,trivial⟩ rfl ?_
    rintro _ _ rfl
    ((conv=>whnf);repeat(any_goals((first|(refine IdxH.nat (i+1) (by omega) (by omega) ?_;(conv=>whnf);rw[hd'])|(refine(hs1 _).mono ?_;rintro _ _ ⟨rfl,rfl⟩)|refine Vc.stp ?_)<;>(intros;(conv=>whnf)))))
    rename_i Ha za ba xa a2 c2 H2 ho2 hx2
    exact one (Nat.le_refl _) (by omega) ho2 hx2 (by rw[hinv,ht]) ⟨rfl,rfl,trivial⟩
   |true=>
    have hn1:n=1+(u.takeWhile nmB).length:=by rw[←hN];show(if lowB d=true then 1+(u.takeWhile fun x=>lowB x || digB x).length else 0)=_;rw[hlow];rfl
    rw[if_pos (by omega)]at hinv
    obtain⟨v,hv'⟩: ∃ v,getV W ((d::u).take n)=v:=⟨_,rfl⟩
    have hvl2:v.length≤65536:=by rw[←hv'];exact hWl _
    rw[hv']at hinv
    have hkey:(mkS s).extract (i+1) (i+1+n)=mkS ((d::u).take n):=by rw[mkS_ext,ht,show i+1+n-(i+1)=n by omega]
    have hvl:(mkS v).size=v.length:=rfl
    have hnl:i+1+n≤s.length:=by omega
    ((conv=>whnf);repeat(any_goals((first|(refine IdxH.nat (i+1) (by omega) (by omega) ?_;(conv=>whnf);rw[hd'])|(refine IdxH.nat i rfl (by omega) ?_;(conv=>whnf);rw[hc])|refine Vc.stp ?_)<;>(intros;(conv=>whnf)))))
    have fin: ∀ {a2:Option Addr} {c2:Nat} {H2:Heap},Own H2 H.size 5 1 a2 (l.length+(mkS v).size) c2 (strV (l++v))→Wr a H1 H2→ ∀ {env:Env},Bears env [(6,.int .i64 (i+1+n:Nat)),(5,.slice a2 (l.length+(mkS v).size) c2)]→ ∃ x:TxS,Bears env [(6,.int .i64 x.i),(5,.slice x.a x.l.length x.cap)]∧(x.i≤s.length∧x.l.length≤65536*x.i∧Own H2 H.size 5 1 x.a x.l.length x.cap (strV x.l)∧fillF W s=x.l++fillF W (s.drop x.i)∧Ext H H2)∧s.length-x.i<s.length-i:=by
     intro a2 c2 H2 ho2 hw2 env hbe
     have e2:(l++v).length=l.length+(mkS v).size:=by rw[List.length_append];rfl
     refine⟨⟨i+1+n,l++v,a2,c2⟩,?_,⟨hnl,by have e3:(l++v).length=l.length+v.length:=List.length_append;show(l++v).length≤65536*(i+1+n);omega,by show Own _ _ _ 1 _ (l++v).length _ _;rw[e2];exact ho2,?_,hx1.wr ho (Nat.le_refl _) hw2⟩,by show s.length-(i+1+n)<s.length-i;omega⟩
     ·show Bears env [(6,.int .i64 (i+1+n:Nat)),(5,.slice a2 (l++v).length c2)]
      rw[e2];exact hbe
     ·show _=(l++v)++fillF W (s.drop (i+1+n))
      rw[hinv,List.append_assoc,←ht,List.drop_drop]
    refine LoopH.intro (fun(k:Nat)=>[(7,.int .i64 k)]) (fun k H'=>H1=H'∧i+1≤k∧k≤i+1+n∧((k=i+1)∨n=(k-(i+1))+((s.drop k).takeWhile nmB).length)) (fun k=>s.length-k) (i+1) ⟨rfl,trivial⟩ ⟨rfl,Nat.le_refl _,by omega,.inl rfl⟩ ?_
    rintro k _ ⟨rfl,hk1,hk2,hk⟩
    dsimp only
    have done:k=i+1+n→True:=fun _=>trivial
    by_cases hki:k=i+1
    ·subst hki
     rw[hlow]at hs1
     ((conv=>whnf);repeat(any_goals((first|(refine IdxH.nat (i+1) (by omega) (by omega) ?_;(conv=>whnf);rw[hd'])|(refine(hs1 _).mono ?_;rintro _ _ ⟨rfl,rfl⟩)|refine Vc.stp ?_)<;>(intros;(conv=>whnf)))))
     exact⟨i+1+1,⟨rfl,trivial⟩,⟨rfl,by omega,by omega,.inr (by rw[←hu,hn1];omega)⟩,by omega⟩
    ·have hk:=hk.resolve_left hki
     by_cases hkl:k<s.length
     ·obtain⟨e,hke,hkd⟩:=drop_get hkl
      rw[hkd,List.takeWhile_cons]at hk
      have hs2:=fun H=>rletter_any e H
      have hd2:=fun H=>rdigit_any e H
      cases hb1:lowB e with
      |true=>
       rw[hb1]at hs2
       rw[if_pos (by unfold nmB;rw[hb1];rfl),List.length_cons]at hk
       ((conv=>whnf);repeat(any_goals((first|(refine IdxH.nat k rfl (by omega) ?_;(conv=>whnf);rw[hke])|(refine(hs2 _).mono ?_;rintro _ _ ⟨rfl,rfl⟩)|refine Vc.stp ?_)<;>(intros;(conv=>whnf)))))
       exact⟨k+1,⟨rfl,trivial⟩,⟨rfl,by omega,by omega,.inr (by omega)⟩,by omega⟩
      |false=>
       rw[hb1]at hs2
       cases hb2:digB e with
       |true=>
        rw[hb2]at hd2
        rw[if_pos (by unfold nmB;rw[hb1,hb2];rfl),List.length_cons]at hk
        ((conv=>whnf);repeat(any_goals((first|(refine IdxH.nat k rfl (by omega) ?_;(conv=>whnf);rw[hke])|(refine(hs2 _).mono ?_;rintro _ _ ⟨rfl,rfl⟩)|(refine(hd2 _).mono ?_;rintro _ _ ⟨rfl,rfl⟩)|refine Vc.stp ?_)<;>(intros;(conv=>whnf)))))
        exact⟨k+1,⟨rfl,trivial⟩,⟨rfl,by omega,by omega,.inr (by omega)⟩,by omega⟩
       |false=>
        rw[hb2]at hd2
        rw[if_neg (by unfold nmB;rw[hb1,hb2];decide),List.length_nil]at hk
        obtain rfl:k=i+1+n:=by omega
        ((conv=>whnf);repeat(any_goals((first|(refine IdxH.nat (i+1+n) rfl (by omega) ?_;(conv=>whnf);rw[hke])|(refine(hs2 _).mono ?_;rintro _ _ ⟨rfl,rfl⟩)|(refine(hd2 _).mono ?_;rintro _ _ ⟨rfl,rfl⟩)|(refine BndH.nat (i+1+n) (by omega) (by omega) ?_)|(refine BndH.nat (i+1) (by omega) (by omega) ?_;(conv=>whnf);rw[hkey])|(refine SemH.var (hv.ext (by exact Vc.xt)) ?_;rw[hW,hv'])|(refine NextH.appY (y:=v) (m:=(mkS v).size) ho (Src.str (mkS v)) (by omega) (by omega) (by omega) ⟨_,rfl,fun _ h=>by cases h⟩ ?_;intro a2 c2 H2 ho2 hw2)|refine Vc.stp ?_)<;>(intros;(conv=>whnf)))))
        exact fin ho2 hw2 ⟨by show Value.int _ _=Value.int _ _;congr 1;omega,rfl,trivial⟩
     ·rw[List.drop_of_length_le (by omega)]at hk
      have hk:n=k-(i+1)+0:=hk
      obtain rfl:k=i+1+n:=by omega
      ((conv=>whnf);repeat(any_goals((first|(refine BndH.nat (i+1+n) (by omega) (by omega) ?_)|(refine BndH.nat (i+1) (by omega) (by omega) ?_;(conv=>whnf);rw[hkey])|(refine SemH.var (hv.ext (by exact Vc.xt)) ?_;rw[hW,hv'])|(refine NextH.appY (y:=v) (m:=(mkS v).size) ho (Src.str (mkS v)) (by omega) (by omega) (by omega) ⟨_,rfl,fun _ h=>by cases h⟩ ?_;intro a2 c2 H2 ho2 hw2)|refine Vc.stp ?_)<;>(intros;(conv=>whnf)))))
      exact fin ho2 hw2 ⟨by show Value.int _ _=Value.int _ _;congr 1;omega,rfl,trivial⟩
 ·rw[List.drop_of_length_le (by omega),fillF_nil,List.append_nil]at hinv
  ((conv=>whnf);repeat(any_goals((first|(refine to_string' (l:=l) rfl rfl rfl ho.row rfl ?_)|refine Vc.stp ?_)<;>(intros;(conv=>whnf)))))
  exact⟨by rw[hinv];rfl,hx1⟩
structure EnS where
 i:Nat
 d:Nat
 e:Option Nat
theorem rends_any {H:Heap} {al:Option Addr} {cl n:Nat} {L:List Ln} (hr:Row H al (lnsV L)) (hl:L.length=n) (hn:n≤1000000) {at_:Nat} (hat:at_<n):
  CallH Tryz.prog 129 [.slice al n cl,.int .i64 at_] H fun v H'=>v= .tuple #[.int .i64 (elsV (endsF (kindsL L) at_).1),.int .i64 (endsF (kindsL L) at_).2]∧H=H':=by
 have hkl:(kindsL L).length=n:=by rw[kinds_len,hl]
 refine Vc.CallH.body Tryz.func129 Tryz.call129 rfl (by decide+kernel) rfl ?_
 ((conv=>whnf);repeat(any_goals((first|refine Vc.stp ?_)<;>(intros;(conv=>whnf)))))
 refine LoopH.intro (fun(x:EnS)=>[(8,.int .i64 x.i),(6,.int .i64 x.d),(7,.int .i64 (elsV x.e))]) (fun x H'=>H=H'∧x.i≤n∧x.d≤x.i∧(∀ e,x.e=some e→e≤n)∧endsG ((kindsL L).drop x.i) x.d x.e x.i=endsF (kindsL L) at_) (fun x=>n-x.i) ⟨at_+1,0,none⟩ ⟨rfl,rfl,rfl,trivial⟩ ⟨rfl,by show at_+1≤n;omega,Nat.zero_le _,(fun e he=>by cases he),rfl⟩ ?_
 rintro⟨i,d,e⟩ _ ⟨rfl,hi,hd,he,hinv⟩
 dsimp only at hi hd he hinv ⊢
 by_cases hlt:i<n
 ·obtain⟨x,hx⟩: ∃ x,L[i]? =some x:=⟨_,List.getElem?_eq_getElem (by omega)⟩
  have hk:=kinds_get hx
  obtain⟨k,hxk⟩: ∃ k,x.k=k:=⟨_,rfl⟩
  rw[hxk]at hk
  rw[drop_cons hk,endsG]at hinv
  by_cases h78:k=7∨k=8
  ·rw[if_pos h78]at hinv
   rcases h78 with rfl|rfl
   ·((conv=>whnf);repeat(any_goals((first|(refine IdxA.ln hr hl i x rfl hx ?_;intro _ _ hci;have hc0:=hci 0 _ rfl)|refine Vc.stp ?_)<;>(intros;(conv=>whnf)))))
    exact⟨⟨i+1,d+1,e⟩,⟨rfl,rfl,rfl,trivial⟩,⟨rfl,by show i+1≤n;omega,by show d+1≤i+1;omega,he,hinv⟩,by show n-(i+1)<n-i;omega⟩
   ·((conv=>whnf);repeat(any_goals((first|(refine IdxA.ln hr hl i x rfl hx ?_;intro _ _ hci;have hc0:=hci 0 _ rfl)|refine Vc.stp ?_)<;>(intros;(conv=>whnf)))))
    exact⟨⟨i+1,d+1,e⟩,⟨rfl,rfl,rfl,trivial⟩,⟨rfl,by show i+1≤n;omega,by show d+1≤i+1;omega,he,hinv⟩,by show n-(i+1)<n-i;omega⟩
  rw[if_neg h78]at hinv
  by_cases h9:k=9
  ·rw[if_pos h9]at hinv
   by_cases hd0:d=0
   ·rw[if_pos hd0]at hinv
    ((conv=>whnf);repeat(any_goals((first|(refine IdxA.ln hr hl i x rfl hx ?_;intro _ _ hci;have hc0:=hci 0 _ rfl)|refine Vc.stp ?_)<;>(intros;(conv=>whnf)))))
    exact⟨⟨i+1,d,some i⟩,⟨rfl,rfl,rfl,trivial⟩,⟨rfl,by show i+1≤n;omega,by show d≤i+1;omega,(fun e he=>by cases he;omega),hinv⟩,by show n-(i+1)<n-i;omega⟩
   ·rw[if_neg hd0]at hinv
    ((conv=>whnf);repeat(any_goals((first|(refine IdxA.ln hr hl i x rfl hx ?_;intro _ _ hci;have hc0:=hci 0 _ rfl)|refine Vc.stp ?_)<;>(intros;(conv=>whnf)))))
    exact⟨⟨i+1,d,e⟩,⟨rfl,rfl,rfl,trivial⟩,⟨rfl,by show i+1≤n;omega,by show d≤i+1;omega,he,hinv⟩,by show n-(i+1)<n-i;omega⟩
  rw[if_neg h9]at hinv
  by_cases h10:k=10
  ·rw[if_pos h10]at hinv
   by_cases hd0:d=0
   ·rw[if_pos hd0]at hinv
    ((conv=>whnf);repeat(any_goals((first|(refine IdxA.ln hr hl i x rfl hx ?_;intro _ _ hci;have hc0:=hci 0 _ rfl)|refine Vc.stp ?_)<;>(intros;(conv=>whnf)))))
    exact⟨by rw[←hinv];rfl,rfl⟩
   ·rw[if_neg hd0]at hinv
    ((conv=>whnf);repeat(any_goals((first|(refine IdxA.ln hr hl i x rfl hx ?_;intro _ _ hci;have hc0:=hci 0 _ rfl)|refine Vc.stp ?_)<;>(intros;(conv=>whnf)))))
    exact⟨⟨i+1,d-1,e⟩,⟨rfl,by show Value.int .i64 ((d:Int)-1)=Value.int .i64 ((d-1:Nat):Int);rw[show(d:Int)-1=((d-1:Nat):Int)by omega],rfl,trivial⟩,⟨rfl,by show i+1≤n;omega,by show d-1≤i+1;omega,he,hinv⟩,by show n-(i+1)<n-i;omega⟩
  ·rw[if_neg h10]at hinv
   ((conv=>whnf);repeat(any_goals((first|(refine IdxA.ln hr hl i x rfl hx ?_;intro _ _ hci;have hc0:=hci 0 _ rfl)|refine Vc.stp ?_)<;>(intros;(conv=>whnf)))))
   exact⟨⟨i+1,d,e⟩,⟨rfl,rfl,rfl,trivial⟩,⟨rfl,by show i+1≤n;omega,by show d≤i+1;omega,he,hinv⟩,by show n-(i+1)<n-i;omega⟩
 ·rw[List.drop_of_length_le (by omega),endsG]at hinv
  obtain rfl:i=n:=by omega
  ((conv=>whnf);repeat(any_goals((first|refine Vc.stp ?_)<;>(intros;(conv=>whnf)))))
  exact⟨by rw[←hinv];rfl,rfl⟩
end Go.Proofs.YtphkaogbcfdllaaGreatDoor
namespace Go.Run
open Go.Scr Go.Pth Go.Tre Go.Blk
theorem step_S (K:List Nat) (x:Ln) (s:St):(stepP K x s).1.S=s.S∨(stepP K x s).1.S=(s.at_,x.n)::s.S∨ ∃ h n S,s.S=(h,n)::S∧((stepP K x s).1.S=(h,n-1)::S∨(stepP K x s).1.S=S):=by
 unfold stepP
 by_cases h0:x.k=0
 ·rw[if_pos h0];exact .inl rfl
 rw[if_neg h0]
 by_cases h1:x.k=1
 ·rw[if_pos h1];exact .inl rfl
 rw[if_neg h1]
 by_cases h2:x.k=2
 ·rw[if_pos h2];exact .inl rfl
 rw[if_neg h2]
 by_cases h3:x.k=3
 ·rw[if_pos h3];exact .inl rfl
 rw[if_neg h3]
 by_cases h4:x.k=4
 ·rw[if_pos h4];exact .inl rfl
 rw[if_neg h4]
 by_cases h5:x.k=5
 ·rw[if_pos h5];exact .inl rfl
 rw[if_neg h5]
 by_cases h6:x.k=6
 ·rw[if_pos h6]
  by_cases ha:isName x.a=false
  ·rw[if_pos ha];exact .inl rfl
  rw[if_neg ha]
  by_cases hb:65536<(fillF (varsF s.V) x.tx).length
  ·rw[if_pos hb];exact .inl rfl
  ·rw[if_neg hb];exact .inl rfl
 rw[if_neg h6]
 by_cases h7:x.k=7
 ·rw[if_pos h7]
  by_cases ha:existsF s.A (fillF (varsF s.V) x.a)=x.nt
  ·rw[if_pos ha];exact .inl rfl
  ·rw[if_neg ha];exact .inl rfl
 rw[if_neg h7]
 by_cases h8:x.k=8
 ·rw[if_pos h8]
  by_cases ha:x.n=0
  ·rw[if_pos ha];exact .inl rfl
  ·rw[if_neg ha];exact .inr (.inl rfl)
 rw[if_neg h8]
 by_cases h9:x.k=9
 ·rw[if_pos h9];exact .inl rfl
 rw[if_neg h9]
 by_cases h10:x.k=10
 ·rw[if_pos h10]
  cases hS:s.S with
  |nil=>exact .inl hS
  |cons p S=>
   obtain⟨h,n⟩:=p
   dsimp only
   by_cases he:(endsF K h).2=s.at_
   ·rw[if_pos he]
    by_cases h1:1<n
    ·rw[if_pos h1];exact .inr (.inr ⟨h,n,S,rfl,.inl rfl⟩)
    ·rw[if_neg h1];exact .inr (.inr ⟨h,n,S,rfl,.inr rfl⟩)
   ·rw[if_neg he];exact .inl hS
 rw[if_neg h10]
 by_cases h11:x.k=11
 ·rw[if_pos h11];exact .inl rfl
 ·rw[if_neg h11];exact .inl rfl
theorem step_stack (K:List Nat) (x:Ln) (s:St):(stepP K x s).1.S.length≤s.S.length+1:=by
 rcases step_S K x s with e|e|⟨h,n,S,e0,e|e⟩
 ·rw[e];omega
 ·rw[e,List.length_cons];omega
 ·rw[e,e0,List.length_cons,List.length_cons];omega
 ·rw[e,e0,List.length_cons];omega
theorem step_left (K:List Nat) (x:Ln) (s:St) (N:Nat) (hx:x.n≤N) (h: ∀ p∈s.S,p.2≤N): ∀ p∈(stepP K x s).1.S,p.2≤N:=by
 rcases step_S K x s with e|e|⟨g,n,S,e0,e|e⟩
 ·rw[e];exact h
 ·rw[e]
  intro p hp
  rcases List.mem_cons.1 hp with rfl|hp
  ·exact hx
  ·exact h p hp
 ·rw[e]
  rw[e0]at h
  intro p hp
  rcases List.mem_cons.1 hp with rfl|hp
  ·exact Nat.le_trans (Nat.sub_le _ _) (h (g,n) (by simp))
  ·exact h p (List.mem_cons_of_mem _ hp)
 ·rw[e]
  rw[e0]at h
  exact fun p hp=>h p (List.mem_cons_of_mem _ hp)
end Go.Run
namespace Go.Vc
variable {P:Program} {H H':Heap}
def dq (v:Value):Prop:=dumbV v=true
theorem AllQ.dumb {a:Option Addr} (h:AllQ dq H a) {p:Addr} (hp:a=some p):Dumb H p.block:=⟨fun o v hv=>h.out p hp o v hv⟩
theorem own_blkT {base:Nat} {e:TypeId} {size:Nat} {a:Option Addr} {n cap:Nat} {xs:List Value} (h:Own H base e size a n cap xs) {p:Addr} (hp:a=some p): ∃ c,Blk H p.block c e:=by
 rcases h.out with ⟨h1,_⟩|⟨g,cur,h1,_,hb,_⟩
 ·rw[h1]at hp;cases hp
 ·rw[h1]at hp;cases hp;exact⟨cur,hb⟩
theorem DoH.store_ownQ {Q:Value→Prop} {t e:TypeId} {i:TypeInfo} {base g n cap size:Nat} {xs:List Value} {o:Nat} {v:Value} {K:Heap→Prop} (ho:Own H base e size (some ⟨g,0,none⟩) n cap xs) (hall:AllQ Q H (some ⟨g,0,none⟩)) (hi:P.info? t=some i) (hn:i.size=1) (hp:plainV v=true) (hq:Q v) (hl:o<n*size)
  (hk: ∀ H',H'.size=H.size→Own H' base e size (some ⟨g,0,none⟩) n cap (xs.set o v)→AllQ Q H' (some ⟨g,0,none⟩)→But g H H'→K H'):DoH P (Instr.storeAt t (.pointer (some ⟨g,o,none⟩)) v) H K:=by
 rcases ho.out with ⟨ha,_⟩|⟨g',cur,ha,hb,hg,hnc,hmc,hcs,htake⟩
 ·cases ha
 ·cases ha
  have hns:n*size≤cap*size:=Nat.mul_le_mul_right _ hnc
  refine DoH.store1 hg hi hn hp (by omega) fun H' h1 h2 h3=>hk H' h1 ⟨by simpa using ho.len,.inr ⟨_,_,rfl,hb,h2,hnc,hmc,by simpa using hcs,?_⟩⟩ ⟨fun p hp o' v' hv=> ?_⟩ h3
  ·rw[←htake,Array.toList_setIfInBounds]
   apply List.ext_getElem?
   intro j
   simp only[List.getElem?_take,List.getElem?_set,List.length_take]
   have hsz:cur.toList.length=cap*size:=by simpa using hcs
   by_cases hj:o=j
   ·subst hj
    rw[if_pos hl,if_pos rfl,if_pos rfl,if_pos (by omega),if_pos (by omega)]
   ·rw[if_neg hj,if_neg hj]
  ·cases hp
   obtain⟨fr2,hb2,_⟩:=h2.out
   have hm:=hcell_cells hb2 hv
   rw[Array.toList_setIfInBounds]at hm
   rcases List.mem_or_eq_of_mem_set hm with h|rfl
   ·obtain⟨j,hj⟩:=List.mem_iff_getElem?.1 h
    exact hall.out _ rfl j v' (by rw[hg.cell];simpa using hj)
   ·exact hq
theorem IdxA.atS {g o n size:Nat} {i:Int} {K:Addr→Prop} (j:Nat) (hi:i=j) (hj:j<n) (hk:K ⟨g,o+j*size,none⟩):IdxA (some ⟨g,o,none⟩) n size i K:=by
 subst hi
 exact⟨by omega,by omega,_,rfl,by rw[addk,Int.toNat_natCast];exact hk⟩
end Go.Vc
namespace Go.Proofs.YtphkaogbcfdllaaGreatDoor
open Go Go.Vc Go.Scr Go.Pth Go.Tre Go.Blk Go.Run
structure RP where
 B:Nat
 g:Nat
 al:Option Addr
 cl:Nat
 n:Nat
 L:List Ln
 b:Nat
 vm:Option Nat
 fu:Int
def stkV (S:List (Nat×Nat)):List Value:=S.flatMap fun p=>[.int .i64 (p.1:Int),.int .i64 (p.2:Int)]
def mchC (m:RP) (u:Nat) (sa:Option Addr) (k sc:Nat):Array Value:= #[.pointer (some ⟨m.b,0,none⟩),.map m.vm,.int .i64 m.fu,.int .i64 u,.slice sa k sc]
theorem mch_dumb (m:RP) (u:Nat) (sa:Option Addr) (k sc:Nat): ∀ v∈(mchC m u sa k sc).toList,dumbV v=true:=by simp[mchC,dumbV]
structure RStk (H:Heap) (m:RP) (S:List (Nat×Nat)) (u:Nat) (sa:Option Addr) (sc:Nat):Prop where
 blk:Blk H m.g (mchC m u sa S.length sc) 156
 own:Own H m.B 216 2 sa S.length sc (stkV S.reverse)
 all:AllQ dq H sa
theorem RStk.keep {F:Nat→Prop} {H H':Heap} {m:RP} {S:List (Nat×Nat)} {u:Nat} {sa:Option Addr} {sc:Nat} (h:RStk H m S u sa sc) (k:Only F H H') (hg: ¬F m.g) (hs: ∀ p,sa=some p→ ¬F p.block):RStk H' m S u sa sc:=
 ⟨h.blk.keep k hg,h.own.keep k hs,h.all.keep k fun p hp=>⟨(h.own.block p hp).2,hs p hp⟩⟩
structure RMac (H:Heap) (m:RP) (s:St) (u:Nat) (sa:Option Addr) (sc:Nat):Prop where
 stk:RStk H m s.S u sa sc
 row:Row H m.al (lnsV m.L)
 tree:RTree H m.b s.A
 vars:VarsO H m.vm s.V
def doR (m:RP) (x:Nat):Prop:=x=m.b∨m.vm=some x∨x=m.g∨m.B≤x
theorem rtree_blk {H:Heap} {b:Nat} {A:Tr} (h:RTree H b A): ∃ c,Blk H b c 48:=let ⟨_,_,h,_⟩:=h.out;⟨_,h⟩
theorem RMac.gb {H:Heap} {m:RP} {s:St} {u:Nat} {sa:Option Addr} {sc:Nat} (h:RMac H m s u sa sc):m.g≠m.b:=fun e=>by
 obtain⟨c,hc⟩:=rtree_blk h.tree
 have h1:=h.stk.blk
 rw[e]at h1
 exact absurd (blk_one h1 hc).1 (by decide)
theorem RMac.sb {H:Heap} {m:RP} {s:St} {u:Nat} {sa:Option Addr} {sc:Nat} (h:RMac H m s u sa sc): ∀ p,sa=some p→p.block≠m.b:=fun p hp e=>by
 obtain⟨c,hc⟩:=rtree_blk h.tree
 obtain⟨d,hd⟩:=own_blkT h.stk.own hp
 rw[e]at hd
 exact absurd (blk_one hd hc).1 (by decide)
theorem RMac.sg {H:Heap} {m:RP} {s:St} {u:Nat} {sa:Option Addr} {sc:Nat} (h:RMac H m s u sa sc): ∀ p,sa=some p→p.block≠m.g:=fun p hp e=>by
 obtain⟨d,hd⟩:=own_blkT h.stk.own hp
 rw[e]at hd
 exact absurd (blk_one hd h.stk.blk).1 (by decide)
theorem RMac.did {H H1 H':Heap} {m:RP} {s:St} {u:Nat} {sa:Option Addr} {sc:Nat} {v:Value} {r:Tr×Nat} (h:RMac H m s u sa sc) (k:Ext H H1) (hd:DidR H1 H' m.b v r):RMac H' m (doneF s r).1 u sa sc∧Only (doR m) H H':=by
 have hst:=h.stk.keep (k.only (F:=fun _=>False)) id fun _ _=>id
 have hgb:=h.gb
 have hsb:=h.sb
 refine⟨⟨hst.keep hd.only hgb hsb,lns_dumb (h.row.ext k) hd.only fun x e _=> ?_,hd.tree,(h.vars.ext k).keep hd.only fun v hv e=> ?_⟩,k.only.trans (hd.only.mono fun x e=> .inl e) fun _ _ e=>e⟩
 ·subst e;exact(h.tree.ext k).dumb
 ·obtain⟨c,hc⟩:=rtree_blk (h.tree.ext k)
  obtain⟨W,_,hW⟩:=vars_map (h.vars.ext k) hv
  exact hW.ne hc e
theorem RMac.set {H H1 H':Heap} {m:RP} {s s':St} {u:Nat} {sa:Option Addr} {sc:Nat} (h:RMac H m s u sa sc) (k:Ext H H1) (hA:s'.A=s.A) (hS:s'.S=s.S) (hv:VarsO H' m.vm s'.V) (hb:Only (fun y=>m.vm=some y) H1 H'):RMac H' m s' u sa sc∧Only (doR m) H H':=by
 have hst:=h.stk.keep (k.only (F:=fun _=>False)) id fun _ _=>id
 have hva:=h.vars.ext k
 refine⟨⟨?_,lns_dumb (h.row.ext k) hb fun x e _=> ?_,?_,hv⟩,k.only.trans (hb.mono fun x e=> .inr (.inl e)) fun _ _ e=>e⟩
 ·rw[hS]
  refine hst.keep hb (fun e=> ?_) fun p hp e=> ?_
  ·obtain⟨W,_,hW⟩:=vars_map hva e
   exact hW.ne hst.blk rfl
  ·obtain⟨W,_,hW⟩:=vars_map hva e
   obtain⟨d,hd⟩:=own_blkT hst.own hp
   exact hW.ne hd rfl
 ·obtain⟨W,_,hW⟩:=vars_map hva e
  exact .map hW
 ·rw[hA]
  refine(h.tree.ext k).keep hb (fun e=> ?_) fun x e _=> ?_
  ·obtain⟨W,_,hW⟩:=vars_map hva e
   obtain⟨c,hc⟩:=rtree_blk (h.tree.ext k)
   exact hW.ne hc rfl
  ·obtain⟨W,_,hW⟩:=vars_map hva e
   exact .map hW
theorem RMac.stack {H H1 H':Heap} {m:RP} {s s':St} {u:Nat} {sa sa':Option Addr} {sc sc':Nat} (h:RMac H m s u sa sc) (k:Ext H H1) (hA:s'.A=s.A) (hV:s'.V=s.V) (hs:RStk H' m s'.S u sa' sc') (hb:Only (fun y=>y=m.g∨ ∃ p,sa=some p∧p.block=y) H1 H'):RMac H' m s' u sa' sc'∧Only (doR m) H H':=by
 have hst:=h.stk.keep (k.only (F:=fun _=>False)) id fun _ _=>id
 have hva:=h.vars.ext k
 have hgb:=h.gb
 have hsb:=h.sb
 have hdm: ∀ x,(x=m.g∨ ∃ p,sa=some p∧p.block=x)→x<H1.size→Dumb H1 x:=fun x e _=>by
  rcases e with e|⟨p,hp,e⟩
  ·subst e;exact .blk hst.blk (mch_dumb _ _ _ _ _)
  ·subst e;exact hst.all.dumb hp
 refine⟨⟨hs,lns_dumb (h.row.ext k) hb hdm,?_,?_⟩,k.only.trans (hb.mono fun x e=> ?_) fun _ _ e=>e⟩
 ·rw[hA]
  exact(h.tree.ext k).keep hb (fun e=>by
   rcases e with e|⟨p,hp,e⟩
   ·exact hgb e.symm
   ·exact hsb p hp e) hdm
 ·rw[hV]
  exact hva.keep hb fun v hv e=>by
   obtain⟨W,_,hW⟩:=vars_map hva hv
   rcases e with e|⟨p,hp,e⟩
   ·exact hW.ne hst.blk e
   ·obtain⟨d,hd⟩:=own_blkT hst.own hp
    exact hW.ne hd e.symm
 ·rcases e with e|⟨p,hp,e⟩
  ·exact .inr (.inr (.inl e))
  ·exact .inr (.inr (.inr (by have:=(hst.own.block p hp).1;omega)))
theorem RMac.to {H H':Heap} {m:RP} {s s':St} {u:Nat} {sa:Option Addr} {sc:Nat} (h:RMac H m s u sa sc) (k:Ext H H') (hA:s'.A=s.A) (hV:s'.V=s.V) (hS:s'.S=s.S):RMac H' m s' u sa sc∧Only (doR m) H H':=
 ⟨⟨by rw[hS];exact h.stk.keep (k.only (F:=fun _=>False)) id fun _ _=>id,h.row.ext k,by rw[hA];exact h.tree.ext k,by rw[hV];exact h.vars.ext k⟩,k.only⟩
structure DoneR (H H':Heap) (m:RP) (s:St) (x:Ln) (u:Nat) (v:Value):Prop where
 out: ∃ (nx:Nat) (sa:Option Addr) (sc:Nat),v= .tuple #[.int .i64 nx,.int .i64 (stepP (kindsL m.L) x s).2]∧((stepP (kindsL m.L) x s).2=0→nx=(stepP (kindsL m.L) x s).1.at_)∧RMac H' m (stepP (kindsL m.L) x s).1 u sa sc∧Only (doR m) H H'
theorem DoneR.did {H H1 H':Heap} {m:RP} {s:St} {u:Nat} {sa:Option Addr} {sc:Nat} {x:Ln} {v v':Value} {r:Tr×Nat} (h:RMac H m s u sa sc) (e:stepP (kindsL m.L) x s=doneF s r) (k1:Ext H H1) (hd:DidR H1 H' m.b v r) (hv:v'= .tuple #[.int .i64 ((s.at_:Int)+1),.int .i64 r.2]):DoneR H H' m s x u v':=by
 obtain⟨h1,h2⟩:=h.did k1 hd
 exact⟨s.at_+1,sa,sc,by rw[e,hv];rfl,fun _=>by rw[e];rfl,by rw[e];exact h1,h2⟩
theorem DoneR.to {H H':Heap} {m:RP} {s s':St} {u:Nat} {sa:Option Addr} {sc nx:Nat} {x:Ln} {v:Value} {e:Nat} (es:stepP (kindsL m.L) x s=(s',e)) (hm:RMac H' m s' u sa sc) (hx:Only (doR m) H H') (hv:v= .tuple #[.int .i64 nx,.int .i64 e]) (hn:e=0→nx=s'.at_):DoneR H H' m s x u v:=
 ⟨nx,sa,sc,by rw[es];exact hv,fun h=>by rw[es]at h ⊢;exact hn h,by rw[es];exact hm,hx⟩
theorem stkV_length: ∀ S:List (Nat×Nat),(stkV S).length=S.length*2
 |[]=>rfl
 |p::S=>by
  have e:stkV (p::S)=[.int .i64 (p.1:Int),.int .i64 (p.2:Int)]++stkV S:=rfl
  rw[e,List.length_append,stkV_length S]
  show 2+_=_
  rw[List.length_cons];omega
theorem stkV_snoc (S:List (Nat×Nat)) (p:Nat×Nat):stkV (p::S).reverse=stkV S.reverse++[.int .i64 (p.1:Int),.int .i64 (p.2:Int)]:=by
 rw[List.reverse_cons]
 simp[stkV]
theorem stkV_top (S:List (Nat×Nat)) (p:Nat×Nat):(stkV (p::S).reverse)[S.length*2]? =some (.int .i64 (p.1:Int))∧(stkV (p::S).reverse)[S.length*2+1]? =some (.int .i64 (p.2:Int)):=by
 have hl:(stkV S.reverse).length=S.length*2:=by rw[stkV_length,List.length_reverse]
 rw[stkV_snoc]
 constructor
 ·rw[List.getElem?_append_right (by omega),hl,Nat.sub_self];rfl
 ·rw[List.getElem?_append_right (by omega),hl,show S.length*2+1-S.length*2=1 by omega];rfl
theorem stkV_set (S:List (Nat×Nat)) (h n k:Nat):(stkV ((h,n)::S).reverse).set (S.length*2+1) (.int .i64 (k:Int))=stkV ((h,k)::S).reverse:=by
 have hl:(stkV S.reverse).length=S.length*2:=by rw[stkV_length,List.length_reverse]
 rw[stkV_snoc,stkV_snoc,List.set_append_right _ _ (by omega),hl,show S.length*2+1-S.length*2=1 by omega];rfl
theorem stkV_cut (S:List (Nat×Nat)) (p:Nat×Nat):(stkV (p::S).reverse).take (S.length*2)=stkV S.reverse:=by
 have hl:(stkV S.reverse).length=S.length*2:=by rw[stkV_length,List.length_reverse]
 rw[stkV_snoc,←hl,List.take_left]
theorem stk_dq (S:List (Nat×Nat)): ∀ v∈stkV S,dq v:=by
 intro v hv
 obtain⟨p,_,h⟩:=List.mem_flatMap.1 hv
 rcases List.mem_cons.1 h with rfl|h
 ·rfl
 ·rw[List.mem_singleton]at h;rw[h];rfl
theorem NextH.pushL {H:Heap} {u ty:TypeId} {a:Option Addr} {cap g base h n:Nat} {S:List (Nat×Nat)} {cb:Array Bool} {K:Value→Heap→Prop}
  (hown:Own H base 216 2 a S.length cap (stkV S.reverse)) (hall:AllQ dq H a) (hlit:Blk H g #[.int .i64 (h:Int),.int .i64 (n:Int)] 216) (hn:S.length≤1000000) (hb:base≤H.size) (hu: ∃ d,Tryz.prog.underlying u=some d∧(∀ k,d≠ .int k))
  (hk: ∀ a' cap' H',Own H' base 216 2 a' (S.length+1) cap' (stkV ((h,n)::S).reverse)→Wr a H H'→AllQ dq H' a'→H.size≤H'.size→K (.slice a' (S.length+1) cap') H'):
  NextH Tryz.prog (builtin .append #[154,u] ty cb #[.slice a S.length cap,.slice (some ⟨g,0,none⟩) 1 1]) H K:=by
 refine NextH.appendQ (Q:=dq) (i:=Tryz.t216) (z:= .agg #[.int .i64 0,.int .i64 0]) (m:=1) (news:=[.int .i64 (h:Int),.int .i64 (n:Int)]) rfl hu rfl rfl rfl hown (Src.row (c:=1) (Blk.row (c:=[.int .i64 (h:Int),.int .i64 (n:Int)]) hlit) rfl (by simp[plainV])) (by unfold maxLen;omega) ?_ hb hall (stk_dq _) (by simp[dq,dumbV]) (by simp[dq,dumbV,Value.cells]) fun a' cap' H' h1 h2 _ h4=>hk a' cap' H' (by rw[stkV_snoc];exact h1) h2 h4 h2.size
 show(S.length+1)*16≤_;omega
theorem RMac.push {H H5 H6 H7:Heap} {m:RP} {s s':St} {u:Nat} {sa a6:Option Addr} {sc c6 h n:Nat} (hm:RMac H m s u sa sc) (x5:Ext H H5) (ho6:Own H6 m.B 216 2 a6 (s.S.length+1) c6 (stkV ((h,n)::s.S).reverse)) (hw6:Wr sa H5 H6) (hq6:AllQ dq H6 a6)
  (b6:Blk H6 m.g (mchC m u sa s.S.length sc) 156) (b7:Blk H7 m.g (mchC m u a6 (s.S.length+1) c6) 156) (k7:But m.g H6 H7) (hS:s'.S=(h,n)::s.S) (hA:s'.A=s.A) (hV:s'.V=s.V):RMac H7 m s' u a6 c6∧Only (doR m) H H7:=by
 have hne: ∀ p,a6=some p→p.block≠m.g:=fun p hp e=>by
  obtain⟨d,hd⟩:=own_blkT ho6 hp
  rw[e]at hd
  exact absurd (blk_one hd b6).1 (by decide)
 refine hm.stack x5 hA hV ?_ (Only.trans (hw6.mono fun x e=> .inr e) (k7.mono fun x e=> .inl e) fun _ _ e=>e)
 rw[hS]
 exact⟨b7,ho6.keep k7 hne,hq6.keep k7 fun p hp=>⟨(ho6.block p hp).2,hne p hp⟩⟩
theorem RMac.less {H H4 H5:Heap} {m:RP} {s s':St} {u:Nat} {g sc h n:Nat} {S:List (Nat×Nat)} (hm:RMac H m s u (some ⟨g,0,none⟩) sc) (hS0:s.S=(h,n)::S) (x4:Ext H H4) (ho5:Own H5 m.B 216 2 (some ⟨g,0,none⟩) (S.length+1) sc (stkV ((h,n-1)::S).reverse)) (hq5:AllQ dq H5 (some ⟨g,0,none⟩)) (k5:But g H4 H5) (hS:s'.S=(h,n-1)::S) (hA:s'.A=s.A) (hV:s'.V=s.V):RMac H5 m s' u (some ⟨g,0,none⟩) sc∧Only (doR m) H H5:=by
 have hst:=hm.stk.blk.ext x4
 have hgg:m.g≠g:=fun e=>hm.sg _ rfl e.symm
 refine hm.stack x4 hA hV ?_ (k5.mono fun x e=> .inr ⟨_,rfl,e.symm⟩)
 rw[hS]
 refine⟨?_,ho5,hq5⟩
 have:=hst.but k5 hgg
 rw[hS0]at this
 exact this
theorem RMac.pop {H H4 H5 H6:Heap} {m:RP} {s s':St} {u:Nat} {g sc h n:Nat} {S:List (Nat×Nat)} {v:Value} (hm:RMac H m s u (some ⟨g,0,none⟩) sc) (hS0:s.S=(h,n)::S) (x4:Ext H H4) (ho5:Own H5 m.B 216 2 (some ⟨g,0,none⟩) (S.length+1) sc ((stkV ((h,n)::S).reverse).set (S.length*2+1) v)) (hq5:AllQ dq H5 (some ⟨g,0,none⟩)) (k5:But g H4 H5)
  (b6:Blk H6 m.g (mchC m u (some ⟨g,0,none⟩) S.length sc) 156) (k6:But m.g H5 H6) (hS:s'.S=S) (hA:s'.A=s.A) (hV:s'.V=s.V):RMac H6 m s' u (some ⟨g,0,none⟩) sc∧Only (doR m) H H6:=by
 have hgg:g≠m.g:=fun e=>hm.sg _ rfl e
 refine hm.stack x4 hA hV ?_ (Only.trans (k5.mono fun x e=> .inr ⟨_,rfl,e.symm⟩) (k6.mono fun x e=> .inl e) fun _ _ e=>e)
 rw[hS]
 have hc:=ho5.cut S.length (Nat.le_succ _)
 rw[List.take_set_of_le (by omega),stkV_cut]at hc
 exact⟨b6,hc.keep k6 (fun p hp=>by cases hp;exact hgg),hq5.keep k6 fun p hp=>by cases hp;exact⟨(ho5.block _ rfl).2,hgg⟩⟩
end Go.Proofs.YtphkaogbcfdllaaGreatDoor
namespace Go.Blk
open Go.Scr
theorem endsG_bound: ∀ (r:List Nat) (d:Nat) (e:Option Nat) (i:Nat),(endsG r d e i).2≤i+r.length∧ ∀ x,(endsG r d e i).1=some x→e=some x∨x<i+r.length
 |[],d,e,i=>⟨Nat.le_refl _,fun x h=> .inl h⟩
 |k::r,d,e,i=>by
  unfold endsG
  rw[List.length_cons]
  split
  ·have:=endsG_bound r (d+1) e (i+1)
   exact⟨by omega,fun x h=>(this.2 x h).imp id (fun h=>by omega)⟩
  split
  ·have:=endsG_bound r d (if d=0 then some i else e) (i+1)
   refine⟨by omega,fun x h=> ?_⟩
   rcases this.2 x h with h|h
   ·split at h
    ·cases h;exact .inr (by omega)
    ·exact .inl h
   ·exact .inr (by omega)
  split
  ·split
   ·exact⟨by dsimp only;omega,fun x h=> .inl h⟩
   ·have:=endsG_bound r (d-1) e (i+1)
    exact⟨by omega,fun x h=>(this.2 x h).imp id (fun h=>by omega)⟩
  ·have:=endsG_bound r d e (i+1)
   exact⟨by omega,fun x h=>(this.2 x h).imp id (fun h=>by omega)⟩
theorem endsF_bound {K:List Nat} {h:Nat} (hl:h<K.length):(endsF K h).2≤K.length∧ ∀ x,(endsF K h).1=some x→x<K.length:=by
 have:=endsG_bound (K.drop (h+1)) 0 none (h+1)
 rw[List.length_drop]at this
 refine⟨by unfold endsF;omega,fun x hx=> ?_⟩
 rcases this.2 x hx with e|e
 ·cases e
 ·omega
end Go.Blk
namespace Go.Proofs.YtphkaogbcfdllaaGreatDoor
open Go Go.Vc Go.Scr Go.Pth Go.Tre Go.Blk Go.Run
set_option maxHeartbeats 8000000 in
theorem rl0_any {m:RP} {s:St} {u:Nat} {sa:Option Addr} {sc:Nat} {H:Heap} (h:RMac H m s u sa sc) (hln:m.L.length=m.n) (hsm:m.n≤1000000) (hlens: ∀ x∈m.L,x.a.length≤1500∧x.b.length≤1500∧x.tx.length≤15000∧x.n≤1000000) (hB:m.B≤H.size) (hok:Okay s.A) (hfit:Fit s.V) (hSl:s.S.length≤1000000) (hS: ∀ p∈s.S,p.1<m.n∧p.2≤1000000) {x:Ln} (hx:m.L[s.at_]? =some x) (hj:x.k=0):
  CallH Tryz.prog 69 [.pointer (some ⟨m.g,0,none⟩),.slice m.al m.n m.cl,.int .i64 s.at_] H fun v H'=>DoneR H H' m s x u v:=by
 have hb:=h.stk.blk
 unfold mchC at hb
 have hxl:=(List.getElem?_eq_some_iff.1 hx).1
 rw[hln]at hxl
 have hgl:=hb.lt
 obtain⟨hla,hlb,hlt,hlx⟩:=hlens x (List.mem_of_getElem? hx)
 have hk:=kinds_get hx
 have ht:=fun H' (k:Ext H H') (w:Bs) (hw:w.length≤1000000)=>rfilled_any m.vm s.V w hw hfit H' (h.vars.ext k)
 have hen:=fun H' (k:Ext H H')=>rends_any (h.row.ext k) hln hsm (cl:=m.cl) (at_:=s.at_) hxl
 have hkl:(kindsL m.L).length=m.n:=by rw[kinds_len,hln]
 obtain⟨hE2,hE1⟩:=endsF_bound (K:=kindsL m.L) (h:=s.at_) (by omega)
 have hFAl:=fillF_len (varsF s.V) 65536 (by decide) hfit x.a
 have hFBl:=fillF_len (varsF s.V) 65536 (by decide) hfit x.b
 have hFTl:=fillF_len (varsF s.V) 65536 (by decide) hfit x.tx
 obtain⟨W,hW⟩: ∃ W,varsF s.V=W:=⟨_,rfl⟩
 rw[hW]at ht hFAl hFBl hFTl
 obtain⟨FA,hFA⟩: ∃ F,fillF W x.a=F:=⟨_,rfl⟩
 obtain⟨FB,hFB⟩: ∃ F,fillF W x.b=F:=⟨_,rfl⟩
 obtain⟨FT,hFT⟩: ∃ F,fillF W x.tx=F:=⟨_,rfl⟩
 rw[hFA]at hFAl
 rw[hFB]at hFBl
 rw[hFT]at hFTl
 have hFS:(mkS FT).size=FT.length:=rfl
 have hAc:=hok.count
 obtain⟨k,hxk⟩: ∃ k,x.k=k:=⟨_,rfl⟩
 rw[hxk]at hk
 have h0:k=0:=by omega
 ·refine Vc.CallH.body Tryz.func69 Tryz.call69 rfl (by decide+kernel) rfl ?_
  ((conv=>whnf);repeat(any_goals((first|(refine IdxA.ln h.row hln s.at_ x rfl hx ?_;intro _ _ hci)|((with_reducible apply SemH.load_ln);(focus((exact hci)));(focus((exact Ext.refl _)));(focus((conv=>whnf))))|(refine(ht _ (by exact Vc.xt) x.a (by omega)).mono ?_;rintro _ H2 ⟨rfl,hx2⟩;have hz2:=hx2.size;rw[hFA])|(refine(ht _ (by exact Vc.xt) x.b (by omega)).mono ?_;rintro _ H3 ⟨rfl,hx3⟩;have hz3:=hx3.size;rw[hFB])|(refine(rcopy_any (h.tree.ext (by exact Vc.xt)) hok FA FB (by omega) (by omega)).mono ?_;rintro _ H5 hd;obtain rfl:=hd.code)|((with_reducible refine Vc.DrawH.held [0,1,2,3,4,5,7,8,9,10,11,12,6,13,14,15] [(6,[8,12])] mixed (by decide+kernel) ?_))|((with_reducible refine Vc.DrawH.held [0,1,2,3,4,5,6,7,8,9,10,11,12,13,14] [(11,[3]),(12,[3])] mixed (by decide+kernel) ?_))|((with_reducible refine Vc.DrawH.held [0,1,2,3,4,5,6,7,8,9,10,11,12,13,14] [(11,[3]),(12,[3])] mixed (by decide+kernel) ?_))|((with_reducible refine Vc.DrawH.held [0,1,2,3,4,6,7,5,8] [(5,[7])] mixed (by decide+kernel) ?_))|((with_reducible refine Vc.DrawH.held [0,1,2,3,4,5,6,7,8,9,10,11,12,13] [(9,[4])] mixed (by decide+kernel) ?_))|refine Vc.stp ?_)<;>(intros;(conv=>whnf)))))
  exact DoneR.did h (by unfold stepP;rw[if_pos (by omega:x.k=0),hW,hFA,hFB]) (show Ext H _ by exact Vc.xt) hd rfl
set_option maxHeartbeats 8000000 in
theorem rl1_any {m:RP} {s:St} {u:Nat} {sa:Option Addr} {sc:Nat} {H:Heap} (h:RMac H m s u sa sc) (hln:m.L.length=m.n) (hsm:m.n≤1000000) (hlens: ∀ x∈m.L,x.a.length≤1500∧x.b.length≤1500∧x.tx.length≤15000∧x.n≤1000000) (hB:m.B≤H.size) (hok:Okay s.A) (hfit:Fit s.V) (hSl:s.S.length≤1000000) (hS: ∀ p∈s.S,p.1<m.n∧p.2≤1000000) {x:Ln} (hx:m.L[s.at_]? =some x) (hj:x.k=1):
  CallH Tryz.prog 69 [.pointer (some ⟨m.g,0,none⟩),.slice m.al m.n m.cl,.int .i64 s.at_] H fun v H'=>DoneR H H' m s x u v:=by
 have hb:=h.stk.blk
 unfold mchC at hb
 have hxl:=(List.getElem?_eq_some_iff.1 hx).1
 rw[hln]at hxl
 have hgl:=hb.lt
 obtain⟨hla,hlb,hlt,hlx⟩:=hlens x (List.mem_of_getElem? hx)
 have hk:=kinds_get hx
 have ht:=fun H' (k:Ext H H') (w:Bs) (hw:w.length≤1000000)=>rfilled_any m.vm s.V w hw hfit H' (h.vars.ext k)
 have hen:=fun H' (k:Ext H H')=>rends_any (h.row.ext k) hln hsm (cl:=m.cl) (at_:=s.at_) hxl
 have hkl:(kindsL m.L).length=m.n:=by rw[kinds_len,hln]
 obtain⟨hE2,hE1⟩:=endsF_bound (K:=kindsL m.L) (h:=s.at_) (by omega)
 have hFAl:=fillF_len (varsF s.V) 65536 (by decide) hfit x.a
 have hFBl:=fillF_len (varsF s.V) 65536 (by decide) hfit x.b
 have hFTl:=fillF_len (varsF s.V) 65536 (by decide) hfit x.tx
 obtain⟨W,hW⟩: ∃ W,varsF s.V=W:=⟨_,rfl⟩
 rw[hW]at ht hFAl hFBl hFTl
 obtain⟨FA,hFA⟩: ∃ F,fillF W x.a=F:=⟨_,rfl⟩
 obtain⟨FB,hFB⟩: ∃ F,fillF W x.b=F:=⟨_,rfl⟩
 obtain⟨FT,hFT⟩: ∃ F,fillF W x.tx=F:=⟨_,rfl⟩
 rw[hFA]at hFAl
 rw[hFB]at hFBl
 rw[hFT]at hFTl
 have hFS:(mkS FT).size=FT.length:=rfl
 have hAc:=hok.count
 obtain⟨k,hxk⟩: ∃ k,x.k=k:=⟨_,rfl⟩
 rw[hxk]at hk
 have h1:k=1:=by omega
 ·refine Vc.CallH.body Tryz.func69 Tryz.call69 rfl (by decide+kernel) rfl ?_
  ((conv=>whnf);repeat(any_goals((first|(refine IdxA.ln h.row hln s.at_ x rfl hx ?_;intro _ _ hci)|((with_reducible apply SemH.load_ln);(focus((exact hci)));(focus((exact Ext.refl _)));(focus((conv=>whnf))))|(refine(ht _ (by exact Vc.xt) x.a (by omega)).mono ?_;rintro _ H2 ⟨rfl,hx2⟩;have hz2:=hx2.size;rw[hFA])|(refine(ht _ (by exact Vc.xt) x.b (by omega)).mono ?_;rintro _ H3 ⟨rfl,hx3⟩;have hz3:=hx3.size;rw[hFB])|(refine(ht _ (by exact Vc.xt) x.tx (by omega)).mono ?_;rintro _ H4 ⟨rfl,hx4⟩;have hz4:=hx4.size;rw[hFT])|((with_reducible apply SemH.of_string);(focus(rfl));(focus(rfl));(focus(rfl));(focus((rw[hFS];unfold maxLen;omega)));(focus((intro c6 H6 ho6 hx6;have hz6:=hx6.size;replace ho6:Own H6 H4.size 5 1 (some ⟨H4.size,0,none⟩) (mkS FT).size c6 (strV FT):=ho6;(conv=>whnf)))))|(refine(rwrite_any (h.tree.ext (by exact Vc.xt)) hok FA FT (by omega) _ _ _ ho6.row rfl (by omega)).mono ?_;rintro _ H5 hd;obtain rfl:=hd.code)|((with_reducible refine Vc.DrawH.held [0,1,2,3,4,5,7,8,9,10,11,12,6,13,14,15] [(6,[8,12])] mixed (by decide+kernel) ?_))|((with_reducible refine Vc.DrawH.held [0,1,2,3,4,5,6,7,8,9,10,11,12,13,14] [(11,[3]),(12,[3])] mixed (by decide+kernel) ?_))|((with_reducible refine Vc.DrawH.held [0,1,2,3,4,5,6,7,8,9,10,11,12,13,14] [(11,[3]),(12,[3])] mixed (by decide+kernel) ?_))|((with_reducible refine Vc.DrawH.held [0,1,2,3,4,6,7,5,8] [(5,[7])] mixed (by decide+kernel) ?_))|((with_reducible refine Vc.DrawH.held [0,1,2,3,4,5,6,7,8,9,10,11,12,13] [(9,[4])] mixed (by decide+kernel) ?_))|refine Vc.stp ?_)<;>(intros;(conv=>whnf)))))
  exact DoneR.did h (by unfold stepP;rw[if_neg (by omega: ¬x.k=0),if_pos (by omega:x.k=1),hW,hFA,hFT]) (show Ext H _ by exact Vc.xt) hd rfl
set_option maxHeartbeats 8000000 in
theorem rl2_any {m:RP} {s:St} {u:Nat} {sa:Option Addr} {sc:Nat} {H:Heap} (h:RMac H m s u sa sc) (hln:m.L.length=m.n) (hsm:m.n≤1000000) (hlens: ∀ x∈m.L,x.a.length≤1500∧x.b.length≤1500∧x.tx.length≤15000∧x.n≤1000000) (hB:m.B≤H.size) (hok:Okay s.A) (hfit:Fit s.V) (hSl:s.S.length≤1000000) (hS: ∀ p∈s.S,p.1<m.n∧p.2≤1000000) {x:Ln} (hx:m.L[s.at_]? =some x) (hj:x.k=2):
  CallH Tryz.prog 69 [.pointer (some ⟨m.g,0,none⟩),.slice m.al m.n m.cl,.int .i64 s.at_] H fun v H'=>DoneR H H' m s x u v:=by
 have hb:=h.stk.blk
 unfold mchC at hb
 have hxl:=(List.getElem?_eq_some_iff.1 hx).1
 rw[hln]at hxl
 have hgl:=hb.lt
 obtain⟨hla,hlb,hlt,hlx⟩:=hlens x (List.mem_of_getElem? hx)
 have hk:=kinds_get hx
 have ht:=fun H' (k:Ext H H') (w:Bs) (hw:w.length≤1000000)=>rfilled_any m.vm s.V w hw hfit H' (h.vars.ext k)
 have hen:=fun H' (k:Ext H H')=>rends_any (h.row.ext k) hln hsm (cl:=m.cl) (at_:=s.at_) hxl
 have hkl:(kindsL m.L).length=m.n:=by rw[kinds_len,hln]
 obtain⟨hE2,hE1⟩:=endsF_bound (K:=kindsL m.L) (h:=s.at_) (by omega)
 have hFAl:=fillF_len (varsF s.V) 65536 (by decide) hfit x.a
 have hFBl:=fillF_len (varsF s.V) 65536 (by decide) hfit x.b
 have hFTl:=fillF_len (varsF s.V) 65536 (by decide) hfit x.tx
 obtain⟨W,hW⟩: ∃ W,varsF s.V=W:=⟨_,rfl⟩
 rw[hW]at ht hFAl hFBl hFTl
 obtain⟨FA,hFA⟩: ∃ F,fillF W x.a=F:=⟨_,rfl⟩
 obtain⟨FB,hFB⟩: ∃ F,fillF W x.b=F:=⟨_,rfl⟩
 obtain⟨FT,hFT⟩: ∃ F,fillF W x.tx=F:=⟨_,rfl⟩
 rw[hFA]at hFAl
 rw[hFB]at hFBl
 rw[hFT]at hFTl
 have hFS:(mkS FT).size=FT.length:=rfl
 have hAc:=hok.count
 obtain⟨k,hxk⟩: ∃ k,x.k=k:=⟨_,rfl⟩
 rw[hxk]at hk
 have h2:k=2:=by omega
 ·refine Vc.CallH.body Tryz.func69 Tryz.call69 rfl (by decide+kernel) rfl ?_
  ((conv=>whnf);repeat(any_goals((first|(refine IdxA.ln h.row hln s.at_ x rfl hx ?_;intro _ _ hci)|((with_reducible apply SemH.load_ln);(focus((exact hci)));(focus((exact Ext.refl _)));(focus((conv=>whnf))))|(refine(ht _ (by exact Vc.xt) x.a (by omega)).mono ?_;rintro _ H2 ⟨rfl,hx2⟩;have hz2:=hx2.size;rw[hFA])|(refine(ht _ (by exact Vc.xt) x.b (by omega)).mono ?_;rintro _ H3 ⟨rfl,hx3⟩;have hz3:=hx3.size;rw[hFB])|(refine(ht _ (by exact Vc.xt) x.tx (by omega)).mono ?_;rintro _ H4 ⟨rfl,hx4⟩;have hz4:=hx4.size;rw[hFT])|((with_reducible apply SemH.of_string);(focus(rfl));(focus(rfl));(focus(rfl));(focus((rw[hFS];unfold maxLen;omega)));(focus((intro c6 H6 ho6 hx6;have hz6:=hx6.size;replace ho6:Own H6 H4.size 5 1 (some ⟨H4.size,0,none⟩) (mkS FT).size c6 (strV FT):=ho6;(conv=>whnf)))))|(refine(rappend_any (h.tree.ext (by exact Vc.xt)) hok FA FT (by omega) _ _ _ ho6.row rfl (by omega)).mono ?_;rintro _ H5 hd;obtain rfl:=hd.code)|((with_reducible refine Vc.DrawH.held [0,1,2,3,4,5,7,8,9,10,11,12,6,13,14,15] [(6,[8,12])] mixed (by decide+kernel) ?_))|((with_reducible refine Vc.DrawH.held [0,1,2,3,4,5,6,7,8,9,10,11,12,13,14] [(11,[3]),(12,[3])] mixed (by decide+kernel) ?_))|((with_reducible refine Vc.DrawH.held [0,1,2,3,4,5,6,7,8,9,10,11,12,13,14] [(11,[3]),(12,[3])] mixed (by decide+kernel) ?_))|((with_reducible refine Vc.DrawH.held [0,1,2,3,4,6,7,5,8] [(5,[7])] mixed (by decide+kernel) ?_))|((with_reducible refine Vc.DrawH.held [0,1,2,3,4,5,6,7,8,9,10,11,12,13] [(9,[4])] mixed (by decide+kernel) ?_))|refine Vc.stp ?_)<;>(intros;(conv=>whnf)))))
  exact DoneR.did h (by unfold stepP;rw[if_neg (by omega: ¬x.k=0),if_neg (by omega: ¬x.k=1),if_pos (by omega:x.k=2),hW,hFA,hFT]) (show Ext H _ by exact Vc.xt) hd rfl
set_option maxHeartbeats 8000000 in
theorem rl3_any {m:RP} {s:St} {u:Nat} {sa:Option Addr} {sc:Nat} {H:Heap} (h:RMac H m s u sa sc) (hln:m.L.length=m.n) (hsm:m.n≤1000000) (hlens: ∀ x∈m.L,x.a.length≤1500∧x.b.length≤1500∧x.tx.length≤15000∧x.n≤1000000) (hB:m.B≤H.size) (hok:Okay s.A) (hfit:Fit s.V) (hSl:s.S.length≤1000000) (hS: ∀ p∈s.S,p.1<m.n∧p.2≤1000000) {x:Ln} (hx:m.L[s.at_]? =some x) (hj:x.k=3):
  CallH Tryz.prog 69 [.pointer (some ⟨m.g,0,none⟩),.slice m.al m.n m.cl,.int .i64 s.at_] H fun v H'=>DoneR H H' m s x u v:=by
 have hb:=h.stk.blk
 unfold mchC at hb
 have hxl:=(List.getElem?_eq_some_iff.1 hx).1
 rw[hln]at hxl
 have hgl:=hb.lt
 obtain⟨hla,hlb,hlt,hlx⟩:=hlens x (List.mem_of_getElem? hx)
 have hk:=kinds_get hx
 have ht:=fun H' (k:Ext H H') (w:Bs) (hw:w.length≤1000000)=>rfilled_any m.vm s.V w hw hfit H' (h.vars.ext k)
 have hen:=fun H' (k:Ext H H')=>rends_any (h.row.ext k) hln hsm (cl:=m.cl) (at_:=s.at_) hxl
 have hkl:(kindsL m.L).length=m.n:=by rw[kinds_len,hln]
 obtain⟨hE2,hE1⟩:=endsF_bound (K:=kindsL m.L) (h:=s.at_) (by omega)
 have hFAl:=fillF_len (varsF s.V) 65536 (by decide) hfit x.a
 have hFBl:=fillF_len (varsF s.V) 65536 (by decide) hfit x.b
 have hFTl:=fillF_len (varsF s.V) 65536 (by decide) hfit x.tx
 obtain⟨W,hW⟩: ∃ W,varsF s.V=W:=⟨_,rfl⟩
 rw[hW]at ht hFAl hFBl hFTl
 obtain⟨FA,hFA⟩: ∃ F,fillF W x.a=F:=⟨_,rfl⟩
 obtain⟨FB,hFB⟩: ∃ F,fillF W x.b=F:=⟨_,rfl⟩
 obtain⟨FT,hFT⟩: ∃ F,fillF W x.tx=F:=⟨_,rfl⟩
 rw[hFA]at hFAl
 rw[hFB]at hFBl
 rw[hFT]at hFTl
 have hFS:(mkS FT).size=FT.length:=rfl
 have hAc:=hok.count
 obtain⟨k,hxk⟩: ∃ k,x.k=k:=⟨_,rfl⟩
 rw[hxk]at hk
 have h3:k=3:=by omega
 ·refine Vc.CallH.body Tryz.func69 Tryz.call69 rfl (by decide+kernel) rfl ?_
  ((conv=>whnf);repeat(any_goals((first|(refine IdxA.ln h.row hln s.at_ x rfl hx ?_;intro _ _ hci)|((with_reducible apply SemH.load_ln);(focus((exact hci)));(focus((exact Ext.refl _)));(focus((conv=>whnf))))|(refine(ht _ (by exact Vc.xt) x.a (by omega)).mono ?_;rintro _ H2 ⟨rfl,hx2⟩;have hz2:=hx2.size;rw[hFA])|(refine(ht _ (by exact Vc.xt) x.b (by omega)).mono ?_;rintro _ H3 ⟨rfl,hx3⟩;have hz3:=hx3.size;rw[hFB])|(refine(rmkdir_any (h.tree.ext (by exact Vc.xt)) hok FA (by omega)).mono ?_;rintro _ H5 hd;obtain rfl:=hd.code)|((with_reducible refine Vc.DrawH.held [0,1,2,3,4,5,7,8,9,10,11,12,6,13,14,15] [(6,[8,12])] mixed (by decide+kernel) ?_))|((with_reducible refine Vc.DrawH.held [0,1,2,3,4,5,6,7,8,9,10,11,12,13,14] [(11,[3]),(12,[3])] mixed (by decide+kernel) ?_))|((with_reducible refine Vc.DrawH.held [0,1,2,3,4,5,6,7,8,9,10,11,12,13,14] [(11,[3]),(12,[3])] mixed (by decide+kernel) ?_))|((with_reducible refine Vc.DrawH.held [0,1,2,3,4,6,7,5,8] [(5,[7])] mixed (by decide+kernel) ?_))|((with_reducible refine Vc.DrawH.held [0,1,2,3,4,5,6,7,8,9,10,11,12,13] [(9,[4])] mixed (by decide+kernel) ?_))|refine Vc.stp ?_)<;>(intros;(conv=>whnf)))))
  exact DoneR.did h (by unfold stepP;rw[if_neg (by omega: ¬x.k=0),if_neg (by omega: ¬x.k=1),if_neg (by omega: ¬x.k=2),if_pos (by omega:x.k=3),hW,hFA]) (show Ext H _ by exact Vc.xt) hd rfl
set_option maxHeartbeats 8000000 in
theorem rl4_any {m:RP} {s:St} {u:Nat} {sa:Option Addr} {sc:Nat} {H:Heap} (h:RMac H m s u sa sc) (hln:m.L.length=m.n) (hsm:m.n≤1000000) (hlens: ∀ x∈m.L,x.a.length≤1500∧x.b.length≤1500∧x.tx.length≤15000∧x.n≤1000000) (hB:m.B≤H.size) (hok:Okay s.A) (hfit:Fit s.V) (hSl:s.S.length≤1000000) (hS: ∀ p∈s.S,p.1<m.n∧p.2≤1000000) {x:Ln} (hx:m.L[s.at_]? =some x) (hj:x.k=4):
  CallH Tryz.prog 69 [.pointer (some ⟨m.g,0,none⟩),.slice m.al m.n m.cl,.int .i64 s.at_] H fun v H'=>DoneR H H' m s x u v:=by
 have hb:=h.stk.blk
 unfold mchC at hb
 have hxl:=(List.getElem?_eq_some_iff.1 hx).1
 rw[hln]at hxl
 have hgl:=hb.lt
 obtain⟨hla,hlb,hlt,hlx⟩:=hlens x (List.mem_of_getElem? hx)
 have hk:=kinds_get hx
 have ht:=fun H' (k:Ext H H') (w:Bs) (hw:w.length≤1000000)=>rfilled_any m.vm s.V w hw hfit H' (h.vars.ext k)
 have hen:=fun H' (k:Ext H H')=>rends_any (h.row.ext k) hln hsm (cl:=m.cl) (at_:=s.at_) hxl
 have hkl:(kindsL m.L).length=m.n:=by rw[kinds_len,hln]
 obtain⟨hE2,hE1⟩:=endsF_bound (K:=kindsL m.L) (h:=s.at_) (by omega)
 have hFAl:=fillF_len (varsF s.V) 65536 (by decide) hfit x.a
 have hFBl:=fillF_len (varsF s.V) 65536 (by decide) hfit x.b
 have hFTl:=fillF_len (varsF s.V) 65536 (by decide) hfit x.tx
 obtain⟨W,hW⟩: ∃ W,varsF s.V=W:=⟨_,rfl⟩
 rw[hW]at ht hFAl hFBl hFTl
 obtain⟨FA,hFA⟩: ∃ F,fillF W x.a=F:=⟨_,rfl⟩
 obtain⟨FB,hFB⟩: ∃ F,fillF W x.b=F:=⟨_,rfl⟩
 obtain⟨FT,hFT⟩: ∃ F,fillF W x.tx=F:=⟨_,rfl⟩
 rw[hFA]at hFAl
 rw[hFB]at hFBl
 rw[hFT]at hFTl
 have hFS:(mkS FT).size=FT.length:=rfl
 have hAc:=hok.count
 obtain⟨k,hxk⟩: ∃ k,x.k=k:=⟨_,rfl⟩
 rw[hxk]at hk
 have h4:k=4:=by omega
 ·refine Vc.CallH.body Tryz.func69 Tryz.call69 rfl (by decide+kernel) rfl ?_
  ((conv=>whnf);repeat(any_goals((first|(refine IdxA.ln h.row hln s.at_ x rfl hx ?_;intro _ _ hci)|((with_reducible apply SemH.load_ln);(focus((exact hci)));(focus((exact Ext.refl _)));(focus((conv=>whnf))))|(refine(ht _ (by exact Vc.xt) x.a (by omega)).mono ?_;rintro _ H2 ⟨rfl,hx2⟩;have hz2:=hx2.size;rw[hFA])|(refine(ht _ (by exact Vc.xt) x.b (by omega)).mono ?_;rintro _ H3 ⟨rfl,hx3⟩;have hz3:=hx3.size;rw[hFB])|(refine(rremove_any (h.tree.ext (by exact Vc.xt)) hok FA (by omega)).mono ?_;rintro _ H5 hd;obtain rfl:=hd.code)|((with_reducible refine Vc.DrawH.held [0,1,2,3,4,5,7,8,9,10,11,12,6,13,14,15] [(6,[8,12])] mixed (by decide+kernel) ?_))|((with_reducible refine Vc.DrawH.held [0,1,2,3,4,5,6,7,8,9,10,11,12,13,14] [(11,[3]),(12,[3])] mixed (by decide+kernel) ?_))|((with_reducible refine Vc.DrawH.held [0,1,2,3,4,5,6,7,8,9,10,11,12,13,14] [(11,[3]),(12,[3])] mixed (by decide+kernel) ?_))|((with_reducible refine Vc.DrawH.held [0,1,2,3,4,6,7,5,8] [(5,[7])] mixed (by decide+kernel) ?_))|((with_reducible refine Vc.DrawH.held [0,1,2,3,4,5,6,7,8,9,10,11,12,13] [(9,[4])] mixed (by decide+kernel) ?_))|refine Vc.stp ?_)<;>(intros;(conv=>whnf)))))
  exact DoneR.did h (by unfold stepP;rw[if_neg (by omega: ¬x.k=0),if_neg (by omega: ¬x.k=1),if_neg (by omega: ¬x.k=2),if_neg (by omega: ¬x.k=3),if_pos (by omega:x.k=4),hW,hFA]) (show Ext H _ by exact Vc.xt) hd rfl
set_option maxHeartbeats 8000000 in
theorem rl5_any {m:RP} {s:St} {u:Nat} {sa:Option Addr} {sc:Nat} {H:Heap} (h:RMac H m s u sa sc) (hln:m.L.length=m.n) (hsm:m.n≤1000000) (hlens: ∀ x∈m.L,x.a.length≤1500∧x.b.length≤1500∧x.tx.length≤15000∧x.n≤1000000) (hB:m.B≤H.size) (hok:Okay s.A) (hfit:Fit s.V) (hSl:s.S.length≤1000000) (hS: ∀ p∈s.S,p.1<m.n∧p.2≤1000000) {x:Ln} (hx:m.L[s.at_]? =some x) (hj:x.k=5):
  CallH Tryz.prog 69 [.pointer (some ⟨m.g,0,none⟩),.slice m.al m.n m.cl,.int .i64 s.at_] H fun v H'=>DoneR H H' m s x u v:=by
 have hb:=h.stk.blk
 unfold mchC at hb
 have hxl:=(List.getElem?_eq_some_iff.1 hx).1
 rw[hln]at hxl
 have hgl:=hb.lt
 obtain⟨hla,hlb,hlt,hlx⟩:=hlens x (List.mem_of_getElem? hx)
 have hk:=kinds_get hx
 have ht:=fun H' (k:Ext H H') (w:Bs) (hw:w.length≤1000000)=>rfilled_any m.vm s.V w hw hfit H' (h.vars.ext k)
 have hen:=fun H' (k:Ext H H')=>rends_any (h.row.ext k) hln hsm (cl:=m.cl) (at_:=s.at_) hxl
 have hkl:(kindsL m.L).length=m.n:=by rw[kinds_len,hln]
 obtain⟨hE2,hE1⟩:=endsF_bound (K:=kindsL m.L) (h:=s.at_) (by omega)
 have hFAl:=fillF_len (varsF s.V) 65536 (by decide) hfit x.a
 have hFBl:=fillF_len (varsF s.V) 65536 (by decide) hfit x.b
 have hFTl:=fillF_len (varsF s.V) 65536 (by decide) hfit x.tx
 obtain⟨W,hW⟩: ∃ W,varsF s.V=W:=⟨_,rfl⟩
 rw[hW]at ht hFAl hFBl hFTl
 obtain⟨FA,hFA⟩: ∃ F,fillF W x.a=F:=⟨_,rfl⟩
 obtain⟨FB,hFB⟩: ∃ F,fillF W x.b=F:=⟨_,rfl⟩
 obtain⟨FT,hFT⟩: ∃ F,fillF W x.tx=F:=⟨_,rfl⟩
 rw[hFA]at hFAl
 rw[hFB]at hFBl
 rw[hFT]at hFTl
 have hFS:(mkS FT).size=FT.length:=rfl
 have hAc:=hok.count
 obtain⟨k,hxk⟩: ∃ k,x.k=k:=⟨_,rfl⟩
 rw[hxk]at hk
 have h5:k=5:=by omega
 ·refine Vc.CallH.body Tryz.func69 Tryz.call69 rfl (by decide+kernel) rfl ?_
  ((conv=>whnf);repeat(any_goals((first|(refine IdxA.ln h.row hln s.at_ x rfl hx ?_;intro _ _ hci)|((with_reducible apply SemH.load_ln);(focus((exact hci)));(focus((exact Ext.refl _)));(focus((conv=>whnf))))|(refine(ht _ (by exact Vc.xt) x.a (by omega)).mono ?_;rintro _ H2 ⟨rfl,hx2⟩;have hz2:=hx2.size;rw[hFA])|(refine(ht _ (by exact Vc.xt) x.b (by omega)).mono ?_;rintro _ H3 ⟨rfl,hx3⟩;have hz3:=hx3.size;rw[hFB])|(refine(rrename_any (h.tree.ext (by exact Vc.xt)) hok FA FB (by omega) (by omega)).mono ?_;rintro _ H5 hd;obtain rfl:=hd.code)|((with_reducible refine Vc.DrawH.held [0,1,2,3,4,5,7,8,9,10,11,12,6,13,14,15] [(6,[8,12])] mixed (by decide+kernel) ?_))|((with_reducible refine Vc.DrawH.held [0,1,2,3,4,5,6,7,8,9,10,11,12,13,14] [(11,[3]),(12,[3])] mixed (by decide+kernel) ?_))|((with_reducible refine Vc.DrawH.held [0,1,2,3,4,5,6,7,8,9,10,11,12,13,14] [(11,[3]),(12,[3])] mixed (by decide+kernel) ?_))|((with_reducible refine Vc.DrawH.held [0,1,2,3,4,6,7,5,8] [(5,[7])] mixed (by decide+kernel) ?_))|((with_reducible refine Vc.DrawH.held [0,1,2,3,4,5,6,7,8,9,10,11,12,13] [(9,[4])] mixed (by decide+kernel) ?_))|refine Vc.stp ?_)<;>(intros;(conv=>whnf)))))
  exact DoneR.did h (by unfold stepP;rw[if_neg (by omega: ¬x.k=0),if_neg (by omega: ¬x.k=1),if_neg (by omega: ¬x.k=2),if_neg (by omega: ¬x.k=3),if_neg (by omega: ¬x.k=4),if_pos (by omega:x.k=5),hW,hFA,hFB]) (show Ext H _ by exact Vc.xt) hd rfl
set_option maxHeartbeats 8000000 in
theorem rl6_any {m:RP} {s:St} {u:Nat} {sa:Option Addr} {sc:Nat} {H:Heap} (h:RMac H m s u sa sc) (hln:m.L.length=m.n) (hsm:m.n≤1000000) (hlens: ∀ x∈m.L,x.a.length≤1500∧x.b.length≤1500∧x.tx.length≤15000∧x.n≤1000000) (hB:m.B≤H.size) (hok:Okay s.A) (hfit:Fit s.V) (hSl:s.S.length≤1000000) (hS: ∀ p∈s.S,p.1<m.n∧p.2≤1000000) {x:Ln} (hx:m.L[s.at_]? =some x) (hj:x.k=6):
  CallH Tryz.prog 69 [.pointer (some ⟨m.g,0,none⟩),.slice m.al m.n m.cl,.int .i64 s.at_] H fun v H'=>DoneR H H' m s x u v:=by
 have hb:=h.stk.blk
 unfold mchC at hb
 have hxl:=(List.getElem?_eq_some_iff.1 hx).1
 rw[hln]at hxl
 have hgl:=hb.lt
 obtain⟨hla,hlb,hlt,hlx⟩:=hlens x (List.mem_of_getElem? hx)
 have hk:=kinds_get hx
 have ht:=fun H' (k:Ext H H') (w:Bs) (hw:w.length≤1000000)=>rfilled_any m.vm s.V w hw hfit H' (h.vars.ext k)
 have hen:=fun H' (k:Ext H H')=>rends_any (h.row.ext k) hln hsm (cl:=m.cl) (at_:=s.at_) hxl
 have hkl:(kindsL m.L).length=m.n:=by rw[kinds_len,hln]
 obtain⟨hE2,hE1⟩:=endsF_bound (K:=kindsL m.L) (h:=s.at_) (by omega)
 have hFAl:=fillF_len (varsF s.V) 65536 (by decide) hfit x.a
 have hFBl:=fillF_len (varsF s.V) 65536 (by decide) hfit x.b
 have hFTl:=fillF_len (varsF s.V) 65536 (by decide) hfit x.tx
 obtain⟨W,hW⟩: ∃ W,varsF s.V=W:=⟨_,rfl⟩
 rw[hW]at ht hFAl hFBl hFTl
 obtain⟨FA,hFA⟩: ∃ F,fillF W x.a=F:=⟨_,rfl⟩
 obtain⟨FB,hFB⟩: ∃ F,fillF W x.b=F:=⟨_,rfl⟩
 obtain⟨FT,hFT⟩: ∃ F,fillF W x.tx=F:=⟨_,rfl⟩
 rw[hFA]at hFAl
 rw[hFB]at hFBl
 rw[hFT]at hFTl
 have hFS:(mkS FT).size=FT.length:=rfl
 have hAc:=hok.count
 obtain⟨k,hxk⟩: ∃ k,x.k=k:=⟨_,rfl⟩
 rw[hxk]at hk
 have h6:k=6:=by omega
 ·have hnm:=fun H=>rname_any x.a (by omega) H
  refine Vc.CallH.body Tryz.func69 Tryz.call69 rfl (by decide+kernel) rfl ?_
  by_cases hn:isName x.a=false
  ·rw[hn]at hnm
   ((conv=>whnf);repeat(any_goals((first|(refine IdxA.ln h.row hln s.at_ x rfl hx ?_;intro _ _ hci)|((with_reducible apply SemH.load_ln);(focus((exact hci)));(focus((exact Ext.refl _)));(focus((conv=>whnf))))|(refine(ht _ (by exact Vc.xt) x.a (by omega)).mono ?_;rintro _ H2 ⟨rfl,hx2⟩;have hz2:=hx2.size;rw[hFA])|(refine(ht _ (by exact Vc.xt) x.b (by omega)).mono ?_;rintro _ H3 ⟨rfl,hx3⟩;have hz3:=hx3.size;rw[hFB])|(refine(ht _ (by exact Vc.xt) x.tx (by omega)).mono ?_;rintro _ H4 ⟨rfl,hx4⟩;have hz4:=hx4.size;rw[hFT])|((with_reducible apply SemH.of_string);(focus(rfl));(focus(rfl));(focus(rfl));(focus((rw[hFS];unfold maxLen;omega)));(focus((intro c6 H6 ho6 hx6;have hz6:=hx6.size;replace ho6:Own H6 H4.size 5 1 (some ⟨H4.size,0,none⟩) (mkS FT).size c6 (strV FT):=ho6;(conv=>whnf)))))|(refine(hnm _).mono ?_;rintro _ _ ⟨rfl,rfl⟩)|((with_reducible refine Vc.DrawH.held [0,1,2,3,4,5,7,8,9,10,11,12,6,13,14,15] [(6,[8,12])] mixed (by decide+kernel) ?_))|((with_reducible refine Vc.DrawH.held [0,1,2,3,4,5,6,7,8,9,10,11,12,13,14] [(11,[3]),(12,[3])] mixed (by decide+kernel) ?_))|((with_reducible refine Vc.DrawH.held [0,1,2,3,4,5,6,7,8,9,10,11,12,13,14] [(11,[3]),(12,[3])] mixed (by decide+kernel) ?_))|((with_reducible refine Vc.DrawH.held [0,1,2,3,4,6,7,5,8] [(5,[7])] mixed (by decide+kernel) ?_))|((with_reducible refine Vc.DrawH.held [0,1,2,3,4,5,6,7,8,9,10,11,12,13] [(9,[4])] mixed (by decide+kernel) ?_))|refine Vc.stp ?_)<;>(intros;(conv=>whnf)))))
   obtain⟨h1,h2⟩:=h.to (s':=s) (show Ext H H4 by exact Vc.xt) rfl rfl rfl
   exact DoneR.to (nx:=0) (e:=72) (by unfold stepP;rw[if_neg (by omega: ¬x.k=0),if_neg (by omega: ¬x.k=1),if_neg (by omega: ¬x.k=2),if_neg (by omega: ¬x.k=3),if_neg (by omega: ¬x.k=4),if_neg (by omega: ¬x.k=5),if_pos (by omega:x.k=6),if_pos hn]) h1 h2 rfl (fun e=>by cases e)
  have hn':isName x.a=true:=by simpa using hn
  rw[hn']at hnm
  by_cases hbg:65536<FT.length
  ·((conv=>whnf);repeat(any_goals((first|(refine IdxA.ln h.row hln s.at_ x rfl hx ?_;intro _ _ hci)|((with_reducible apply SemH.load_ln);(focus((exact hci)));(focus((exact Ext.refl _)));(focus((conv=>whnf))))|(refine(ht _ (by exact Vc.xt) x.a (by omega)).mono ?_;rintro _ H2 ⟨rfl,hx2⟩;have hz2:=hx2.size;rw[hFA])|(refine(ht _ (by exact Vc.xt) x.b (by omega)).mono ?_;rintro _ H3 ⟨rfl,hx3⟩;have hz3:=hx3.size;rw[hFB])|(refine(ht _ (by exact Vc.xt) x.tx (by omega)).mono ?_;rintro _ H4 ⟨rfl,hx4⟩;have hz4:=hx4.size;rw[hFT])|((with_reducible apply SemH.of_string);(focus(rfl));(focus(rfl));(focus(rfl));(focus((rw[hFS];unfold maxLen;omega)));(focus((intro c6 H6 ho6 hx6;have hz6:=hx6.size;replace ho6:Own H6 H4.size 5 1 (some ⟨H4.size,0,none⟩) (mkS FT).size c6 (strV FT):=ho6;(conv=>whnf)))))|(refine(hnm _).mono ?_;rintro _ _ ⟨rfl,rfl⟩)|((with_reducible refine Vc.DrawH.held [0,1,2,3,4,5,7,8,9,10,11,12,6,13,14,15] [(6,[8,12])] mixed (by decide+kernel) ?_))|((with_reducible refine Vc.DrawH.held [0,1,2,3,4,5,6,7,8,9,10,11,12,13,14] [(11,[3]),(12,[3])] mixed (by decide+kernel) ?_))|((with_reducible refine Vc.DrawH.held [0,1,2,3,4,5,6,7,8,9,10,11,12,13,14] [(11,[3]),(12,[3])] mixed (by decide+kernel) ?_))|((with_reducible refine Vc.DrawH.held [0,1,2,3,4,6,7,5,8] [(5,[7])] mixed (by decide+kernel) ?_))|((with_reducible refine Vc.DrawH.held [0,1,2,3,4,5,6,7,8,9,10,11,12,13] [(9,[4])] mixed (by decide+kernel) ?_))|refine Vc.stp ?_)<;>(intros;(conv=>whnf)))))
   obtain⟨h1,h2⟩:=h.to (s':=s) (show Ext H H4 by exact Vc.xt) rfl rfl rfl
   exact DoneR.to (nx:=0) (e:=55) (by unfold stepP;rw[if_neg (by omega: ¬x.k=0),if_neg (by omega: ¬x.k=1),if_neg (by omega: ¬x.k=2),if_neg (by omega: ¬x.k=3),if_neg (by omega: ¬x.k=4),if_neg (by omega: ¬x.k=5),if_pos (by omega:x.k=6),if_neg hn,hW,hFT,if_pos hbg]) h1 h2 rfl (fun e=>by cases e)
  cases hvm:m.vm with
  |none=>
   rw[hvm]at hb ht
   have hvs:=h.vars
   rw[hvm]at hvs
   cases hV:s.V with
   |some W'=>rw[hV]at hvs;exact hvs.elim
   |none=>
    ((conv=>whnf);repeat(any_goals((first|(refine IdxA.ln h.row hln s.at_ x rfl hx ?_;intro _ _ hci)|((with_reducible apply SemH.load_ln);(focus((exact hci)));(focus((exact Ext.refl _)));(focus((conv=>whnf))))|(refine(ht _ (by exact Vc.xt) x.a (by omega)).mono ?_;rintro _ H2 ⟨rfl,hx2⟩;have hz2:=hx2.size;rw[hFA])|(refine(ht _ (by exact Vc.xt) x.b (by omega)).mono ?_;rintro _ H3 ⟨rfl,hx3⟩;have hz3:=hx3.size;rw[hFB])|(refine(ht _ (by exact Vc.xt) x.tx (by omega)).mono ?_;rintro _ H4 ⟨rfl,hx4⟩;have hz4:=hx4.size;rw[hFT])|((with_reducible apply SemH.of_string);(focus(rfl));(focus(rfl));(focus(rfl));(focus((rw[hFS];unfold maxLen;omega)));(focus((intro c6 H6 ho6 hx6;have hz6:=hx6.size;replace ho6:Own H6 H4.size 5 1 (some ⟨H4.size,0,none⟩) (mkS FT).size c6 (strV FT):=ho6;(conv=>whnf)))))|(refine(hnm _).mono ?_;rintro _ _ ⟨rfl,rfl⟩)|((with_reducible apply mapNe);(focus((conv=>whnf))))|((with_reducible refine Vc.DrawH.held [0,1,2,3,4,5,7,8,9,10,11,12,6,13,14,15] [(6,[8,12])] mixed (by decide+kernel) ?_))|((with_reducible refine Vc.DrawH.held [0,1,2,3,4,5,6,7,8,9,10,11,12,13,14] [(11,[3]),(12,[3])] mixed (by decide+kernel) ?_))|((with_reducible refine Vc.DrawH.held [0,1,2,3,4,5,6,7,8,9,10,11,12,13,14] [(11,[3]),(12,[3])] mixed (by decide+kernel) ?_))|((with_reducible refine Vc.DrawH.held [0,1,2,3,4,6,7,5,8] [(5,[7])] mixed (by decide+kernel) ?_))|((with_reducible refine Vc.DrawH.held [0,1,2,3,4,5,6,7,8,9,10,11,12,13] [(9,[4])] mixed (by decide+kernel) ?_))|refine Vc.stp ?_)<;>(intros;(conv=>whnf)))))
    obtain⟨h1,h2⟩:=h.to (s':=nextF s) (show Ext H H4 by exact Vc.xt) rfl rfl rfl
    exact DoneR.to (nx:=s.at_+1) (e:=0) (by unfold stepP;rw[if_neg (by omega: ¬x.k=0),if_neg (by omega: ¬x.k=1),if_neg (by omega: ¬x.k=2),if_neg (by omega: ¬x.k=3),if_neg (by omega: ¬x.k=4),if_neg (by omega: ¬x.k=5),if_pos (by omega:x.k=6),if_neg hn,hW,hFT,if_neg hbg];rw[hV];unfold nextF;rw[hV];rfl) h1 h2 rfl (fun _=>rfl)
  |some vb=>
   rw[hvm]at hb ht
   have hvs:=h.vars
   rw[hvm]at hvs
   cases hV:s.V with
   |none=>rw[hV]at hvs;exact hvs.elim
   |some W'=>
    rw[hV]at hvs
    have hmo: ∀ {H':Heap},Ext H H'→MapO H' vb (varV W'):=fun k=>VarsO.ext (vm:=some vb) (V:=some W') hvs k
    ((conv=>whnf);repeat(any_goals((first|(refine IdxA.ln h.row hln s.at_ x rfl hx ?_;intro _ _ hci)|((with_reducible apply SemH.load_ln);(focus((exact hci)));(focus((exact Ext.refl _)));(focus((conv=>whnf))))|(refine(ht _ (by exact Vc.xt) x.a (by omega)).mono ?_;rintro _ H2 ⟨rfl,hx2⟩;have hz2:=hx2.size;rw[hFA])|(refine(ht _ (by exact Vc.xt) x.b (by omega)).mono ?_;rintro _ H3 ⟨rfl,hx3⟩;have hz3:=hx3.size;rw[hFB])|(refine(ht _ (by exact Vc.xt) x.tx (by omega)).mono ?_;rintro _ H4 ⟨rfl,hx4⟩;have hz4:=hx4.size;rw[hFT])|((with_reducible apply SemH.of_string);(focus(rfl));(focus(rfl));(focus(rfl));(focus((rw[hFS];unfold maxLen;omega)));(focus((intro c6 H6 ho6 hx6;have hz6:=hx6.size;replace ho6:Own H6 H4.size 5 1 (some ⟨H4.size,0,none⟩) (mkS FT).size c6 (strV FT):=ho6;(conv=>whnf)))))|(refine(hnm _).mono ?_;rintro _ _ ⟨rfl,rfl⟩)|((with_reducible apply mapNe);(focus((conv=>whnf))))|(refine CondH.pos (show(some vb).isSome=true from rfl) ?_)|((with_reducible apply DoH.mapPut);(focus((exact hmo (by exact Vc.xt))));(focus(rfl));(focus(rfl));(focus((intro H5 hz5 hm5 hb5;(conv=>whnf)))))|((with_reducible refine Vc.DrawH.held [0,1,2,3,4,5,7,8,9,10,11,12,6,13,14,15] [(6,[8,12])] mixed (by decide+kernel) ?_))|((with_reducible refine Vc.DrawH.held [0,1,2,3,4,5,6,7,8,9,10,11,12,13,14] [(11,[3]),(12,[3])] mixed (by decide+kernel) ?_))|((with_reducible refine Vc.DrawH.held [0,1,2,3,4,5,6,7,8,9,10,11,12,13,14] [(11,[3]),(12,[3])] mixed (by decide+kernel) ?_))|((with_reducible refine Vc.DrawH.held [0,1,2,3,4,6,7,5,8] [(5,[7])] mixed (by decide+kernel) ?_))|((with_reducible refine Vc.DrawH.held [0,1,2,3,4,5,6,7,8,9,10,11,12,13] [(9,[4])] mixed (by decide+kernel) ?_))|refine Vc.stp ?_)<;>(intros;(conv=>whnf)))))
    rw[var_put]at hm5
    have hWW:W=W':=by rw[←hW,hV];rfl
    subst hWW
    have hvv:VarsO H5 m.vm ((some W).map fun V=>mput V x.a (fillF V x.tx)):=by
     rw[hvm]
     show MapO H5 vb (varV (mput W x.a (fillF W x.tx)))
     rw[hFT];exact hm5
    obtain⟨h1,h2⟩:=h.set (s':={nextF s with V:=s.V.map fun V=>mput V x.a (fillF V x.tx)}) (show Ext H H4 by exact Vc.xt) rfl rfl (by show VarsO H5 m.vm (s.V.map _);rw[hV];exact hvv) (hb5.mono fun y e=>by rw[hvm,e])
    exact DoneR.to (nx:=s.at_+1) (e:=0) (by unfold stepP;rw[if_neg (by omega: ¬x.k=0),if_neg (by omega: ¬x.k=1),if_neg (by omega: ¬x.k=2),if_neg (by omega: ¬x.k=3),if_neg (by omega: ¬x.k=4),if_neg (by omega: ¬x.k=5),if_pos (by omega:x.k=6),if_neg hn,hW,hFT,if_neg hbg]) h1 h2 rfl (fun _=>rfl)
end Go.Proofs.YtphkaogbcfdllaaGreatDoor
namespace Go.Proofs.YtphkaogbcfdllaaGreatDoor
open Go Go.Vc Go.Scr Go.Pth Go.Tre Go.Blk Go.Run
set_option maxHeartbeats 8000000 in
theorem rl7_any {m:RP} {s:St} {u:Nat} {sa:Option Addr} {sc:Nat} {H:Heap} (h:RMac H m s u sa sc) (hln:m.L.length=m.n) (hsm:m.n≤1000000) (hlens: ∀ x∈m.L,x.a.length≤1500∧x.b.length≤1500∧x.tx.length≤15000∧x.n≤1000000) (hB:m.B≤H.size) (hok:Okay s.A) (hfit:Fit s.V) (hSl:s.S.length≤1000000) (hS: ∀ p∈s.S,p.1<m.n∧p.2≤1000000) {x:Ln} (hx:m.L[s.at_]? =some x) (hj:x.k=7):
  CallH Tryz.prog 69 [.pointer (some ⟨m.g,0,none⟩),.slice m.al m.n m.cl,.int .i64 s.at_] H fun v H'=>DoneR H H' m s x u v:=by
 have hb:=h.stk.blk
 unfold mchC at hb
 have hxl:=(List.getElem?_eq_some_iff.1 hx).1
 rw[hln]at hxl
 have hgl:=hb.lt
 obtain⟨hla,hlb,hlt,hlx⟩:=hlens x (List.mem_of_getElem? hx)
 have hk:=kinds_get hx
 have ht:=fun H' (k:Ext H H') (w:Bs) (hw:w.length≤1000000)=>rfilled_any m.vm s.V w hw hfit H' (h.vars.ext k)
 have hen:=fun H' (k:Ext H H')=>rends_any (h.row.ext k) hln hsm (cl:=m.cl) (at_:=s.at_) hxl
 have hkl:(kindsL m.L).length=m.n:=by rw[kinds_len,hln]
 obtain⟨hE2,hE1⟩:=endsF_bound (K:=kindsL m.L) (h:=s.at_) (by omega)
 have hFAl:=fillF_len (varsF s.V) 65536 (by decide) hfit x.a
 have hFBl:=fillF_len (varsF s.V) 65536 (by decide) hfit x.b
 have hFTl:=fillF_len (varsF s.V) 65536 (by decide) hfit x.tx
 obtain⟨W,hW⟩: ∃ W,varsF s.V=W:=⟨_,rfl⟩
 rw[hW]at ht hFAl hFBl hFTl
 obtain⟨FA,hFA⟩: ∃ F,fillF W x.a=F:=⟨_,rfl⟩
 obtain⟨FB,hFB⟩: ∃ F,fillF W x.b=F:=⟨_,rfl⟩
 obtain⟨FT,hFT⟩: ∃ F,fillF W x.tx=F:=⟨_,rfl⟩
 rw[hFA]at hFAl
 rw[hFB]at hFBl
 rw[hFT]at hFTl
 have hFS:(mkS FT).size=FT.length:=rfl
 have hAc:=hok.count
 obtain⟨k,hxk⟩: ∃ k,x.k=k:=⟨_,rfl⟩
 rw[hxk]at hk
 have h7:k=7:=by omega
 ·by_cases hex:existsF s.A FA=x.nt
  ·have hq:(existsF s.A FA==x.nt)=true:=by rw[hex];exact beq_self_eq_true _
   cases hel:(endsF (kindsL m.L) s.at_).1 with
   |some e=>
    have hee:=hE1 e hel
    rw[hel]at hen
    simp only[elsV]at hen
    refine Vc.CallH.body Tryz.func69 Tryz.call69 rfl (by decide+kernel) rfl ?_
    ((conv=>whnf);repeat(any_goals((first|(refine IdxA.ln h.row hln s.at_ x rfl hx ?_;intro _ _ hci)|((with_reducible apply SemH.load_ln);(focus((exact hci)));(focus((exact Ext.refl _)));(focus((conv=>whnf))))|(refine(ht _ (by exact Vc.xt) x.a (by omega)).mono ?_;rintro _ H2 ⟨rfl,hx2⟩;have hz2:=hx2.size;rw[hFA])|(refine(ht _ (by exact Vc.xt) x.b (by omega)).mono ?_;rintro _ H3 ⟨rfl,hx3⟩;have hz3:=hx3.size;rw[hFB])|(refine(hen _ (by exact Vc.xt)).mono ?_;rintro _ _ ⟨rfl,rfl⟩)|(refine(rexists_any (h.tree.ext (by exact Vc.xt)) (by omega) FA (by omega)).mono ?_;rintro _ H4 ⟨rfl,hx4⟩;have hz4:=hx4.size)|((with_reducible refine Vc.DrawH.held [0,1,2,3,4,5,7,8,9,10,11,12,6,13,14,15] [(6,[8,12])] mixed (by decide+kernel) ?_))|((with_reducible refine Vc.DrawH.held [0,1,2,3,4,5,6,7,8,9,10,11,12,13,14] [(11,[3]),(12,[3])] mixed (by decide+kernel) ?_))|((with_reducible refine Vc.DrawH.held [0,1,2,3,4,5,6,7,8,9,10,11,12,13,14] [(11,[3]),(12,[3])] mixed (by decide+kernel) ?_))|((with_reducible refine Vc.DrawH.held [0,1,2,3,4,6,7,5,8] [(5,[7])] mixed (by decide+kernel) ?_))|((with_reducible refine Vc.DrawH.held [0,1,2,3,4,5,6,7,8,9,10,11,12,13] [(9,[4])] mixed (by decide+kernel) ?_))|refine Vc.stp ?_)<;>(intros;(conv=>whnf)))))
    obtain⟨h1,h2⟩:=h.to (s':={s with at_:=e+1}) (show Ext H H4 by exact Vc.xt) rfl rfl rfl
    exact DoneR.to (nx:=e+1) (e:=0) (by unfold stepP;rw[if_neg (by omega: ¬x.k=0),if_neg (by omega: ¬x.k=1),if_neg (by omega: ¬x.k=2),if_neg (by omega: ¬x.k=3),if_neg (by omega: ¬x.k=4),if_neg (by omega: ¬x.k=5),if_neg (by omega: ¬x.k=6),if_pos (by omega:x.k=7),hW,hFA,if_pos hex];rw[hel]) h1 h2 rfl (fun _=>rfl)
   |none=>
    rw[hel]at hen
    simp only[elsV]at hen
    refine Vc.CallH.body Tryz.func69 Tryz.call69 rfl (by decide+kernel) rfl ?_
    ((conv=>whnf);repeat(any_goals((first|(refine IdxA.ln h.row hln s.at_ x rfl hx ?_;intro _ _ hci)|((with_reducible apply SemH.load_ln);(focus((exact hci)));(focus((exact Ext.refl _)));(focus((conv=>whnf))))|(refine(ht _ (by exact Vc.xt) x.a (by omega)).mono ?_;rintro _ H2 ⟨rfl,hx2⟩;have hz2:=hx2.size;rw[hFA])|(refine(ht _ (by exact Vc.xt) x.b (by omega)).mono ?_;rintro _ H3 ⟨rfl,hx3⟩;have hz3:=hx3.size;rw[hFB])|(refine(hen _ (by exact Vc.xt)).mono ?_;rintro _ _ ⟨rfl,rfl⟩)|(refine(rexists_any (h.tree.ext (by exact Vc.xt)) (by omega) FA (by omega)).mono ?_;rintro _ H4 ⟨rfl,hx4⟩;have hz4:=hx4.size)|((with_reducible refine Vc.DrawH.held [0,1,2,3,4,5,7,8,9,10,11,12,6,13,14,15] [(6,[8,12])] mixed (by decide+kernel) ?_))|((with_reducible refine Vc.DrawH.held [0,1,2,3,4,5,6,7,8,9,10,11,12,13,14] [(11,[3]),(12,[3])] mixed (by decide+kernel) ?_))|((with_reducible refine Vc.DrawH.held [0,1,2,3,4,5,6,7,8,9,10,11,12,13,14] [(11,[3]),(12,[3])] mixed (by decide+kernel) ?_))|((with_reducible refine Vc.DrawH.held [0,1,2,3,4,6,7,5,8] [(5,[7])] mixed (by decide+kernel) ?_))|((with_reducible refine Vc.DrawH.held [0,1,2,3,4,5,6,7,8,9,10,11,12,13] [(9,[4])] mixed (by decide+kernel) ?_))|refine Vc.stp ?_)<;>(intros;(conv=>whnf)))))
    obtain⟨h1,h2⟩:=h.to (s':={s with at_:=(endsF (kindsL m.L) s.at_).2}) (show Ext H H4 by exact Vc.xt) rfl rfl rfl
    exact DoneR.to (nx:=(endsF (kindsL m.L) s.at_).2) (e:=0) (by unfold stepP;rw[if_neg (by omega: ¬x.k=0),if_neg (by omega: ¬x.k=1),if_neg (by omega: ¬x.k=2),if_neg (by omega: ¬x.k=3),if_neg (by omega: ¬x.k=4),if_neg (by omega: ¬x.k=5),if_neg (by omega: ¬x.k=6),if_pos (by omega:x.k=7),hW,hFA,if_pos hex];rw[hel]) h1 h2 rfl (fun _=>rfl)
  ·have hq:(existsF s.A FA==x.nt)=false:=by simpa using hex
   refine Vc.CallH.body Tryz.func69 Tryz.call69 rfl (by decide+kernel) rfl ?_
   ((conv=>whnf);repeat(any_goals((first|(refine IdxA.ln h.row hln s.at_ x rfl hx ?_;intro _ _ hci)|((with_reducible apply SemH.load_ln);(focus((exact hci)));(focus((exact Ext.refl _)));(focus((conv=>whnf))))|(refine(ht _ (by exact Vc.xt) x.a (by omega)).mono ?_;rintro _ H2 ⟨rfl,hx2⟩;have hz2:=hx2.size;rw[hFA])|(refine(ht _ (by exact Vc.xt) x.b (by omega)).mono ?_;rintro _ H3 ⟨rfl,hx3⟩;have hz3:=hx3.size;rw[hFB])|(refine(hen _ (by exact Vc.xt)).mono ?_;rintro _ _ ⟨rfl,rfl⟩)|(refine(rexists_any (h.tree.ext (by exact Vc.xt)) (by omega) FA (by omega)).mono ?_;rintro _ H4 ⟨rfl,hx4⟩;have hz4:=hx4.size)|((with_reducible refine Vc.DrawH.held [0,1,2,3,4,5,7,8,9,10,11,12,6,13,14,15] [(6,[8,12])] mixed (by decide+kernel) ?_))|((with_reducible refine Vc.DrawH.held [0,1,2,3,4,5,6,7,8,9,10,11,12,13,14] [(11,[3]),(12,[3])] mixed (by decide+kernel) ?_))|((with_reducible refine Vc.DrawH.held [0,1,2,3,4,5,6,7,8,9,10,11,12,13,14] [(11,[3]),(12,[3])] mixed (by decide+kernel) ?_))|((with_reducible refine Vc.DrawH.held [0,1,2,3,4,6,7,5,8] [(5,[7])] mixed (by decide+kernel) ?_))|((with_reducible refine Vc.DrawH.held [0,1,2,3,4,5,6,7,8,9,10,11,12,13] [(9,[4])] mixed (by decide+kernel) ?_))|refine Vc.stp ?_)<;>(intros;(conv=>whnf)))))
   obtain⟨h1,h2⟩:=h.to (s':=nextF s) (show Ext H H4 by exact Vc.xt) rfl rfl rfl
   exact DoneR.to (nx:=s.at_+1) (e:=0) (by unfold stepP;rw[if_neg (by omega: ¬x.k=0),if_neg (by omega: ¬x.k=1),if_neg (by omega: ¬x.k=2),if_neg (by omega: ¬x.k=3),if_neg (by omega: ¬x.k=4),if_neg (by omega: ¬x.k=5),if_neg (by omega: ¬x.k=6),if_pos (by omega:x.k=7),hW,hFA,if_neg hex]) h1 h2 rfl (fun _=>rfl)
set_option maxHeartbeats 8000000 in
theorem rl8_any {m:RP} {s:St} {u:Nat} {sa:Option Addr} {sc:Nat} {H:Heap} (h:RMac H m s u sa sc) (hln:m.L.length=m.n) (hsm:m.n≤1000000) (hlens: ∀ x∈m.L,x.a.length≤1500∧x.b.length≤1500∧x.tx.length≤15000∧x.n≤1000000) (hB:m.B≤H.size) (hok:Okay s.A) (hfit:Fit s.V) (hSl:s.S.length≤1000000) (hS: ∀ p∈s.S,p.1<m.n∧p.2≤1000000) {x:Ln} (hx:m.L[s.at_]? =some x) (hj:x.k=8):
  CallH Tryz.prog 69 [.pointer (some ⟨m.g,0,none⟩),.slice m.al m.n m.cl,.int .i64 s.at_] H fun v H'=>DoneR H H' m s x u v:=by
 have hb:=h.stk.blk
 unfold mchC at hb
 have hxl:=(List.getElem?_eq_some_iff.1 hx).1
 rw[hln]at hxl
 have hgl:=hb.lt
 obtain⟨hla,hlb,hlt,hlx⟩:=hlens x (List.mem_of_getElem? hx)
 have hk:=kinds_get hx
 have ht:=fun H' (k:Ext H H') (w:Bs) (hw:w.length≤1000000)=>rfilled_any m.vm s.V w hw hfit H' (h.vars.ext k)
 have hen:=fun H' (k:Ext H H')=>rends_any (h.row.ext k) hln hsm (cl:=m.cl) (at_:=s.at_) hxl
 have hkl:(kindsL m.L).length=m.n:=by rw[kinds_len,hln]
 obtain⟨hE2,hE1⟩:=endsF_bound (K:=kindsL m.L) (h:=s.at_) (by omega)
 have hFAl:=fillF_len (varsF s.V) 65536 (by decide) hfit x.a
 have hFBl:=fillF_len (varsF s.V) 65536 (by decide) hfit x.b
 have hFTl:=fillF_len (varsF s.V) 65536 (by decide) hfit x.tx
 obtain⟨W,hW⟩: ∃ W,varsF s.V=W:=⟨_,rfl⟩
 rw[hW]at ht hFAl hFBl hFTl
 obtain⟨FA,hFA⟩: ∃ F,fillF W x.a=F:=⟨_,rfl⟩
 obtain⟨FB,hFB⟩: ∃ F,fillF W x.b=F:=⟨_,rfl⟩
 obtain⟨FT,hFT⟩: ∃ F,fillF W x.tx=F:=⟨_,rfl⟩
 rw[hFA]at hFAl
 rw[hFB]at hFBl
 rw[hFT]at hFTl
 have hFS:(mkS FT).size=FT.length:=rfl
 have hAc:=hok.count
 obtain⟨k,hxk⟩: ∃ k,x.k=k:=⟨_,rfl⟩
 rw[hxk]at hk
 have h8:k=8:=by omega
 ·by_cases hx0:x.n=0
  ·refine Vc.CallH.body Tryz.func69 Tryz.call69 rfl (by decide+kernel) rfl ?_
   ((conv=>whnf);repeat(any_goals((first|(refine IdxA.ln h.row hln s.at_ x rfl hx ?_;intro _ _ hci)|((with_reducible apply SemH.load_ln);(focus((exact hci)));(focus((exact Ext.refl _)));(focus((conv=>whnf))))|(refine(ht _ (by exact Vc.xt) x.a (by omega)).mono ?_;rintro _ H2 ⟨rfl,hx2⟩;have hz2:=hx2.size;rw[hFA])|(refine(ht _ (by exact Vc.xt) x.b (by omega)).mono ?_;rintro _ H3 ⟨rfl,hx3⟩;have hz3:=hx3.size;rw[hFB])|(refine(hen _ (by exact Vc.xt)).mono ?_;rintro _ _ ⟨rfl,rfl⟩)|((with_reducible refine Vc.DrawH.held [0,1,2,3,4,5,7,8,9,10,11,12,6,13,14,15] [(6,[8,12])] mixed (by decide+kernel) ?_))|((with_reducible refine Vc.DrawH.held [0,1,2,3,4,5,6,7,8,9,10,11,12,13,14] [(11,[3]),(12,[3])] mixed (by decide+kernel) ?_))|((with_reducible refine Vc.DrawH.held [0,1,2,3,4,5,6,7,8,9,10,11,12,13,14] [(11,[3]),(12,[3])] mixed (by decide+kernel) ?_))|((with_reducible refine Vc.DrawH.held [0,1,2,3,4,6,7,5,8] [(5,[7])] mixed (by decide+kernel) ?_))|((with_reducible refine Vc.DrawH.held [0,1,2,3,4,5,6,7,8,9,10,11,12,13] [(9,[4])] mixed (by decide+kernel) ?_))|refine Vc.stp ?_)<;>(intros;(conv=>whnf)))))
   obtain⟨h1,h2⟩:=h.to (s':={s with at_:=(endsF (kindsL m.L) s.at_).2+1}) (show Ext H H3 by exact Vc.xt) rfl rfl rfl
   exact DoneR.to (nx:=(endsF (kindsL m.L) s.at_).2+1) (e:=0) (by unfold stepP;rw[if_neg (by omega: ¬x.k=0),if_neg (by omega: ¬x.k=1),if_neg (by omega: ¬x.k=2),if_neg (by omega: ¬x.k=3),if_neg (by omega: ¬x.k=4),if_neg (by omega: ¬x.k=5),if_neg (by omega: ¬x.k=6),if_neg (by omega: ¬x.k=7),if_pos (by omega:x.k=8),if_pos hx0]) h1 h2 rfl (fun _=>rfl)
  ·refine Vc.CallH.body Tryz.func69 Tryz.call69 rfl (by decide+kernel) rfl ?_
   ((conv=>whnf);repeat(any_goals((first|(refine IdxA.ln h.row hln s.at_ x rfl hx ?_;intro _ _ hci)|((with_reducible apply SemH.load_ln);(focus((exact hci)));(focus((exact Ext.refl _)));(focus((conv=>whnf))))|(refine(ht _ (by exact Vc.xt) x.a (by omega)).mono ?_;rintro _ H2 ⟨rfl,hx2⟩;have hz2:=hx2.size;rw[hFA])|(refine(ht _ (by exact Vc.xt) x.b (by omega)).mono ?_;rintro _ H3 ⟨rfl,hx3⟩;have hz3:=hx3.size;rw[hFB])|(refine(hen _ (by exact Vc.xt)).mono ?_;rintro _ _ ⟨rfl,rfl⟩)|(refine PureH.build #[.int .i64 s.at_,.int .i64 x.n] (by kernel_rfl) ?_)|(rename_i H5 z5 b5 x5;have hx05:=(show Ext H H5 by exact Vc.xt);refine NextH.pushL (h:=s.at_) (n:=x.n) (h.stk.own.ext hx05) (h.stk.all.ext h.stk.own hx05) b5 hSl (by omega) ⟨_,rfl,fun _ h=>by cases h⟩ ?_;intro a6 c6 H6 ho6 hw6 hq6 hz6;have hb6:=(h.stk.blk.ext hx05).keep hw6 (fun⟨p,hp,e⟩=>h.sg p hp e))|((with_reducible apply DoH.store1);(focus((exact hb6)));(focus(rfl));(focus(rfl));(focus(rfl));(focus((show 4<5;decide)));(focus((intro H7 z7 b7 k7;(conv=>whnf)))))|((with_reducible refine Vc.DrawH.held [0,1,2,3,4,5,7,8,9,10,11,12,6,13,14,15] [(6,[8,12])] mixed (by decide+kernel) ?_))|((with_reducible refine Vc.DrawH.held [0,1,2,3,4,5,6,7,8,9,10,11,12,13,14] [(11,[3]),(12,[3])] mixed (by decide+kernel) ?_))|((with_reducible refine Vc.DrawH.held [0,1,2,3,4,5,6,7,8,9,10,11,12,13,14] [(11,[3]),(12,[3])] mixed (by decide+kernel) ?_))|((with_reducible refine Vc.DrawH.held [0,1,2,3,4,6,7,5,8] [(5,[7])] mixed (by decide+kernel) ?_))|((with_reducible refine Vc.DrawH.held [0,1,2,3,4,5,6,7,8,9,10,11,12,13] [(9,[4])] mixed (by decide+kernel) ?_))|refine Vc.stp ?_)<;>(intros;(conv=>whnf)))))
   have b7:Blk H7 m.g (mchC m u a6 (s.S.length+1) c6) 156:=b7
   obtain⟨h1,h2⟩:=h.push (s':={nextF s with S:=(s.at_,x.n)::s.S}) hx05 ho6 hw6 hq6 hb6 b7 k7 rfl rfl rfl
   exact DoneR.to (nx:=s.at_+1) (e:=0) (by unfold stepP;rw[if_neg (by omega: ¬x.k=0),if_neg (by omega: ¬x.k=1),if_neg (by omega: ¬x.k=2),if_neg (by omega: ¬x.k=3),if_neg (by omega: ¬x.k=4),if_neg (by omega: ¬x.k=5),if_neg (by omega: ¬x.k=6),if_neg (by omega: ¬x.k=7),if_pos (by omega:x.k=8),if_neg hx0]) h1 h2 rfl (fun _=>rfl)
set_option maxHeartbeats 8000000 in
theorem rl9_any {m:RP} {s:St} {u:Nat} {sa:Option Addr} {sc:Nat} {H:Heap} (h:RMac H m s u sa sc) (hln:m.L.length=m.n) (hsm:m.n≤1000000) (hlens: ∀ x∈m.L,x.a.length≤1500∧x.b.length≤1500∧x.tx.length≤15000∧x.n≤1000000) (hB:m.B≤H.size) (hok:Okay s.A) (hfit:Fit s.V) (hSl:s.S.length≤1000000) (hS: ∀ p∈s.S,p.1<m.n∧p.2≤1000000) {x:Ln} (hx:m.L[s.at_]? =some x) (hj:x.k=9):
  CallH Tryz.prog 69 [.pointer (some ⟨m.g,0,none⟩),.slice m.al m.n m.cl,.int .i64 s.at_] H fun v H'=>DoneR H H' m s x u v:=by
 have hb:=h.stk.blk
 unfold mchC at hb
 have hxl:=(List.getElem?_eq_some_iff.1 hx).1
 rw[hln]at hxl
 have hgl:=hb.lt
 obtain⟨hla,hlb,hlt,hlx⟩:=hlens x (List.mem_of_getElem? hx)
 have hk:=kinds_get hx
 have ht:=fun H' (k:Ext H H') (w:Bs) (hw:w.length≤1000000)=>rfilled_any m.vm s.V w hw hfit H' (h.vars.ext k)
 have hen:=fun H' (k:Ext H H')=>rends_any (h.row.ext k) hln hsm (cl:=m.cl) (at_:=s.at_) hxl
 have hkl:(kindsL m.L).length=m.n:=by rw[kinds_len,hln]
 obtain⟨hE2,hE1⟩:=endsF_bound (K:=kindsL m.L) (h:=s.at_) (by omega)
 have hFAl:=fillF_len (varsF s.V) 65536 (by decide) hfit x.a
 have hFBl:=fillF_len (varsF s.V) 65536 (by decide) hfit x.b
 have hFTl:=fillF_len (varsF s.V) 65536 (by decide) hfit x.tx
 obtain⟨W,hW⟩: ∃ W,varsF s.V=W:=⟨_,rfl⟩
 rw[hW]at ht hFAl hFBl hFTl
 obtain⟨FA,hFA⟩: ∃ F,fillF W x.a=F:=⟨_,rfl⟩
 obtain⟨FB,hFB⟩: ∃ F,fillF W x.b=F:=⟨_,rfl⟩
 obtain⟨FT,hFT⟩: ∃ F,fillF W x.tx=F:=⟨_,rfl⟩
 rw[hFA]at hFAl
 rw[hFB]at hFBl
 rw[hFT]at hFTl
 have hFS:(mkS FT).size=FT.length:=rfl
 have hAc:=hok.count
 obtain⟨k,hxk⟩: ∃ k,x.k=k:=⟨_,rfl⟩
 rw[hxk]at hk
 have h9:k=9:=by omega
 ·refine Vc.CallH.body Tryz.func69 Tryz.call69 rfl (by decide+kernel) rfl ?_
  ((conv=>whnf);repeat(any_goals((first|(refine IdxA.ln h.row hln s.at_ x rfl hx ?_;intro _ _ hci)|((with_reducible apply SemH.load_ln);(focus((exact hci)));(focus((exact Ext.refl _)));(focus((conv=>whnf))))|(refine(ht _ (by exact Vc.xt) x.a (by omega)).mono ?_;rintro _ H2 ⟨rfl,hx2⟩;have hz2:=hx2.size;rw[hFA])|(refine(ht _ (by exact Vc.xt) x.b (by omega)).mono ?_;rintro _ H3 ⟨rfl,hx3⟩;have hz3:=hx3.size;rw[hFB])|((with_reducible refine Vc.DrawH.held [0,1,2,3,4,5,7,8,9,10,11,12,6,13,14,15] [(6,[8,12])] mixed (by decide+kernel) ?_))|((with_reducible refine Vc.DrawH.held [0,1,2,3,4,5,6,7,8,9,10,11,12,13,14] [(11,[3]),(12,[3])] mixed (by decide+kernel) ?_))|((with_reducible refine Vc.DrawH.held [0,1,2,3,4,5,6,7,8,9,10,11,12,13,14] [(11,[3]),(12,[3])] mixed (by decide+kernel) ?_))|((with_reducible refine Vc.DrawH.held [0,1,2,3,4,6,7,5,8] [(5,[7])] mixed (by decide+kernel) ?_))|((with_reducible refine Vc.DrawH.held [0,1,2,3,4,5,6,7,8,9,10,11,12,13] [(9,[4])] mixed (by decide+kernel) ?_))|refine Vc.stp ?_)<;>(intros;(conv=>whnf)))))
  have hx03:Ext H H3:=(show Ext H H3 by exact Vc.xt)
  have hro:=h.row.ext hx03
  refine LoopH.intro (fun(y:Nat×Nat)=>[(16,.int .i64 y.1),(15,.int .i64 y.2)]) (fun y H'=>H3=H'∧y.1≤m.n∧y.2≤y.1∧(endsG ((kindsL m.L).drop y.1) y.2 none y.1).2=(endsF (kindsL m.L) s.at_).2) (fun y=>m.n-y.1) (s.at_+1,0) ⟨rfl,rfl,trivial⟩ ⟨rfl,by omega,Nat.zero_le _,rfl⟩ ?_
  rintro⟨i,d⟩ _ ⟨rfl,hi,hd,hinv⟩
  dsimp only at hi hd hinv ⊢
  have hfin: ∀ {v:Value},v= .tuple #[.int .i64 ((endsF (kindsL m.L) s.at_).2:Nat),.int .i64 0]→DoneR H H3 m s x u v:=fun{v} hv=>by
   obtain⟨h1,h2⟩:=h.to (s':={s with at_:=(endsF (kindsL m.L) s.at_).2}) hx03 rfl rfl rfl
   exact DoneR.to (nx:=(endsF (kindsL m.L) s.at_).2) (e:=0) (by unfold stepP;rw[if_neg (by omega: ¬x.k=0),if_neg (by omega: ¬x.k=1),if_neg (by omega: ¬x.k=2),if_neg (by omega: ¬x.k=3),if_neg (by omega: ¬x.k=4),if_neg (by omega: ¬x.k=5),if_neg (by omega: ¬x.k=6),if_neg (by omega: ¬x.k=7),if_neg (by omega: ¬x.k=8),if_pos (by omega:x.k=9)]) h1 h2 hv (fun _=>rfl)
  by_cases hlt:i<m.n
  ·obtain⟨y,hy⟩: ∃ y,m.L[i]? =some y:=⟨_,List.getElem?_eq_getElem (by omega)⟩
   have hky:=kinds_get hy
   obtain⟨q,hyq⟩: ∃ q,y.k=q:=⟨_,rfl⟩
   rw[hyq]at hky
   rw[drop_cons hky,endsG]at hinv
   by_cases h78:q=7∨q=8
   ·rw[if_pos h78]at hinv
    rcases h78 with rfl|rfl
    ·((conv=>whnf);repeat(any_goals((first|(refine IdxA.ln hro hln i y rfl hy ?_;intro _ _ hcj;have hc0:=hcj 0 _ rfl)|refine Vc.stp ?_)<;>(intros;(conv=>whnf)))))
     exact⟨(i+1,d+1),⟨rfl,rfl,trivial⟩,⟨rfl,by show i+1≤m.n;omega,by show d+1≤i+1;omega,hinv⟩,by show m.n-(i+1)<m.n-i;omega⟩
    ·((conv=>whnf);repeat(any_goals((first|(refine IdxA.ln hro hln i y rfl hy ?_;intro _ _ hcj;have hc0:=hcj 0 _ rfl)|refine Vc.stp ?_)<;>(intros;(conv=>whnf)))))
     exact⟨(i+1,d+1),⟨rfl,rfl,trivial⟩,⟨rfl,by show i+1≤m.n;omega,by show d+1≤i+1;omega,hinv⟩,by show m.n-(i+1)<m.n-i;omega⟩
   rw[if_neg h78]at hinv
   by_cases h9:q=9
   ·rw[if_pos h9,endsG_els _ _ _ none]at hinv
    ((conv=>whnf);repeat(any_goals((first|(refine IdxA.ln hro hln i y rfl hy ?_;intro _ _ hcj;have hc0:=hcj 0 _ rfl)|refine Vc.stp ?_)<;>(intros;(conv=>whnf)))))
    exact⟨(i+1,d),⟨rfl,rfl,trivial⟩,⟨rfl,by show i+1≤m.n;omega,by show d≤i+1;omega,hinv⟩,by show m.n-(i+1)<m.n-i;omega⟩
   rw[if_neg h9]at hinv
   by_cases h10:q=10
   ·rw[if_pos h10]at hinv
    by_cases hd0:d=0
    ·rw[if_pos hd0]at hinv
     ((conv=>whnf);repeat(any_goals((first|(refine IdxA.ln hro hln i y rfl hy ?_;intro _ _ hcj;have hc0:=hcj 0 _ rfl)|refine Vc.stp ?_)<;>(intros;(conv=>whnf)))))
     exact hfin (by rw[←hinv];rfl)
    ·rw[if_neg hd0]at hinv
     ((conv=>whnf);repeat(any_goals((first|(refine IdxA.ln hro hln i y rfl hy ?_;intro _ _ hcj;have hc0:=hcj 0 _ rfl)|refine Vc.stp ?_)<;>(intros;(conv=>whnf)))))
     exact⟨(i+1,d-1),⟨rfl,by show Value.int .i64 ((d:Int)-1)=Value.int .i64 ((d-1:Nat):Int);rw[show(d:Int)-1=((d-1:Nat):Int)by omega],trivial⟩,⟨rfl,by show i+1≤m.n;omega,by show d-1≤i+1;omega,hinv⟩,by show m.n-(i+1)<m.n-i;omega⟩
   ·rw[if_neg h10]at hinv
    ((conv=>whnf);repeat(any_goals((first|(refine IdxA.ln hro hln i y rfl hy ?_;intro _ _ hcj;have hc0:=hcj 0 _ rfl)|refine Vc.stp ?_)<;>(intros;(conv=>whnf)))))
    exact⟨(i+1,d),⟨rfl,rfl,trivial⟩,⟨rfl,by show i+1≤m.n;omega,by show d≤i+1;omega,hinv⟩,by show m.n-(i+1)<m.n-i;omega⟩
  ·rw[List.drop_of_length_le (by rw[kinds_len];omega),endsG]at hinv
   ((conv=>whnf);repeat(any_goals((first|refine Vc.stp ?_)<;>(intros;(conv=>whnf)))))
   exact hfin (by rw[←hinv];show Value.tuple _=Value.tuple _;congr 1;simp;omega)
set_option maxHeartbeats 8000000 in
theorem rl10_any {m:RP} {s:St} {u:Nat} {sa:Option Addr} {sc:Nat} {H:Heap} (h:RMac H m s u sa sc) (hln:m.L.length=m.n) (hsm:m.n≤1000000) (hlens: ∀ x∈m.L,x.a.length≤1500∧x.b.length≤1500∧x.tx.length≤15000∧x.n≤1000000) (hB:m.B≤H.size) (hok:Okay s.A) (hfit:Fit s.V) (hSl:s.S.length≤1000000) (hS: ∀ p∈s.S,p.1<m.n∧p.2≤1000000) {x:Ln} (hx:m.L[s.at_]? =some x) (hj:x.k=10):
  CallH Tryz.prog 69 [.pointer (some ⟨m.g,0,none⟩),.slice m.al m.n m.cl,.int .i64 s.at_] H fun v H'=>DoneR H H' m s x u v:=by
 have hb:=h.stk.blk
 unfold mchC at hb
 have hxl:=(List.getElem?_eq_some_iff.1 hx).1
 rw[hln]at hxl
 have hgl:=hb.lt
 obtain⟨hla,hlb,hlt,hlx⟩:=hlens x (List.mem_of_getElem? hx)
 have hk:=kinds_get hx
 have ht:=fun H' (k:Ext H H') (w:Bs) (hw:w.length≤1000000)=>rfilled_any m.vm s.V w hw hfit H' (h.vars.ext k)
 have hen:=fun H' (k:Ext H H')=>rends_any (h.row.ext k) hln hsm (cl:=m.cl) (at_:=s.at_) hxl
 have hkl:(kindsL m.L).length=m.n:=by rw[kinds_len,hln]
 obtain⟨hE2,hE1⟩:=endsF_bound (K:=kindsL m.L) (h:=s.at_) (by omega)
 have hFAl:=fillF_len (varsF s.V) 65536 (by decide) hfit x.a
 have hFBl:=fillF_len (varsF s.V) 65536 (by decide) hfit x.b
 have hFTl:=fillF_len (varsF s.V) 65536 (by decide) hfit x.tx
 obtain⟨W,hW⟩: ∃ W,varsF s.V=W:=⟨_,rfl⟩
 rw[hW]at ht hFAl hFBl hFTl
 obtain⟨FA,hFA⟩: ∃ F,fillF W x.a=F:=⟨_,rfl⟩
 obtain⟨FB,hFB⟩: ∃ F,fillF W x.b=F:=⟨_,rfl⟩
 obtain⟨FT,hFT⟩: ∃ F,fillF W x.tx=F:=⟨_,rfl⟩
 rw[hFA]at hFAl
 rw[hFB]at hFBl
 rw[hFT]at hFTl
 have hFS:(mkS FT).size=FT.length:=rfl
 have hAc:=hok.count
 obtain⟨k,hxk⟩: ∃ k,x.k=k:=⟨_,rfl⟩
 rw[hxk]at hk
 have h10:k=10:=by omega
 ·cases hS0:s.S with
  |nil=>
   have hst:stepP (kindsL m.L) x s=(nextF s,0):=by
    unfold stepP;rw[if_neg (by omega: ¬x.k=0),if_neg (by omega: ¬x.k=1),if_neg (by omega: ¬x.k=2),if_neg (by omega: ¬x.k=3),if_neg (by omega: ¬x.k=4),if_neg (by omega: ¬x.k=5),if_neg (by omega: ¬x.k=6),if_neg (by omega: ¬x.k=7),if_neg (by omega: ¬x.k=8),if_neg (by omega: ¬x.k=9),if_pos (by omega:x.k=10)]
    rw[hS0]
   have hS1:s.S.length=0:=by rw[hS0];rfl
   rw[hS1]at hb
   refine Vc.CallH.body Tryz.func69 Tryz.call69 rfl (by decide+kernel) rfl ?_
   ((conv=>whnf);repeat(any_goals((first|(refine IdxA.ln h.row hln s.at_ x rfl hx ?_;intro _ _ hci)|((with_reducible apply SemH.load_ln);(focus((exact hci)));(focus((exact Ext.refl _)));(focus((conv=>whnf))))|(refine(ht _ (by exact Vc.xt) x.a (by omega)).mono ?_;rintro _ H2 ⟨rfl,hx2⟩;have hz2:=hx2.size;rw[hFA])|(refine(ht _ (by exact Vc.xt) x.b (by omega)).mono ?_;rintro _ H3 ⟨rfl,hx3⟩;have hz3:=hx3.size;rw[hFB])|((with_reducible refine Vc.DrawH.held [0,1,2,3,4,5,7,8,9,10,11,12,6,13,14,15] [(6,[8,12])] mixed (by decide+kernel) ?_))|((with_reducible refine Vc.DrawH.held [0,1,2,3,4,5,6,7,8,9,10,11,12,13,14] [(11,[3]),(12,[3])] mixed (by decide+kernel) ?_))|((with_reducible refine Vc.DrawH.held [0,1,2,3,4,5,6,7,8,9,10,11,12,13,14] [(11,[3]),(12,[3])] mixed (by decide+kernel) ?_))|((with_reducible refine Vc.DrawH.held [0,1,2,3,4,6,7,5,8] [(5,[7])] mixed (by decide+kernel) ?_))|((with_reducible refine Vc.DrawH.held [0,1,2,3,4,5,6,7,8,9,10,11,12,13] [(9,[4])] mixed (by decide+kernel) ?_))|refine Vc.stp ?_)<;>(intros;(conv=>whnf)))))
   obtain⟨h1,h2⟩:=h.to (s':=nextF s) (show Ext H H3 by exact Vc.xt) rfl rfl rfl
   exact DoneR.to (nx:=s.at_+1) (e:=0) hst h1 h2 rfl (fun _=>rfl)
  |cons p S=>
   obtain⟨hh,nn⟩:=p
   have hS1:s.S.length=S.length+1:=by rw[hS0];rfl
   have hown:=h.stk.own
   have hqa:=h.stk.all
   rw[hS0]at hown
   have hown:Own H m.B 216 2 sa (S.length+1) sc (stkV ((hh,nn)::S).reverse):=hown
   rw[hS1]at hb
   obtain⟨hhn,hnn⟩:=hS (hh,nn) (by rw[hS0];simp)
   dsimp only at hhn hnn
   obtain⟨g,rfl⟩: ∃ g,sa=some ⟨g,0,none⟩:=by
    rcases hown.out with ⟨_,h0,_⟩|⟨g,_,ha,_⟩
    ·omega
    ·exact⟨g,ha⟩
   have hgg:m.g≠g:=fun e=>h.sg _ rfl e.symm
   have hcap:=hown.cap_le
   obtain⟨t1,t2⟩:=stkV_top S (hh,nn)
   have hcA:=Own.hcell hown t1
   have hcB:=Own.hcell hown t2
   have hen2:=fun H' (k:Ext H H')=>rends_any (h.row.ext k) hln hsm (cl:=m.cl) (at_:=hh) hhn
   refine Vc.CallH.body Tryz.func69 Tryz.call69 rfl (by decide+kernel) rfl ?_
   by_cases hend:(endsF (kindsL m.L) hh).2=s.at_
   ·by_cases h1n:1<nn
    ·have hst:stepP (kindsL m.L) x s=({s with at_:=hh+1,S:=(hh,nn-1)::S},0):=by
      unfold stepP;rw[if_neg (by omega: ¬x.k=0),if_neg (by omega: ¬x.k=1),if_neg (by omega: ¬x.k=2),if_neg (by omega: ¬x.k=3),if_neg (by omega: ¬x.k=4),if_neg (by omega: ¬x.k=5),if_neg (by omega: ¬x.k=6),if_neg (by omega: ¬x.k=7),if_neg (by omega: ¬x.k=8),if_neg (by omega: ¬x.k=9),if_pos (by omega:x.k=10)]
      rw[hS0]
      dsimp only
      rw[if_pos hend,if_pos h1n]
     have hnm:(((hh,nn).2:Nat):Int)-1=((nn-1:Nat):Int):=by show(nn:Int)-1=_;omega
     ((conv=>whnf);repeat(any_goals((first|(refine IdxA.ln h.row hln s.at_ x rfl hx ?_;intro _ _ hci)|((with_reducible apply SemH.load_ln);(focus((exact hci)));(focus((exact Ext.refl _)));(focus((conv=>whnf))))|(refine(ht _ (by exact Vc.xt) x.a (by omega)).mono ?_;rintro _ H2 ⟨rfl,hx2⟩;have hz2:=hx2.size;rw[hFA])|(refine(ht _ (by exact Vc.xt) x.b (by omega)).mono ?_;rintro _ H3 ⟨rfl,hx3⟩;have hz3:=hx3.size;rw[hFB])|(refine IdxA.atS S.length (by omega) (by omega) ?_)|(refine(hen2 _ (by exact Vc.xt)).mono ?_;rintro _ _ ⟨rfl,rfl⟩)|((with_reducible apply DoH.store_ownQ);(focus((exact hown.ext (show Ext H _ by exact Vc.xt))));(focus((exact hqa.ext hown (show Ext H _ by exact Vc.xt))));(focus(rfl));(focus(rfl));(focus(rfl));(focus(rfl));(focus(omega));(focus((intro H4 hz4 hm4 hq4 hb4;have hx04:=And.intro trivial (show Ext H H3 by exact Vc.xt);have hb5:=(hb.ext hx04.2).but hb4 hgg;have hcN:=Own.hcell hm4 (List.getElem?_set_self (by rw[stkV_length,List.length_reverse,List.length_cons];omega));have hcM:=Own.hcell hm4 (i:=S.length*2) (v:= .int .i64 hh) (by rw[List.getElem?_set_ne (by omega)];exact t1);rw[Nat.zero_add]at hcN;clear hcA hcB;(conv=>whnf)))))|((with_reducible refine Vc.DrawH.held [0,1,2,3,4,5,7,8,9,10,11,12,6,13,14,15] [(6,[8,12])] mixed (by decide+kernel) ?_))|((with_reducible refine Vc.DrawH.held [0,1,2,3,4,5,6,7,8,9,10,11,12,13,14] [(11,[3]),(12,[3])] mixed (by decide+kernel) ?_))|((with_reducible refine Vc.DrawH.held [0,1,2,3,4,5,6,7,8,9,10,11,12,13,14] [(11,[3]),(12,[3])] mixed (by decide+kernel) ?_))|((with_reducible refine Vc.DrawH.held [0,1,2,3,4,6,7,5,8] [(5,[7])] mixed (by decide+kernel) ?_))|((with_reducible refine Vc.DrawH.held [0,1,2,3,4,5,6,7,8,9,10,11,12,13] [(9,[4])] mixed (by decide+kernel) ?_))|refine Vc.stp ?_)<;>(intros;(conv=>whnf)))))
     rw[Nat.zero_add,hnm,stkV_set]at hm4
     obtain⟨r1,r2⟩:=h.less (s':={s with at_:=hh+1,S:=(hh,nn-1)::S}) hS0 hx04.2 hm4 hq4 hb4 rfl rfl rfl
     exact DoneR.to (nx:=hh+1) (e:=0) hst r1 r2 rfl (fun _=>rfl)
    ·have hst:stepP (kindsL m.L) x s=({nextF s with S:=S},0):=by
      unfold stepP;rw[if_neg (by omega: ¬x.k=0),if_neg (by omega: ¬x.k=1),if_neg (by omega: ¬x.k=2),if_neg (by omega: ¬x.k=3),if_neg (by omega: ¬x.k=4),if_neg (by omega: ¬x.k=5),if_neg (by omega: ¬x.k=6),if_neg (by omega: ¬x.k=7),if_neg (by omega: ¬x.k=8),if_neg (by omega: ¬x.k=9),if_pos (by omega:x.k=10)]
      rw[hS0]
      dsimp only
      rw[if_pos hend,if_neg h1n]
     ((conv=>whnf);repeat(any_goals((first|(refine IdxA.ln h.row hln s.at_ x rfl hx ?_;intro _ _ hci)|((with_reducible apply SemH.load_ln);(focus((exact hci)));(focus((exact Ext.refl _)));(focus((conv=>whnf))))|(refine(ht _ (by exact Vc.xt) x.a (by omega)).mono ?_;rintro _ H2 ⟨rfl,hx2⟩;have hz2:=hx2.size;rw[hFA])|(refine(ht _ (by exact Vc.xt) x.b (by omega)).mono ?_;rintro _ H3 ⟨rfl,hx3⟩;have hz3:=hx3.size;rw[hFB])|(refine IdxA.atS S.length (by omega) (by omega) ?_)|(refine(hen2 _ (by exact Vc.xt)).mono ?_;rintro _ _ ⟨rfl,rfl⟩)|((with_reducible apply DoH.store_ownQ);(focus((exact hown.ext (show Ext H _ by exact Vc.xt))));(focus((exact hqa.ext hown (show Ext H _ by exact Vc.xt))));(focus(rfl));(focus(rfl));(focus(rfl));(focus(rfl));(focus(omega));(focus((intro H4 hz4 hm4 hq4 hb4;have hx04:=And.intro trivial (show Ext H H3 by exact Vc.xt);have hb5:=(hb.ext hx04.2).but hb4 hgg;have hcN:=Own.hcell hm4 (List.getElem?_set_self (by rw[stkV_length,List.length_reverse,List.length_cons];omega));have hcM:=Own.hcell hm4 (i:=S.length*2) (v:= .int .i64 hh) (by rw[List.getElem?_set_ne (by omega)];exact t1);rw[Nat.zero_add]at hcN;clear hcA hcB;(conv=>whnf)))))|(refine BndH.nat S.length (by omega) (by omega) ?_)|((with_reducible apply DoH.store1);(focus((exact hb5)));(focus(rfl));(focus(rfl));(focus(rfl));(focus((show 4<5;decide)));(focus((intro H7 z7 b7 k7;(conv=>whnf)))))|((with_reducible refine Vc.DrawH.held [0,1,2,3,4,5,7,8,9,10,11,12,6,13,14,15] [(6,[8,12])] mixed (by decide+kernel) ?_))|((with_reducible refine Vc.DrawH.held [0,1,2,3,4,5,6,7,8,9,10,11,12,13,14] [(11,[3]),(12,[3])] mixed (by decide+kernel) ?_))|((with_reducible refine Vc.DrawH.held [0,1,2,3,4,5,6,7,8,9,10,11,12,13,14] [(11,[3]),(12,[3])] mixed (by decide+kernel) ?_))|((with_reducible refine Vc.DrawH.held [0,1,2,3,4,6,7,5,8] [(5,[7])] mixed (by decide+kernel) ?_))|((with_reducible refine Vc.DrawH.held [0,1,2,3,4,5,6,7,8,9,10,11,12,13] [(9,[4])] mixed (by decide+kernel) ?_))|refine Vc.stp ?_)<;>(intros;(conv=>whnf)))))
     rw[Nat.zero_add]at hm4
     have b7:Blk H7 m.g (mchC m u (some ⟨g,0,none⟩) S.length sc) 156:=b7
     obtain⟨r1,r2⟩:=h.pop (s':={nextF s with S:=S}) hS0 hx04.2 hm4 hq4 hb4 b7 k7 rfl rfl rfl
     exact DoneR.to (nx:=s.at_+1) (e:=0) hst r1 r2 rfl (fun _=>rfl)
   ·have hst:stepP (kindsL m.L) x s=(nextF s,0):=by
     unfold stepP;rw[if_neg (by omega: ¬x.k=0),if_neg (by omega: ¬x.k=1),if_neg (by omega: ¬x.k=2),if_neg (by omega: ¬x.k=3),if_neg (by omega: ¬x.k=4),if_neg (by omega: ¬x.k=5),if_neg (by omega: ¬x.k=6),if_neg (by omega: ¬x.k=7),if_neg (by omega: ¬x.k=8),if_neg (by omega: ¬x.k=9),if_pos (by omega:x.k=10)]
     rw[hS0]
     dsimp only
     rw[if_neg hend]
    ((conv=>whnf);repeat(any_goals((first|(refine IdxA.ln h.row hln s.at_ x rfl hx ?_;intro _ _ hci)|((with_reducible apply SemH.load_ln);(focus((exact hci)));(focus((exact Ext.refl _)));(focus((conv=>whnf))))|(refine(ht _ (by exact Vc.xt) x.a (by omega)).mono ?_;rintro _ H2 ⟨rfl,hx2⟩;have hz2:=hx2.size;rw[hFA])|(refine(ht _ (by exact Vc.xt) x.b (by omega)).mono ?_;rintro _ H3 ⟨rfl,hx3⟩;have hz3:=hx3.size;rw[hFB])|(refine IdxA.atS S.length (by omega) (by omega) ?_)|(refine(hen2 _ (by exact Vc.xt)).mono ?_;rintro _ _ ⟨rfl,rfl⟩)|((with_reducible refine Vc.DrawH.held [0,1,2,3,4,5,7,8,9,10,11,12,6,13,14,15] [(6,[8,12])] mixed (by decide+kernel) ?_))|((with_reducible refine Vc.DrawH.held [0,1,2,3,4,5,6,7,8,9,10,11,12,13,14] [(11,[3]),(12,[3])] mixed (by decide+kernel) ?_))|((with_reducible refine Vc.DrawH.held [0,1,2,3,4,5,6,7,8,9,10,11,12,13,14] [(11,[3]),(12,[3])] mixed (by decide+kernel) ?_))|((with_reducible refine Vc.DrawH.held [0,1,2,3,4,6,7,5,8] [(5,[7])] mixed (by decide+kernel) ?_))|((with_reducible refine Vc.DrawH.held [0,1,2,3,4,5,6,7,8,9,10,11,12,13] [(9,[4])] mixed (by decide+kernel) ?_))|refine Vc.stp ?_)<;>(intros;(conv=>whnf)))))
    obtain⟨h1,h2⟩:=h.to (s':=nextF s) (show Ext H H3 by exact Vc.xt) rfl rfl rfl
    exact DoneR.to (nx:=s.at_+1) (e:=0) hst h1 h2 rfl (fun _=>rfl)
set_option maxHeartbeats 8000000 in
theorem rl11_any {m:RP} {s:St} {u:Nat} {sa:Option Addr} {sc:Nat} {H:Heap} (h:RMac H m s u sa sc) (hln:m.L.length=m.n) (hsm:m.n≤1000000) (hlens: ∀ x∈m.L,x.a.length≤1500∧x.b.length≤1500∧x.tx.length≤15000∧x.n≤1000000) (hB:m.B≤H.size) (hok:Okay s.A) (hfit:Fit s.V) (hSl:s.S.length≤1000000) (hS: ∀ p∈s.S,p.1<m.n∧p.2≤1000000) {x:Ln} (hx:m.L[s.at_]? =some x) (hj:x.k=11):
  CallH Tryz.prog 69 [.pointer (some ⟨m.g,0,none⟩),.slice m.al m.n m.cl,.int .i64 s.at_] H fun v H'=>DoneR H H' m s x u v:=by
 have hb:=h.stk.blk
 unfold mchC at hb
 have hxl:=(List.getElem?_eq_some_iff.1 hx).1
 rw[hln]at hxl
 have hgl:=hb.lt
 obtain⟨hla,hlb,hlt,hlx⟩:=hlens x (List.mem_of_getElem? hx)
 have hk:=kinds_get hx
 have ht:=fun H' (k:Ext H H') (w:Bs) (hw:w.length≤1000000)=>rfilled_any m.vm s.V w hw hfit H' (h.vars.ext k)
 have hen:=fun H' (k:Ext H H')=>rends_any (h.row.ext k) hln hsm (cl:=m.cl) (at_:=s.at_) hxl
 have hkl:(kindsL m.L).length=m.n:=by rw[kinds_len,hln]
 obtain⟨hE2,hE1⟩:=endsF_bound (K:=kindsL m.L) (h:=s.at_) (by omega)
 have hFAl:=fillF_len (varsF s.V) 65536 (by decide) hfit x.a
 have hFBl:=fillF_len (varsF s.V) 65536 (by decide) hfit x.b
 have hFTl:=fillF_len (varsF s.V) 65536 (by decide) hfit x.tx
 obtain⟨W,hW⟩: ∃ W,varsF s.V=W:=⟨_,rfl⟩
 rw[hW]at ht hFAl hFBl hFTl
 obtain⟨FA,hFA⟩: ∃ F,fillF W x.a=F:=⟨_,rfl⟩
 obtain⟨FB,hFB⟩: ∃ F,fillF W x.b=F:=⟨_,rfl⟩
 obtain⟨FT,hFT⟩: ∃ F,fillF W x.tx=F:=⟨_,rfl⟩
 rw[hFA]at hFAl
 rw[hFB]at hFBl
 rw[hFT]at hFTl
 have hFS:(mkS FT).size=FT.length:=rfl
 have hAc:=hok.count
 obtain⟨k,hxk⟩: ∃ k,x.k=k:=⟨_,rfl⟩
 rw[hxk]at hk
 have h11:k=11:=by omega
 ·refine Vc.CallH.body Tryz.func69 Tryz.call69 rfl (by decide+kernel) rfl ?_
  ((conv=>whnf);repeat(any_goals((first|(refine IdxA.ln h.row hln s.at_ x rfl hx ?_;intro _ _ hci)|((with_reducible apply SemH.load_ln);(focus((exact hci)));(focus((exact Ext.refl _)));(focus((conv=>whnf))))|(refine(ht _ (by exact Vc.xt) x.a (by omega)).mono ?_;rintro _ H2 ⟨rfl,hx2⟩;have hz2:=hx2.size;rw[hFA])|(refine(ht _ (by exact Vc.xt) x.b (by omega)).mono ?_;rintro _ H3 ⟨rfl,hx3⟩;have hz3:=hx3.size;rw[hFB])|((with_reducible refine Vc.DrawH.held [0,1,2,3,4,5,7,8,9,10,11,12,6,13,14,15] [(6,[8,12])] mixed (by decide+kernel) ?_))|((with_reducible refine Vc.DrawH.held [0,1,2,3,4,5,6,7,8,9,10,11,12,13,14] [(11,[3]),(12,[3])] mixed (by decide+kernel) ?_))|((with_reducible refine Vc.DrawH.held [0,1,2,3,4,5,6,7,8,9,10,11,12,13,14] [(11,[3]),(12,[3])] mixed (by decide+kernel) ?_))|((with_reducible refine Vc.DrawH.held [0,1,2,3,4,6,7,5,8] [(5,[7])] mixed (by decide+kernel) ?_))|((with_reducible refine Vc.DrawH.held [0,1,2,3,4,5,6,7,8,9,10,11,12,13] [(9,[4])] mixed (by decide+kernel) ?_))|refine Vc.stp ?_)<;>(intros;(conv=>whnf)))))
  obtain⟨h1,h2⟩:=h.to (s':=s) (show Ext H H3 by exact Vc.xt) rfl rfl rfl
  exact DoneR.to (nx:=0) (e:=72) (by unfold stepP;rw[if_neg (by omega: ¬x.k=0),if_neg (by omega: ¬x.k=1),if_neg (by omega: ¬x.k=2),if_neg (by omega: ¬x.k=3),if_neg (by omega: ¬x.k=4),if_neg (by omega: ¬x.k=5),if_neg (by omega: ¬x.k=6),if_neg (by omega: ¬x.k=7),if_neg (by omega: ¬x.k=8),if_neg (by omega: ¬x.k=9),if_neg (by omega: ¬x.k=10),if_pos (by omega:x.k=11)]) h1 h2 rfl (fun e=>by cases e)
set_option maxHeartbeats 8000000 in
theorem rlt_any {m:RP} {s:St} {u:Nat} {sa:Option Addr} {sc:Nat} {H:Heap} (h:RMac H m s u sa sc) (hln:m.L.length=m.n) (hsm:m.n≤1000000) (hlens: ∀ x∈m.L,x.a.length≤1500∧x.b.length≤1500∧x.tx.length≤15000∧x.n≤1000000) (hB:m.B≤H.size) (hok:Okay s.A) (hfit:Fit s.V) (hSl:s.S.length≤1000000) (hS: ∀ p∈s.S,p.1<m.n∧p.2≤1000000) {x:Ln} (hx:m.L[s.at_]? =some x) (hj:11<x.k):
  CallH Tryz.prog 69 [.pointer (some ⟨m.g,0,none⟩),.slice m.al m.n m.cl,.int .i64 s.at_] H fun v H'=>DoneR H H' m s x u v:=by
 have hb:=h.stk.blk
 unfold mchC at hb
 have hxl:=(List.getElem?_eq_some_iff.1 hx).1
 rw[hln]at hxl
 have hgl:=hb.lt
 obtain⟨hla,hlb,hlt,hlx⟩:=hlens x (List.mem_of_getElem? hx)
 have hk:=kinds_get hx
 have ht:=fun H' (k:Ext H H') (w:Bs) (hw:w.length≤1000000)=>rfilled_any m.vm s.V w hw hfit H' (h.vars.ext k)
 have hen:=fun H' (k:Ext H H')=>rends_any (h.row.ext k) hln hsm (cl:=m.cl) (at_:=s.at_) hxl
 have hkl:(kindsL m.L).length=m.n:=by rw[kinds_len,hln]
 obtain⟨hE2,hE1⟩:=endsF_bound (K:=kindsL m.L) (h:=s.at_) (by omega)
 have hFAl:=fillF_len (varsF s.V) 65536 (by decide) hfit x.a
 have hFBl:=fillF_len (varsF s.V) 65536 (by decide) hfit x.b
 have hFTl:=fillF_len (varsF s.V) 65536 (by decide) hfit x.tx
 obtain⟨W,hW⟩: ∃ W,varsF s.V=W:=⟨_,rfl⟩
 rw[hW]at ht hFAl hFBl hFTl
 obtain⟨FA,hFA⟩: ∃ F,fillF W x.a=F:=⟨_,rfl⟩
 obtain⟨FB,hFB⟩: ∃ F,fillF W x.b=F:=⟨_,rfl⟩
 obtain⟨FT,hFT⟩: ∃ F,fillF W x.tx=F:=⟨_,rfl⟩
 rw[hFA]at hFAl
 rw[hFB]at hFBl
 rw[hFT]at hFTl
 have hFS:(mkS FT).size=FT.length:=rfl
 have hAc:=hok.count
 obtain⟨k,hxk⟩: ∃ k,x.k=k:=⟨_,rfl⟩
 rw[hxk]at hk
 have hst:stepP (kindsL m.L) x s=(nextF s,0):=by
  unfold stepP
  rw[if_neg (by omega: ¬x.k=0),if_neg (by omega: ¬x.k=1),if_neg (by omega: ¬x.k=2),if_neg (by omega: ¬x.k=3),if_neg (by omega: ¬x.k=4),if_neg (by omega: ¬x.k=5),if_neg (by omega: ¬x.k=6),if_neg (by omega: ¬x.k=7),if_neg (by omega: ¬x.k=8),if_neg (by omega: ¬x.k=9),if_neg (by omega: ¬x.k=10),if_neg (by omega: ¬x.k=11)]
 refine Vc.CallH.body Tryz.func69 Tryz.call69 rfl (by decide+kernel) rfl ?_
 ((conv=>whnf);repeat(any_goals((first|(refine IdxA.ln h.row hln s.at_ x rfl hx ?_;intro _ _ hci)|((with_reducible apply SemH.load_ln);(focus((exact hci)));(focus((exact Ext.refl _)));(focus((conv=>whnf))))|(refine(ht _ (by exact Vc.xt) x.a (by omega)).mono ?_;rintro _ H2 ⟨rfl,hx2⟩;have hz2:=hx2.size;rw[hFA])|(refine(ht _ (by exact Vc.xt) x.b (by omega)).mono ?_;rintro _ H3 ⟨rfl,hx3⟩;have hz3:=hx3.size;rw[hFB])|((with_reducible refine Vc.DrawH.held [0,1,2,3,4,5,7,8,9,10,11,12,6,13,14,15] [(6,[8,12])] mixed (by decide+kernel) ?_))|((with_reducible refine Vc.DrawH.held [0,1,2,3,4,5,6,7,8,9,10,11,12,13,14] [(11,[3]),(12,[3])] mixed (by decide+kernel) ?_))|((with_reducible refine Vc.DrawH.held [0,1,2,3,4,5,6,7,8,9,10,11,12,13,14] [(11,[3]),(12,[3])] mixed (by decide+kernel) ?_))|((with_reducible refine Vc.DrawH.held [0,1,2,3,4,6,7,5,8] [(5,[7])] mixed (by decide+kernel) ?_))|((with_reducible refine Vc.DrawH.held [0,1,2,3,4,5,6,7,8,9,10,11,12,13] [(9,[4])] mixed (by decide+kernel) ?_))|refine Vc.stp ?_)<;>(intros;(conv=>whnf)))))
 obtain⟨h1,h2⟩:=h.to (s':=nextF s) (show Ext H H3 by exact Vc.xt) rfl rfl rfl
 exact DoneR.to (nx:=s.at_+1) (e:=0) hst h1 h2 rfl (fun _=>rfl)
theorem mline_any {m:RP} {s:St} {u:Nat} {sa:Option Addr} {sc:Nat} {H:Heap} (h:RMac H m s u sa sc) (hln:m.L.length=m.n) (hsm:m.n≤1000000) (hlens: ∀ x∈m.L,x.a.length≤1500∧x.b.length≤1500∧x.tx.length≤15000∧x.n≤1000000) (hB:m.B≤H.size) (hok:Okay s.A) (hfit:Fit s.V) (hSl:s.S.length≤1000000) (hS: ∀ p∈s.S,p.1<m.n∧p.2≤1000000) {x:Ln} (hx:m.L[s.at_]? =some x):
  CallH Tryz.prog 69 [.pointer (some ⟨m.g,0,none⟩),.slice m.al m.n m.cl,.int .i64 s.at_] H fun v H'=>DoneR H H' m s x u v:=by
 by_cases j0:x.k=0
 ·exact rl0_any h hln hsm hlens hB hok hfit hSl hS hx j0
 by_cases j1:x.k=1
 ·exact rl1_any h hln hsm hlens hB hok hfit hSl hS hx j1
 by_cases j2:x.k=2
 ·exact rl2_any h hln hsm hlens hB hok hfit hSl hS hx j2
 by_cases j3:x.k=3
 ·exact rl3_any h hln hsm hlens hB hok hfit hSl hS hx j3
 by_cases j4:x.k=4
 ·exact rl4_any h hln hsm hlens hB hok hfit hSl hS hx j4
 by_cases j5:x.k=5
 ·exact rl5_any h hln hsm hlens hB hok hfit hSl hS hx j5
 by_cases j6:x.k=6
 ·exact rl6_any h hln hsm hlens hB hok hfit hSl hS hx j6
 by_cases j7:x.k=7
 ·exact rl7_any h hln hsm hlens hB hok hfit hSl hS hx j7
 by_cases j8:x.k=8
 ·exact rl8_any h hln hsm hlens hB hok hfit hSl hS hx j8
 by_cases j9:x.k=9
 ·exact rl9_any h hln hsm hlens hB hok hfit hSl hS hx j9
 by_cases j10:x.k=10
 ·exact rl10_any h hln hsm hlens hB hok hfit hSl hS hx j10
 by_cases j11:x.k=11
 ·exact rl11_any h hln hsm hlens hB hok hfit hSl hS hx j11
 exact rlt_any h hln hsm hlens hB hok hfit hSl hS hx (by omega)
end Go.Proofs.YtphkaogbcfdllaaGreatDoor
namespace Go.Proofs.YtphkaogbcfdllaaGreatDoor
open Go Go.Vc Go.Scr Go.Pth Go.Tre Go.Blk Go.Run
theorem RMac.stack2 {H H1 H':Heap} {m:RP} {s s':St} {u u':Nat} {sa sa':Option Addr} {sc sc':Nat} (h:RMac H m s u sa sc) (k:Ext H H1) (hA:s'.A=s.A) (hV:s'.V=s.V) (hs:RStk H' m s'.S u' sa' sc') (hb:Only (fun y=>y=m.g∨ ∃ p,sa=some p∧p.block=y) H1 H'):RMac H' m s' u' sa' sc'∧Only (doR m) H H':=by
 have hst:=h.stk.keep (k.only (F:=fun _=>False)) id fun _ _=>id
 have hva:=h.vars.ext k
 have hgb:=h.gb
 have hsb:=h.sb
 have hdm: ∀ x,(x=m.g∨ ∃ p,sa=some p∧p.block=x)→x<H1.size→Dumb H1 x:=fun x e _=>by
  rcases e with e|⟨p,hp,e⟩
  ·subst e;exact .blk hst.blk (mch_dumb _ _ _ _ _)
  ·subst e;exact hst.all.dumb hp
 refine⟨⟨hs,lns_dumb (h.row.ext k) hb hdm,?_,?_⟩,k.only.trans (hb.mono fun x e=> ?_) fun _ _ e=>e⟩
 ·rw[hA]
  exact(h.tree.ext k).keep hb (fun e=>by
   rcases e with e|⟨p,hp,e⟩
   ·exact hgb e.symm
   ·exact hsb p hp e) hdm
 ·rw[hV]
  exact hva.keep hb fun v hv e=>by
   obtain⟨W,_,hW⟩:=vars_map hva hv
   rcases e with e|⟨p,hp,e⟩
   ·exact hW.ne hst.blk e
   ·obtain⟨d,hd⟩:=own_blkT hst.own hp
    exact hW.ne hd e.symm
 ·rcases e with e|⟨p,hp,e⟩
  ·exact .inr (.inr (.inl e))
  ·exact .inr (.inr (.inr (by have:=(hst.own.block p hp).1;omega)))
theorem RMac.used {H H':Heap} {m:RP} {s:St} {u u':Nat} {sa:Option Addr} {sc:Nat} (h:RMac H m s u sa sc) (hb:Blk H' m.g (mchC m u' sa s.S.length sc) 156) (k:But m.g H H'):RMac H' m s u' sa sc∧Only (doR m) H H':=
 h.stack2 (Ext.refl _) rfl rfl ⟨hb,h.stk.own.keep k h.sg,h.stk.all.keep k fun p hp=>⟨(h.stk.own.block p hp).2,h.sg p hp⟩⟩ (k.mono fun x e=> .inl e)
theorem mchB {K:Value→Prop} {o1 o2 o3:Operand} {p:Option Addr} {vm:Option Nat} {f:Int} (h:K (.agg #[.pointer p,.map vm,.int .i64 f,.int .i64 0,.slice none 0 0])):PureH Tryz.prog (Instr.build 156 ((List.map (fun x:Nat×Operand=>x.1) (#[(0,o1),(1,o2),(2,o3)]:Array (Nat×Operand)).toList).zip [.pointer p,.map vm,.int .i64 f]).toArray) K:=PureH.build _ (by kernel_rfl) h
structure RrS where
 s:St
 u:Nat
 sa:Option Addr
 sc:Nat
set_option maxHeartbeats 4000000 in
theorem rrun_any {H:Heap} {al:Option Addr} {cl n b:Nat} {vm:Option Nat} {V:Option Vars} {A:Tr} {L:List Ln} (hr:Row H al (lnsV L)) (hl:L.length=n) (hn:n≤1000000) (hne:Nested (kindsL L)) (hlens: ∀ x∈L,x.a.length≤1500∧x.b.length≤1500∧x.tx.length≤15000∧x.n≤1000000)
  (ht:RTree H b A) (hv:VarsO H vm V) (hA:Okay A) (hfit:Fit V) (fuel:Int) (F:Nat) (hF:min (max fuel 0) 65536=(F:Int)):
  CallH Tryz.prog 22 [.slice al n cl,.pointer (some ⟨b,0,none⟩),.map vm,.int .i64 fuel] H fun v H'=>v= .tuple #[.int .i64 (runP L F 0 ⟨0,A,V,[]⟩).1.1,.int .i64 (runP L F 0 ⟨0,A,V,[]⟩).2.at_,.int .i64 (runP L F 0 ⟨0,A,V,[]⟩).1.2]∧
   RTree H' b (runP L F 0 ⟨0,A,V,[]⟩).2.A∧VarsO H' vm (runP L F 0 ⟨0,A,V,[]⟩).2.V∧Only (fun x=>x=b∨vm=some x) H H':=by
 refine Vc.CallH.body Tryz.func22 Tryz.call22 rfl (by decide+kernel) rfl ?_
 ((conv=>whnf);repeat(any_goals((first|((with_reducible apply mchB);(focus((conv=>whnf))))|refine Vc.stp ?_)<;>(intros;(conv=>whnf)))))
 rename_i H3 z3 b3 x3
 obtain⟨m,eB,eg,rfl,rfl,rfl,rfl,rfl,rfl,ef⟩: ∃ m:RP,m.B=H.size∧m.g=H.size∧m.al=al∧m.cl=cl∧m.n=n∧m.L=L∧m.b=b∧m.vm=vm∧m.fu=min fuel 65536:=⟨⟨H.size,H.size,al,cl,n,L,b,vm,min fuel 65536⟩,rfl,rfl,rfl,rfl,rfl,rfl,rfl,rfl,rfl⟩
 have hm0:RMac H3 m ⟨0,A,V,[]⟩ 0 none 0:=
  ⟨⟨by unfold mchC;rw[eg,ef];exact b3,Own.nil _ _ _ _,AllQ.none _ _⟩,hr.ext x3,ht.ext x3,hv.ext x3⟩
 clear b3
 have post: ∀ {H4:Heap} {s4:St} {u4:Nat} {sa4:Option Addr} {sc4:Nat},RMac H4 m s4 u4 sa4 sc4→Only (doR m) H3 H4→RTree H4 m.b s4.A∧VarsO H4 m.vm s4.V∧Only (fun x=>x=m.b∨m.vm=some x) H H4:=fun{H4 s4 u4 sa4 sc4} hm4 k=>⟨hm4.tree,hm4.vars,Only.trans x3.only k fun y hy e=>by
  rcases e with e|e|e|e
  ·exact .inl e
  ·exact .inr e
  ·omega
  ·omega⟩
 refine LoopH.intro (fun(x:RrS)=>[(12,.int .i64 x.s.at_),(11,.pointer (some ⟨m.g,0,none⟩))]) (fun x H'=>RMac H' m x.s x.u x.sa x.sc∧x.u≤F∧runP m.L F 0 ⟨0,A,V,[]⟩=runP m.L (F-x.u) x.u x.s∧x.s.at_≤m.n∧(∀ p∈x.s.S,p.1<m.n∧p.2≤1000000)∧x.s.S.length≤x.u∧Fit x.s.V∧Okay x.s.A∧Only (doR m) H3 H') (fun x=>F-x.u) ⟨⟨0,A,V,[]⟩,0,none,0⟩ ⟨rfl,by rw[eg];rfl,trivial⟩ ⟨hm0,Nat.zero_le _,rfl,Nat.zero_le _,(fun p hp=>by cases hp),Nat.le_refl _,hfit,hA,Only.refl _ _⟩ ?_
 rintro⟨s,u,sa,sc⟩ H4 ⟨hm4,huF,hrun,hat,hS,hSl,hfit4,hok4,hx4⟩
 dsimp only at hm4 huF hrun hat hS hSl hfit4 hok4 hx4 ⊢
 rw[hrun]
 have hb4:=hm4.stk.blk
 unfold mchC at hb4
 have hz4:=hx4.size
 have hz3:=x3.size
 by_cases hlt:s.at_<m.n
 ·obtain⟨x,hx⟩: ∃ x,m.L[s.at_]? =some x:=⟨_,List.getElem?_eq_getElem (by omega)⟩
  by_cases huf:u<F
  ·have hfu:m.fu=(F:Int):=by omega
   have hgl:=hb4.lt
   rw[show F-u=(F-(u+1))+1 by omega,runP_step hx]
   have hst:=step_at (L:=m.L) hne hx (fun p hp=>by have:=(hS p hp).1;omega)
   have hsk:=step_stack (kindsL m.L) x s
   have hlf:=step_left (kindsL m.L) x s 1000000 (hlens x (List.mem_of_getElem? hx)).2.2.2 (fun p hp=>(hS p hp).2)
   by_cases he:(stepP (kindsL m.L) x s).2=0
   ·rw[if_pos he]
    ((conv=>whnf);repeat(any_goals((first|(refine DoH.store1 (o:=0+3) hb4 rfl rfl rfl (show 3<5 by decide) ?_;intro H5 z5 b5 k5;have b5:Blk H5 m.g (mchC m (u+1) sa s.S.length sc) 156:=b5;obtain⟨hm5,ho5⟩:=hm4.used b5 k5;have hx5:=Only.trans hx4 ho5 fun _ _ e=>e;have hz5:=hx5.size)|(have:=hm5;refine(mline_any hm5 hl hn hlens (by omega) hok4 hfit4 (by omega) hS hx).mono ?_;rintro v6 H6 hd6;obtain⟨nx,sa6,sc6,rfl,hnx6,hm6,ho6⟩:=hd6.out;have hx6:=Only.trans hx5 ho6 fun _ _ e=>e;have hb6:=hm6.stk.blk;unfold mchC at hb6;rw[he]at hnx6 ⊢;have hnx6:=hnx6 rfl)|refine Vc.stp ?_)<;>(intros;(conv=>whnf)))))
    refine⟨⟨(stepP (kindsL m.L) x s).1,u+1,sa6,sc6⟩,⟨by show Value.int _ _=Value.int _ _;rw[hnx6],rfl,trivial⟩,⟨hm6,huf,rfl,by have:=hst.1;show(stepP (kindsL m.L) x s).1.at_≤m.n;omega,fun p hp=>⟨by have:=hst.2 p hp;omega,hlf p hp⟩,by show(stepP (kindsL m.L) x s).1.S.length≤u+1;omega,step_fit _ _ hfit4,step_okay _ _ hok4,hx6⟩,by show F-(u+1)<(F-(u+1))+1;omega⟩
   ·rw[if_neg he]
    obtain⟨E,hE⟩: ∃ E,(stepP (kindsL m.L) x s).2=E:=⟨_,rfl⟩
    rw[hE]at he
    have heb:((E:Int) != 0)=true:=by rw[bne_iff_ne];omega
    ((conv=>whnf);repeat(any_goals((first|(refine DoH.store1 (o:=0+3) hb4 rfl rfl rfl (show 3<5 by decide) ?_;intro H5 z5 b5 k5;have b5:Blk H5 m.g (mchC m (u+1) sa s.S.length sc) 156:=b5;obtain⟨hm5,ho5⟩:=hm4.used b5 k5;have hx5:=Only.trans hx4 ho5 fun _ _ e=>e;have hz5:=hx5.size)|(have:=hm5;refine(mline_any hm5 hl hn hlens (by omega) hok4 hfit4 (by omega) hS hx).mono ?_;rintro v6 H6 hd6;obtain⟨nx,sa6,sc6,rfl,hnx6,hm6,ho6⟩:=hd6.out;have hx6:=Only.trans hx5 ho6 fun _ _ e=>e;have hb6:=hm6.stk.blk;unfold mchC at hb6;rw[hE])|refine Vc.stp ?_)<;>(intros;(conv=>whnf)))))
    obtain⟨p1,p2,p3⟩:=post hm6 hx6
    exact⟨rfl,p1,p2,p3⟩
  ·obtain rfl:u=F:=by omega
   rw[Nat.sub_self,runP_out (by omega)]
   ((conv=>whnf);repeat(any_goals((first|refine Vc.stp ?_)<;>(intros;(conv=>whnf)))))
   obtain⟨p1,p2,p3⟩:=post hm4 hx4
   exact⟨rfl,p1,p2,p3⟩
 ·rw[runP_end (by omega)]
  ((conv=>whnf);repeat(any_goals((first|refine Vc.stp ?_)<;>(intros;(conv=>whnf)))))
  obtain⟨p1,p2,p3⟩:=post hm4 hx4
  exact⟨rfl,p1,p2,p3⟩
end Go.Proofs.YtphkaogbcfdllaaGreatDoor
