import Derived.Test.YtphkaogbcfdllaaGreatDoorKb
import Derived.Test.YtphkaogbcfdllaaGreatDoorRows
import Derived.KernelRfl
import Derived.Test.YtphkaogbcfdllaaGreatDoorKc
set_option linter.unusedVariables false
set_option linter.unusedSimpArgs false
set_option maxRecDepth 100000
/- Build scripts, the code: words. -/
namespace Go.Proofs.YtphkaogbcfdllaaGreatDoor
open Go Go.Vc Go.Scr
theorem isB_nat (c:UInt8):isB c=(c.toNat==32 || c.toNat==9):=by
 unfold isB
 have h: ∀ d:UInt8,(c==d)=(c.toNat==d.toNat):=fun d=>by
  rw[Bool.eq_iff_iff,beq_iff_eq,beq_iff_eq]
  exact⟨fun e=>by rw[e],UInt8.toNat_inj.1⟩
 rw[h,h];rfl
def runF (l:Bs):Nat:=(l.takeWhile fun x=> !isB x).length
theorem runF_le: ∀ l:Bs,runF l≤l.length
 |[]=>Nat.le_refl _
 |c::t=>by
  unfold runF
  rw[List.takeWhile_cons]
  split
  ·have:=runF_le t;unfold runF at this;simp only[List.length_cons];omega
  ·simp
theorem runF_no: ∀ (l:Bs) (j:Nat),j<runF l→isB (l.getD j 0)=false
 |[],j,h=>by simp[runF]at h
 |c::t,j,h=>by
  unfold runF at h
  rw[List.takeWhile_cons]at h
  split at h
  ·rename_i hc
   cases j with
   |zero=>simpa using hc
   |succ j=>exact runF_no t j (by simpa [runF]using h)
  ·simp at h
theorem runF_at: ∀ (l:Bs),runF l<l.length→isB (l.getD (runF l) 0)=true
 |[],h=>by simp at h
 |c::t,h=>by
  unfold runF at h ⊢
  rw[List.takeWhile_cons]at h ⊢
  split
  ·rename_i hc
   rw[if_pos hc]at h
   have:=runF_at t (by simp only[List.length_cons]at h;unfold runF;omega)
   simpa [runF]using this
  ·rename_i hc;simpa using hc
theorem runF_uniq {l:Bs} {p:Nat} (h1: ∀ j,j<p→isB (l.getD j 0)=false) (h2:p<l.length) (h3:isB (l.getD p 0)=true):runF l=p:=by
 have hle:=runF_le l
 rcases Nat.lt_trichotomy (runF l) p with h|h|h
 ·have:=runF_at l (by omega);rw[h1 _ h]at this;cases this
 ·exact h
 ·have:=runF_no l p h;rw[h3]at this;cases this
theorem runF_all {l:Bs} (h1: ∀ j,j<l.length→isB (l.getD j 0)=false):runF l=l.length:=by
 have hle:=runF_le l
 rcases Nat.lt_or_ge (runF l) l.length with h|h
 ·have:=runF_at l h;rw[h1 _ h]at this;cases this
 ·omega
theorem run_take (l:Bs):l.takeWhile (fun x=> !isB x)=l.take (runF l):=by
 unfold runF
 exact(List.prefix_iff_eq_take.1 (List.takeWhile_prefix _))
theorem run_drop: ∀ l:Bs,l.dropWhile (fun x=> !isB x)=l.drop (runF l)
 |[]=>rfl
 |c::t=>by
  unfold runF
  rw[List.takeWhile_cons,List.dropWhile_cons]
  split
  ·rw[run_drop t];rfl
  ·rfl
end Go.Proofs.YtphkaogbcfdllaaGreatDoor
namespace Go.Proofs.YtphkaogbcfdllaaGreatDoor
open Go Go.Vc Go.Scr
end Go.Proofs.YtphkaogbcfdllaaGreatDoor
namespace Go.Proofs.YtphkaogbcfdllaaGreatDoor
open Go Go.Vc Go.Scr
def wordsR (H:Heap) (base:Nat) (v:Value):Option (List Bs)→Prop
 |none=>v= .tuple #[.slice none 0 0,.bool false]
 |some ws=>∃ a cap,v= .tuple #[.slice a ws.length cap,.bool true]∧Own H base 9 1 a ws.length cap (strs ws)
theorem run_cons {c:UInt8} {t:Bs} (h:isB c=false):c::t.takeWhile (fun x=> !isB x)=(c::t).take (runF (c::t))∧t.dropWhile (fun x=> !isB x)=(c::t).drop (runF (c::t))∧0<runF (c::t):=by
 have e1:=run_take (c::t)
 have e2:=run_drop (c::t)
 rw[List.takeWhile_cons,if_pos (by rw[h];rfl)]at e1
 rw[List.dropWhile_cons,if_pos (by rw[h];rfl)]at e2
 refine⟨e1,e2,?_⟩
 have:=congrArg List.length e1
 simp only[List.length_cons,List.length_take]at this
 omega
theorem quotedF_wlen: ∀ (n:Nat) (l:Bs),l.length≤n→ ∀ {w r:Bs},quotedF l=some (w,r)→w.length≤l.length
 |_,[],_,_,_,h=>by simp[quotedF]at h
 |0,c::t,hn,_,_,_=>by simp at hn
 |n+1,c::t,hn,w,r,h=>by
  simp only[List.length_cons]at hn ⊢
  unfold quotedF at h
  split at h
  ·cases h;simp
  ·split at h
   ·split at h
    ·cases h
    ·rename_i d u
     simp only[List.length_cons]at hn ⊢
     split at h
     ·cases hq:quotedF u with
      |none=>rw[hq]at h;cases h
      |some p=>rw[hq]at h;cases h;have:=quotedF_wlen n u (by omega) (w:=p.1) (r:=p.2) hq;simp;omega
     ·split at h
      ·cases hq:quotedF u with
       |none=>rw[hq]at h;cases h
       |some p=>rw[hq]at h;cases h;have:=quotedF_wlen n u (by omega) (w:=p.1) (r:=p.2) hq;simp;omega
      ·cases h
   ·cases hq:quotedF t with
    |none=>rw[hq]at h;cases h
    |some p=>rw[hq]at h;cases h;have:=quotedF_wlen n t (by omega) (w:=p.1) (r:=p.2) hq;simp;omega
end Go.Proofs.YtphkaogbcfdllaaGreatDoor
namespace Go.Proofs.YtphkaogbcfdllaaGreatDoor
open Go Go.Vc Go.Scr
theorem isB_num {c:UInt8} (h:isB c=true):c.toNat=32∨c.toNat=9:=by rw[isB_nat,Bool.or_eq_true,beq_iff_eq,beq_iff_eq]at h;exact h
theorem isB_num_f {c:UInt8} (h:isB c=false):c.toNat≠32∧c.toNat≠9:=by rw[isB_nat,Bool.or_eq_false_iff,beq_eq_false_iff_ne,beq_eq_false_iff_ne]at h;exact h
theorem sl_snoc2 (a:Option Addr) (l:Bs) (c:UInt8) (cap:Nat):Value.slice a ((34::l).length+1) cap=Value.slice a (34::(l++[c])).length cap:=by rw[List.length_cons,List.length_cons,List.length_append];rfl
theorem own_snoc2 {H:Heap} {b:Nat} {e:TypeId} {a:Option Addr} {cap:Nat} {l:Bs} {c:UInt8} (h:Own H b e 1 a ((34::l).length+1) cap (strV (34::l)++[.int .u8 c.toNat])):Own H b e 1 a (34::(l++[c])).length cap (strV (34::(l++[c]))):=own_snoc (l:=34::l) h
structure QSt where
 j:Nat
 acc:Bs
 a:Option Addr
 cap:Nat
set_option maxHeartbeats 8000000 in
theorem rwords_any (s:Bs) (hl:s.length≤1000000000) (H:Heap):CallH Tryz.prog 57 [.string (mkS s)] H fun v H'=>wordsR H' H.size v (wordsF s)∧Ext H H':=by
 obtain⟨W,hW⟩: ∃ W,wordsF s=W:=⟨_,rfl⟩
 rw[hW]
 have hsz:(mkS s).size=s.length:=rfl
 refine Vc.CallH.body Tryz.func57 Tryz.call57 rfl (by decide+kernel) rfl ?_
 ((conv=>whnf);repeat(any_goals(first|(refine Vc.sts ?_;(conv=>whnf)))))
 refine LoopH.intro (fun(x:Nat×List Bs×Option Addr×Nat)=>[(5,.int .i64 x.1),(4,.slice x.2.2.1 x.2.1.length x.2.2.2)]) (fun x H'=>x.1≤s.length∧x.2.1.length≤x.1∧Own H' H.size 9 1 x.2.2.1 x.2.1.length x.2.2.2 (strs x.2.1)∧Ext H H'∧W=(wordsF (s.drop x.1)).map fun l=>x.2.1++l) (fun x=>s.length-x.1) (0,[],none,0) ⟨rfl,rfl,trivial⟩ ⟨Nat.zero_le _,Nat.le_refl _,Own.nil _ _ _ _,Ext.refl _,by show W=(wordsF s).map _;rw[hW];cases W<;>rfl⟩ ?_
 rintro⟨i,out,a,cap⟩ H2 ⟨hi,hol,ho2,hx2,hinv⟩
 dsimp only at hi hol ho2 hinv ⊢
 by_cases hlt:i<s.length
 ·obtain⟨c,hc,hdr⟩:=drop_get hlt
  rw[hdr]at hinv
  cases hb:isB c
  ·obtain⟨n32,n9⟩:=isB_num_f hb
   by_cases h34:c=34
   ·subst h34
    rw[wordsF_quote]at hinv
    obtain⟨Q,hQ⟩: ∃ Q,quotedF (s.drop (i+1))=Q:=⟨_,rfl⟩
    rw[hQ]at hinv
    ((conv=>whnf);repeat(any_goals((first|(refine IdxH.nat i rfl (by omega) ?_;(conv=>whnf);rw[hc])|refine Vc.stp ?_|refine Vc.spl ?_ ?_)<;>(intros;(conv=>whnf)))))
    rename_i H3 hs3 hb3 hx3
    have hw3:Own H3 H2.size 5 1 (some ⟨H2.size,0,none⟩) 1 1 (strV [34]):=own_lit hb3 (Nat.le_refl _) rfl (by decide)
    refine LoopH.intro (fun(x:QSt)=>[(5,.int .i64 x.j),(7,.slice x.a (34::x.acc).length x.cap)]) (fun x H'=>i+1≤x.j∧x.j≤s.length∧x.acc.length≤x.j∧Own H' H2.size 5 1 x.a (34::x.acc).length x.cap (strV (34::x.acc))∧Ext H2 H'∧Q=(quotedF (s.drop x.j)).map fun p=>(x.acc++p.1,p.2)) (fun x=>s.length-x.j) ⟨i+1,[],_,_⟩ ⟨rfl,rfl,trivial⟩ ⟨Nat.le_refl _,by show i+1≤_;omega,Nat.zero_le _,hw3,hx3,by rw[←hQ];cases quotedF (s.drop (i+1))<;>rfl⟩ ?_
    rintro⟨j,acc,a2,c2⟩ H4 ⟨hj1,hj,hal,hw4,hx4,hq⟩
    dsimp only at hj1 hj hal hw4 hq ⊢
    have e4:Ext H H4:=hx2.trans hx4
    have hal2:(34::acc).length=acc.length+1:=rfl
    by_cases hjl:j<s.length
    ·obtain⟨d,hd,hdr2⟩:=drop_get hjl
     rw[hdr2]at hq
     unfold quotedF at hq
     by_cases d34:d=34
     ·subst d34
      rw[if_pos rfl]at hq
      simp only[Option.map_some,List.append_nil]at hq
      rw[hq]at hinv
      dsimp only at hinv
      have ho4:=ho2.ext hx4
      by_cases hend:j+1<s.length
      ·obtain⟨f,hf,hdr3⟩:=drop_get hend
       rw[hdr3]at hinv
       cases hbf:isB f
       ·obtain⟨m32,m9⟩:=isB_num_f hbf
        rw[if_pos (by simp[hbf])]at hinv
        ((conv=>whnf);repeat(any_goals((first|(refine IdxH.nat j rfl (by omega) ?_;(conv=>whnf);rw[hd])|(refine IdxH.nat (j+1) rfl (by omega) ?_;(conv=>whnf);rw[hf])|refine Vc.stp ?_|refine Vc.spl ?_ ?_)<;>(intros;(conv=>whnf)))))
        rw[hinv]
        exact⟨rfl,e4⟩
       ·rw[if_neg (by simp[hbf])]at hinv
        have mB:=isB_num hbf
        have fin: ∀ {H6:Heap} {a6:Option Addr} {c6:Nat},Own H6 H.size 9 1 a6 (out.length+1) c6 (strs out++[.string ⟨(34::acc).toArray⟩])→Own H6 H.size 9 1 a6 (out++[34::acc]).length c6 (strs (out++[34::acc])):=fun h=>own_snocS rfl h
        have hinv':W=(wordsF (s.drop (j+1))).map fun l=>(out++[34::acc])++l:=by rw[hinv,hdr3];cases wordsF (f::s.drop (j+1+1))<;>simp
        rcases mB with mB|mB
        ·((conv=>whnf);repeat(any_goals((first|(refine IdxH.nat j rfl (by omega) ?_;(conv=>whnf);rw[hd])|(refine IdxH.nat (j+1) rfl (by omega) ?_;(conv=>whnf);rw[hf])|((with_reducible apply to_string');(focus(rfl));(focus(rfl));(focus(rfl));(focus(exact hw4.row));(focus(rfl)))|refine Vc.stp ?_|refine Vc.spl ?_ ?_)<;>(intros;(conv=>whnf)))))
         rename_i H5 hs5 hb5 hx5 a6 c6 H6 ho6 hx6
         exact⟨(j+1,out++[34::acc],a6,c6),⟨rfl,sl_snocS _ _ _ _,trivial⟩,⟨by show j+1≤_;omega,by show(out++[34::acc]).length≤j+1;simp;omega,fin ho6,hx6,hinv'⟩,by show s.length-(j+1)<s.length-i;omega⟩
        ·((conv=>whnf);repeat(any_goals((first|(refine IdxH.nat j rfl (by omega) ?_;(conv=>whnf);rw[hd])|(refine IdxH.nat (j+1) rfl (by omega) ?_;(conv=>whnf);rw[hf])|((with_reducible apply to_string');(focus(rfl));(focus(rfl));(focus(rfl));(focus(exact hw4.row));(focus(rfl)))|refine Vc.stp ?_|refine Vc.spl ?_ ?_)<;>(intros;(conv=>whnf)))))
         rename_i H5 hs5 hb5 hx5 a6 c6 H6 ho6 hx6
         exact⟨(j+1,out++[34::acc],a6,c6),⟨rfl,sl_snocS _ _ _ _,trivial⟩,⟨by show j+1≤_;omega,by show(out++[34::acc]).length≤j+1;simp;omega,fin ho6,hx6,hinv'⟩,by show s.length-(j+1)<s.length-i;omega⟩
      ·rw[List.drop_of_length_le (by omega),if_neg (by simp)]at hinv
       ((conv=>whnf);repeat(any_goals((first|(refine IdxH.nat j rfl (by omega) ?_;(conv=>whnf);rw[hd])|((with_reducible apply to_string');(focus(rfl));(focus(rfl));(focus(rfl));(focus(exact hw4.row));(focus(rfl)))|refine Vc.stp ?_|refine Vc.spl ?_ ?_)<;>(intros;(conv=>whnf)))))
       rename_i H5 hs5 hb5 hx5 a6 c6 H6 ho6 hx6
       refine⟨(j+1,out++[34::acc],a6,c6),⟨rfl,sl_snocS _ _ _ _,trivial⟩,⟨by show j+1≤_;omega,by show(out++[34::acc]).length≤j+1;simp;omega,own_snocS rfl ho6,hx6,?_⟩,by show s.length-(j+1)<s.length-i;omega⟩
       rw[hinv];dsimp only;rw[List.drop_of_length_le (by omega),wordsF_nil];simp
     ·have m34:=ne_nat 34 (by decide) d34
      rw[if_neg d34]at hq
      by_cases d92:d=92
      ·subst d92
       rw[if_pos rfl]at hq
       by_cases hend:j+1<s.length
       ·obtain⟨f,hf,hdr3⟩:=drop_get hend
        rw[hdr3]at hq
        dsimp only at hq
        by_cases hfq:f=34∨f=92
        ·rw[if_pos hfq]at hq
         have hnat:f.toNat=34∨f.toNat=92:=by rcases hfq with rfl|rfl<;>simp
         have hq':Q=(quotedF (s.drop (j+1+1))).map fun p=>((acc++[f])++p.1,p.2):=by rw[hq];cases quotedF (s.drop (j+1+1))<;>simp
         rcases hnat with hnat|hnat
         ·((conv=>whnf);repeat(any_goals((first|(refine IdxH.nat j rfl (by omega) ?_;(conv=>whnf);rw[hd])|(refine IdxH.nat (j+1) rfl (by omega) ?_;(conv=>whnf);rw[hf])|refine Vc.stp ?_|refine Vc.spl ?_ ?_)<;>(intros;(conv=>whnf)))))
          rename_i H5 hs5 hb5 hx5 a6 c6 H6 ho6 hx6
          exact⟨⟨j+1+1,acc++[f],a6,c6⟩,⟨rfl,sl_snoc2 _ acc f _,trivial⟩,⟨by show i+1≤j+1+1;omega,by show j+1+1≤_;omega,by show(acc++[f]).length≤j+1+1;simp;omega,own_snoc2 ho6,hx6,hq'⟩,by show s.length-(j+1+1)<s.length-j;omega⟩
         ·((conv=>whnf);repeat(any_goals((first|(refine IdxH.nat j rfl (by omega) ?_;(conv=>whnf);rw[hd])|(refine IdxH.nat (j+1) rfl (by omega) ?_;(conv=>whnf);rw[hf])|refine Vc.stp ?_|refine Vc.spl ?_ ?_)<;>(intros;(conv=>whnf)))))
          rename_i H5 hs5 hb5 hx5 a6 c6 H6 ho6 hx6
          exact⟨⟨j+1+1,acc++[f],a6,c6⟩,⟨rfl,sl_snoc2 _ acc f _,trivial⟩,⟨by show i+1≤j+1+1;omega,by show j+1+1≤_;omega,by show(acc++[f]).length≤j+1+1;simp;omega,own_snoc2 ho6,hx6,hq'⟩,by show s.length-(j+1+1)<s.length-j;omega⟩
        ·rw[if_neg hfq]at hq
         have f34:=ne_nat 34 (by decide) fun e=>hfq (.inl e)
         have f92:=ne_nat 92 (by decide) fun e=>hfq (.inr e)
         by_cases hfn:f=110
         ·subst hfn
          rw[if_pos rfl]at hq
          have hq':Q=(quotedF (s.drop (j+1+1))).map fun p=>((acc++[10])++p.1,p.2):=by rw[hq];cases quotedF (s.drop (j+1+1))<;>simp
          ((conv=>whnf);repeat(any_goals((first|(refine IdxH.nat j rfl (by omega) ?_;(conv=>whnf);rw[hd])|(refine IdxH.nat (j+1) rfl (by omega) ?_;(conv=>whnf);rw[hf])|refine Vc.stp ?_|refine Vc.spl ?_ ?_)<;>(intros;(conv=>whnf)))))
          rename_i H5 hs5 hb5 hx5 a6 c6 H6 ho6 hx6
          exact⟨⟨j+1+1,acc++[10],a6,c6⟩,⟨rfl,sl_snoc2 _ acc 10 _,trivial⟩,⟨by show i+1≤j+1+1;omega,by show j+1+1≤_;omega,by show(acc++[10]).length≤j+1+1;simp;omega,own_snoc2 (c:=10) ho6,hx6,hq'⟩,by show s.length-(j+1+1)<s.length-j;omega⟩
         ·have f110:=ne_nat 110 (by decide) hfn
          rw[if_neg hfn]at hq
          rw[hq]at hinv
          ((conv=>whnf);repeat(any_goals((first|(refine IdxH.nat j rfl (by omega) ?_;(conv=>whnf);rw[hd])|(refine IdxH.nat (j+1) rfl (by omega) ?_;(conv=>whnf);rw[hf])|refine Vc.stp ?_|refine Vc.spl ?_ ?_)<;>(intros;(conv=>whnf)))))
          rw[hinv];exact⟨rfl,e4⟩
       ·rw[List.drop_of_length_le (by omega)]at hq
        rw[hq]at hinv
        ((conv=>whnf);repeat(any_goals((first|(refine IdxH.nat j rfl (by omega) ?_;(conv=>whnf);rw[hd])|refine Vc.stp ?_|refine Vc.spl ?_ ?_)<;>(intros;(conv=>whnf)))))
        rw[hinv];exact⟨rfl,e4⟩
      ·have m92:=ne_nat 92 (by decide) d92
       rw[if_neg d92]at hq
       have hq':Q=(quotedF (s.drop (j+1))).map fun p=>((acc++[d])++p.1,p.2):=by rw[hq];cases quotedF (s.drop (j+1))<;>simp
       ((conv=>whnf);repeat(any_goals((first|(refine IdxH.nat j rfl (by omega) ?_;(conv=>whnf);rw[hd])|refine Vc.stp ?_|refine Vc.spl ?_ ?_)<;>(intros;(conv=>whnf)))))
       rename_i H5 hs5 hb5 hx5 a6 c6 H6 ho6 hx6
       exact⟨⟨j+1,acc++[d],a6,c6⟩,⟨rfl,sl_snoc2 _ acc d _,trivial⟩,⟨by show i+1≤j+1;omega,by show j+1≤_;omega,by show(acc++[d]).length≤j+1;simp;omega,own_snoc2 ho6,hx6,hq'⟩,by show s.length-(j+1)<s.length-j;omega⟩
    ·rw[List.drop_of_length_le (by omega)]at hq
     rw[show quotedF []=none from rfl]at hq
     rw[hq]at hinv
     ((conv=>whnf);repeat(any_goals((first|refine Vc.stp ?_|refine Vc.spl ?_ ?_)<;>(intros;(conv=>whnf)))))
     rw[hinv];exact⟨rfl,e4⟩
   ·have n34:=ne_nat 34 (by decide) h34
    obtain⟨e1,e2,e3⟩:=run_cons (t:=s.drop (i+1)) hb
    rw[wordsF_word hb h34,e1,e2,←hdr]at hinv
    have hcd:=drop_getD hdr
    ((conv=>whnf);repeat(any_goals((first|(refine IdxH.nat i rfl (by omega) ?_;(conv=>whnf);rw[hc])|refine Vc.stp ?_|refine Vc.spl ?_ ?_)<;>(intros;(conv=>whnf)))))
    refine LoopH.intro (fun(j:Nat)=>[(5,.int .i64 j)]) (fun j H'=>H2=H'∧i≤j∧j≤s.length∧ ∀ p,p<j-i→isB ((s.drop i).getD p 0)=false) (fun j=>s.length-j) i ⟨rfl,trivial⟩ ⟨rfl,Nat.le_refl _,hi,fun p hp=>by omega⟩ ?_
    rintro j _ ⟨rfl,hij,hjl,hno⟩
    have hdl:(s.drop i).length=s.length-i:=by simp
    have fin:runF (s.drop i)=j-i→ ∀ {H6:Heap} {a6:Option Addr} {c6:Nat},Own H6 H.size 9 1 a6 (out.length+1) c6 (strs out++[.string ((mkS s).extract i j)])→i<j∧Own H6 H.size 9 1 a6 (out++[(s.drop i).take (j-i)]).length c6 (strs (out++[(s.drop i).take (j-i)]))∧W=(wordsF (s.drop j)).map fun l=>(out++[(s.drop i).take (j-i)])++l:=by
     intro hrun H6 a6 c6 ho6
     have hij':i<j:=by rw[←hdr,hrun]at e3;omega
     refine⟨hij',own_snocS (mkS_ext _ _ _) ho6,?_⟩
     rw[hinv,hrun,List.drop_drop,show i+(j-i)=j by omega]
     cases wordsF (s.drop j)<;>simp
    by_cases hjlt:j<s.length
    ·obtain⟨d,hd,hdr2⟩:=drop_get hjlt
     have hdd:(s.drop i).getD (j-i) 0=d:=by rw[getD_drop,show i+(j-i)=j by omega];exact drop_getD hdr2
     cases hbd:isB d
     ·obtain⟨m32,m9⟩:=isB_num_f hbd
      ((conv=>whnf);repeat(any_goals((first|(refine IdxH.nat j rfl (by omega) ?_;(conv=>whnf);rw[hd])|refine Vc.stp ?_|refine Vc.spl ?_ ?_)<;>(intros;(conv=>whnf)))))
      refine⟨j+1,⟨rfl,trivial⟩,⟨rfl,by omega,by omega,fun p hp=> ?_⟩,by omega⟩
      rcases Nat.lt_or_ge p (j-i)with h|h
      ·exact hno p h
      ·have:p=j-i:=by omega
       rw[this,hdd];exact hbd
     ·have hrun:runF (s.drop i)=j-i:=runF_uniq hno (by omega) (by rw[hdd];exact hbd)
      rcases isB_num hbd with m|m
      ·((conv=>whnf);repeat(any_goals((first|(refine IdxH.nat j rfl (by omega) ?_;(conv=>whnf);rw[hd])|(refine BndH.nat j rfl (by omega) ?_)|(refine BndH.nat i rfl (by omega) ?_)|refine Vc.stp ?_|refine Vc.spl ?_ ?_)<;>(intros;(conv=>whnf)))))
       rename_i H5 hs5 hb5 hx5 a6 c6 H6 ho6 hx6
       obtain⟨hij',ho7,hw7⟩:=fin hrun ho6
       exact⟨(j,_,a6,c6),⟨rfl,sl_snocS _ _ _ _,trivial⟩,⟨hjl,by show(out++[_]).length≤j;rw[List.length_append];show out.length+1≤j;omega,ho7,hx6,hw7⟩,by show s.length-j<s.length-i;omega⟩
      ·((conv=>whnf);repeat(any_goals((first|(refine IdxH.nat j rfl (by omega) ?_;(conv=>whnf);rw[hd])|(refine BndH.nat j rfl (by omega) ?_)|(refine BndH.nat i rfl (by omega) ?_)|refine Vc.stp ?_|refine Vc.spl ?_ ?_)<;>(intros;(conv=>whnf)))))
       rename_i H5 hs5 hb5 hx5 a6 c6 H6 ho6 hx6
       obtain⟨hij',ho7,hw7⟩:=fin hrun ho6
       exact⟨(j,_,a6,c6),⟨rfl,sl_snocS _ _ _ _,trivial⟩,⟨hjl,by show(out++[_]).length≤j;rw[List.length_append];show out.length+1≤j;omega,ho7,hx6,hw7⟩,by show s.length-j<s.length-i;omega⟩
    ·have hrun:runF (s.drop i)=j-i:=by rw[runF_all fun p hp=>hno p (by omega)];omega
     ((conv=>whnf);repeat(any_goals((first|(refine BndH.nat j rfl (by omega) ?_)|(refine BndH.nat i rfl (by omega) ?_)|refine Vc.stp ?_|refine Vc.spl ?_ ?_)<;>(intros;(conv=>whnf)))))
     rename_i H5 hs5 hb5 hx5 a6 c6 H6 ho6 hx6
     obtain⟨hij',ho7,hw7⟩:=fin hrun ho6
     exact⟨(j,_,a6,c6),⟨rfl,sl_snocS _ _ _ _,trivial⟩,⟨hjl,by show(out++[_]).length≤j;rw[List.length_append];show out.length+1≤j;omega,ho7,hx6,hw7⟩,by show s.length-j<s.length-i;omega⟩
  ·rw[wordsF_blank hb]at hinv
   rcases isB_num hb with m|m
   ·((conv=>whnf);repeat(any_goals((first|(refine IdxH.nat i rfl (by omega) ?_;(conv=>whnf);rw[hc])|refine Vc.stp ?_|refine Vc.spl ?_ ?_)<;>(intros;(conv=>whnf)))))
    exact⟨(i+1,out,a,cap),⟨rfl,rfl,trivial⟩,⟨by show i+1≤_;omega,by show out.length≤i+1;omega,ho2,hx2,hinv⟩,by show s.length-(i+1)<s.length-i;omega⟩
   ·((conv=>whnf);repeat(any_goals((first|(refine IdxH.nat i rfl (by omega) ?_;(conv=>whnf);rw[hc])|refine Vc.stp ?_|refine Vc.spl ?_ ?_)<;>(intros;(conv=>whnf)))))
    exact⟨(i+1,out,a,cap),⟨rfl,rfl,trivial⟩,⟨by show i+1≤_;omega,by show out.length≤i+1;omega,ho2,hx2,hinv⟩,by show s.length-(i+1)<s.length-i;omega⟩
 ·rw[List.drop_of_length_le (by omega),wordsF_nil]at hinv
  ((conv=>whnf);repeat(any_goals((first|refine Vc.stp ?_|refine Vc.spl ?_ ?_)<;>(intros;(conv=>whnf)))))
  rw[hinv]
  exact⟨⟨a,cap,by simp;rfl,by simpa using ho2⟩,hx2⟩
end Go.Proofs.YtphkaogbcfdllaaGreatDoor
namespace Go.Proofs.YtphkaogbcfdllaaGreatDoor
open Go Go.Vc Go.Scr
def lineC (k:Int) (a b tx:Bs) (n:Int) (nt:Bool):Array Value:= #[.int .i64 k,.string (mkS a),.string (mkS b),.string (mkS tx),.int .i64 n,.bool nt]
def lnC (x:Ln):Array Value:=lineC x.k x.a x.b x.tx x.n x.nt
theorem plain_cons (c:UInt8) (t:Bs):plainW (c::t)= !((c.toNat:Int)==34):=by
 unfold plainW
 rw[Bool.eq_iff_iff]
 simp only[List.head?_cons,bne_iff_ne,ne_eq,Option.some.injEq,Bool.not_eq_true',beq_eq_false_iff_ne]
 constructor
 ·intro h e;exact h (UInt8.toNat_inj.1 (by show c.toNat=34;omega))
 ·intro h e;exact h (by rw[e];rfl)
def capN:Option Nat→Option Nat
 |none=>none
 |some n=>if n≤1000 then some n else none
end Go.Proofs.YtphkaogbcfdllaaGreatDoor
namespace Go.Proofs.YtphkaogbcfdllaaGreatDoor
open Go Go.Vc Go.Scr
end Go.Proofs.YtphkaogbcfdllaaGreatDoor
namespace Go.Proofs.YtphkaogbcfdllaaGreatDoor
open Go Go.Vc Go.Scr
def natV (l:List Nat):List Value:=l.map fun(n:Nat)=>Value.int .i64 (n:Int)
theorem natV_append (l m:List Nat):natV (l++m)=natV l++natV m:=by simp[natV]
def foot (g:Nat) (a:Option Addr) (x:Nat):Prop:=x=g∨ ∃ p,a=some p∧p.block=x
structure ShO (H:Heap) (base g:Nat) (o:List Nat) (a:Option Addr) (cap:Nat):Prop where
 blk:Blk H g #[.slice a o.length cap] 298
 own:Own H base 3 1 a o.length cap (natV o)
 apart: ∀ p,a=some p→p.block≠g
 low:base≤g
theorem ShO.ext {H H':Heap} {base g:Nat} {o:List Nat} {a:Option Addr} {cap:Nat} (h:ShO H base g o a cap) (k:Ext H H'):ShO H' base g o a cap:=⟨h.blk.ext k,h.own.ext k,h.apart,h.low⟩
end Go.Proofs.YtphkaogbcfdllaaGreatDoor
namespace Go.Proofs.YtphkaogbcfdllaaGreatDoor
open Go Go.Vc Go.Scr
def lnsV (l:List Ln):List Value:=l.flatMap fun x=>(lnC x).toList
theorem lnsV_append (l m:List Ln):lnsV (l++m)=lnsV l++lnsV m:=by simp[lnsV]
theorem lnsV_length: ∀ l:List Ln,(lnsV l).length=l.length*6
 |[]=>rfl
 |x::l=>by
  have e:lnsV (x::l)=(lnC x).toList++lnsV l:=by simp[lnsV]
  rw[e,List.length_append,lnsV_length l]
  show 6+_=_
  rw[List.length_cons];omega
def parseR (H:Heap) (base:Nat) (v:Value):Option (List Ln)×Nat→Prop
 |(none,i)=>v= .tuple #[.slice none 0 0,.int .i64 i,.int .i64 66]
 |(some ls,i)=>∃ a cap,v= .tuple #[.slice a ls.length cap,.int .i64 i,.int .i64 0]∧Own H base 43 6 a ls.length cap (lnsV ls)
def Apart (a b:Option Addr):Prop:=∀ p q,a=some p→b=some q→p.block≠q.block
structure PSt where
 i:Nat
 out:List Ln
 ao:Option Addr
 co:Nat
 o:List Nat
 a:Option Addr
 cap:Nat
theorem lnsV_get: ∀ (L:List Ln) (j:Nat) (x:Ln) (k:Nat) (v:Value),L[j]? =some x→(lnC x)[k]? =some v→(lnsV L)[j*6+k]? =some v
 |[],j,x,k,v,h,_=>by simp at h
 |y::L,0,x,k,v,h,hv=>by
  simp only[List.getElem?_cons_zero,Option.some.injEq]at h
  subst h
  have hk:k<6:=(Array.getElem?_eq_some_iff.1 hv).1
  have e:lnsV (y::L)=(lnC y).toList++lnsV L:=by simp[lnsV]
  rw[e,Nat.zero_mul,Nat.zero_add,List.getElem?_append_left (by show k<6;exact hk)]
  simpa using hv
 |y::L,j+1,x,k,v,h,hv=>by
  have e:lnsV (y::L)=(lnC y).toList++lnsV L:=by simp[lnsV]
  have hl:(lnC y).toList.length=6:=rfl
  rw[e,List.getElem?_append_right (by rw[hl];omega),hl,show(j+1)*6+k-6=j*6+k by omega]
  exact lnsV_get L j x k v (by simpa using h) hv
theorem IdxA.ln {H:Heap} {a:Option Addr} {L:List Ln} {n:Nat} {i:Int} {K:Addr→Prop} (h:Row H a (lnsV L)) (hn:L.length=n) (j:Nat) (x:Ln) (hi:i=j) (hx:L[j]? =some x)
  (hk: ∀ b o,(∀ k v,(lnC x)[k]? =some v→hcell H ⟨b,o+k,none⟩=some v)→K ⟨b,o,none⟩):IdxA a n 6 i K:=by
 have hj:=(List.getElem?_eq_some_iff.1 hx).1
 refine Go.Vc.IdxA.row (size:=6) h (by rw[lnsV_length,hn]) (by decide) j hi (by omega) fun b o h1 h2 h3=> ?_
 exact hk b (o+j*6) fun k v hv=>h3 k v (lnsV_get L j x k v hx hv)
theorem SemH.load_ln {H H0:Heap} {b o:Nat} {x:Ln} {K:Value→Heap→Prop} (hc: ∀ k v,(lnC x)[k]? =some v→hcell H0 ⟨b,o+k,none⟩=some v) (he:Ext H0 H) (hk:K (.agg (lnC x)) H):SemH Tryz.prog (Instr.loadAt 43 (.pointer (some ⟨b,o,none⟩))) H K:=by
 have:=Go.Vc.SemH.load_agg (P:=Tryz.prog) (t:=43) (H:=H) (b:=b) (o:=o) (vs:=(lnC x).toList) (K:=K) rfl rfl rfl (fun j v hv=>hcell_keep (hc j v (by simpa using hv)) he id) hk
 exact this
end Go.Proofs.YtphkaogbcfdllaaGreatDoor
namespace Go.Blk
open Go.Scr
def endsG:List Nat→Nat→Option Nat→Nat→Option Nat×Nat
 |[],_,e,i=>(e,i)
 |k::r,d,e,i=>
  if k=7∨k=8 then endsG r (d+1) e (i+1)
  else if k=9 then endsG r d (if d=0 then some i else e) (i+1)
  else if k=10 then(if d=0 then(e,i)else endsG r (d-1) e (i+1))
  else endsG r d e (i+1)
def endsF (K:List Nat) (h:Nat):Option Nat×Nat:=endsG (K.drop (h+1)) 0 none (h+1)
def stS (s:List (Nat×Nat)) (k i:Nat):List (Nat×Nat):=
 if k=7∨k=8 then(i,i)::s
 else if k=9 then(match s with|[]=>[]|(h,_)::t=>(h,i)::t)
 else if k=10 then s.tail
 else s
def stF (K:List Nat):Nat→List (Nat×Nat)
 |0=>[]
 |i+1=>match K[i]? with
  |some k=>stS (stF K i) k i
  |none=>stF K i
theorem stF_succ {K:List Nat} {i k:Nat} (h:K[i]? =some k):stF K (i+1)=stS (stF K i) k i:=by rw[stF,h]
def nestG:List Nat→List Nat→Option (List Nat)
 |[],o=>some o
 |k::r,o=>match takeF o k with
  |none=>none
  |some o'=>nestG r o'
def Nested (K:List Nat):Prop:=nestG K []=some []
theorem nestG_append: ∀ (l m o:List Nat),nestG (l++m) o=match nestG l o with|none=>none|some o'=>nestG m o'
 |[],m,o=>rfl
 |k::l,m,o=>by
  rw[List.cons_append,nestG,nestG]
  cases takeF o k with
  |none=>rfl
  |some o'=>exact nestG_append l m o'
theorem endsG_ge: ∀ (r:List Nat) (d:Nat) (e:Option Nat) (i:Nat),i≤(endsG r d e i).2
 |[],_,_,i=>Nat.le_refl _
 |k::r,d,e,i=>by
  unfold endsG
  split
  ·have:=endsG_ge r (d+1) e (i+1);omega
  split
  ·have:=endsG_ge r d (if d=0 then some i else e) (i+1);omega
  split
  ·split
   ·exact Nat.le_refl _
   ·have:=endsG_ge r (d-1) e (i+1);omega
  ·have:=endsG_ge r d e (i+1);omega
theorem endsG_els: ∀ (r:List Nat) (d:Nat) (e e':Option Nat) (i:Nat),(endsG r d e i).2=(endsG r d e' i).2
 |[],_,_,_,i=>rfl
 |k::r,d,e,e',i=>by
  unfold endsG
  split
  ·exact endsG_els r _ _ _ _
  split
  ·exact endsG_els r _ _ _ _
  split
  ·split
   ·rfl
   ·exact endsG_els r _ _ _ _
  ·exact endsG_els r _ _ _ _
def mark (K:List Nat) (p:Nat×Nat):Nat:=if p.2=p.1 then K.getD p.1 0 else 9
structure Inv (K:List Nat) (i:Nat) (o:List Nat):Prop where
 marks:o.reverse=(stF K i).map (mark K)
 lt: ∀ p∈stF K i,p.1<i∧p.2<i∧p.1≤p.2
 head: ∀ p∈stF K i,K[p.1]? =some 7∨K[p.1]? =some 8
 els: ∀ p∈stF K i,p.2≠p.1→K[p.2]? =some 9∧K[p.1]? =some 7
 ends: ∀ j p,(stF K i)[j]? =some p→endsF K p.1=endsG (K.drop i) j (if p.2=p.1 then none else some p.2) i
 ende: ∀ j p,(stF K i)[j]? =some p→p.2≠p.1→(endsF K p.2).2=(endsG (K.drop i) j none i).2
 down:((stF K i).map (·.1)).Pairwise (· > ·)
 done: ∀ y k,y<i→K[y]? =some k→k=7∨k=8∨k=9→(∃ p∈stF K i,p.1=y∨p.2=y)∨(endsF K y).2<i
theorem Inv.zero (K:List Nat):Inv K 0 []:=
 ⟨rfl,fun p hp=>by simp[stF]at hp,fun p hp=>by simp[stF]at hp,fun p hp=>by simp[stF]at hp,fun j p h=>by simp[stF]at h,fun j p h=>by simp[stF]at h,List.Pairwise.nil,fun y k h=>by omega⟩
theorem drop_cons {K:List Nat} {i k:Nat} (h:K[i]? =some k):K.drop i=k::K.drop (i+1):=by
 have hl:=(List.getElem?_eq_some_iff.1 h).1
 rw[List.drop_eq_getElem_cons hl]
 congr 1
 exact(List.getElem?_eq_some_iff.1 h).2
theorem Inv.step {K:List Nat} {i k:Nat} {o o':List Nat} (h:Inv K i o) (hk:K[i]? =some k) (ht:takeF o k=some o'):Inv K (i+1) o':=by
 have hs:=stF_succ hk
 have hd:=drop_cons hk
 have hgd:K.getD i 0=k:=by rw[List.getD_eq_getElem?_getD,hk];rfl
 unfold takeF at ht
 by_cases h1:k=7∨k=8
 ·rw[if_pos h1]at ht
  split at ht
  ·cases ht
  cases ht
  have hs:stF K (i+1)=(i,i)::stF K i:=by rw[hs];unfold stS;rw[if_pos h1]
  refine⟨?_,?_,?_,?_,?_,?_,?_,?_⟩
  ·rw[hs,List.reverse_append,List.map_cons,←h.marks]
   show _=(if i=i then K.getD i 0 else 9)::_
   rw[if_pos rfl,hgd];rfl
  ·intro p hp
   rw[hs]at hp
   rcases List.mem_cons.1 hp with rfl|hp
   ·exact⟨by simp,by simp,by simp⟩
   ·have:=h.lt p hp;omega
  ·intro p hp
   rw[hs]at hp
   rcases List.mem_cons.1 hp with rfl|hp
   ·rw[hk];rcases h1 with rfl|rfl<;>simp
   ·exact h.head p hp
  ·intro p hp hne
   rw[hs]at hp
   rcases List.mem_cons.1 hp with rfl|hp
   ·exact absurd rfl hne
   ·exact h.els p hp hne
  ·intro j p hp
   rw[hs]at hp
   cases j with
   |zero=>
    simp only[List.getElem?_cons_zero,Option.some.injEq]at hp
    subst hp
    rw[if_pos rfl];rfl
   |succ j=>
    have:=h.ends j p (by simpa using hp)
    rw[this,hd,endsG,if_pos h1]
  ·intro j p hp hne
   rw[hs]at hp
   cases j with
   |zero=>
    simp only[List.getElem?_cons_zero,Option.some.injEq]at hp
    subst hp
    exact absurd rfl hne
   |succ j=>
    have:=h.ende j p (by simpa using hp) hne
    rw[this,hd,endsG,if_pos h1]
  ·rw[hs,List.map_cons]
   refine List.pairwise_cons.2 ⟨fun y hy=> ?_,h.down⟩
   obtain⟨p,hp,rfl⟩:=List.mem_map.1 hy
   exact(h.lt p hp).1
  ·intro y k' hy hky hk'
   rw[hs]
   rcases Nat.lt_or_ge y i with hlt|hge
   ·rcases h.done y k' hlt hky hk' with ⟨p,hp,e⟩|hlt'
    ·exact .inl ⟨p,List.mem_cons_of_mem _ hp,e⟩
    ·exact .inr (by omega)
   ·exact .inl ⟨(i,i),by simp,.inl (by dsimp only;omega)⟩
 rw[if_neg h1]at ht
 by_cases h2:k=9
 ·rw[if_pos h2]at ht
  split at ht
  ·rename_i hlast
   cases ht
   have hm:=h.marks
   cases hst:stF K i with
   |nil=>
    rw[hst,List.map_nil,List.reverse_eq_nil_iff]at hm
    rw[hm]at hlast;cases hlast
   |cons p t=>
    obtain⟨hh,x⟩:=p
    have hs:stF K (i+1)=(hh,i)::t:=by rw[hs,hst];unfold stS;rw[if_neg h1,if_pos h2]
    rw[hst,List.map_cons]at hm
    have ho:o=(t.map (mark K)).reverse++[mark K (hh,x)]:=by
     rw[←List.reverse_reverse o,hm,List.reverse_cons]
    have hmk:mark K (hh,x)=7:=by
     rw[ho,List.getLast?_append]at hlast
     simpa using hlast
    have hlt:=h.lt (hh,x) (by rw[hst];simp)
    have hhd:=h.head (hh,x) (by rw[hst];simp)
    have hx:x=hh:=by
     unfold mark at hmk
     dsimp only at hmk
     split at hmk
     ·assumption
     ·cases hmk
    subst hx
    have h7:K[x]? =some 7:=by
     unfold mark at hmk
     rw[if_pos rfl]at hmk
     rcases hhd with hh|hh
     ·exact hh
     ·dsimp only at hh hmk
      rw[List.getD_eq_getElem?_getD,hh]at hmk;cases hmk
    dsimp only at hlt
    have hne:i≠x:=by omega
    refine⟨?_,?_,?_,?_,?_,?_,?_,?_⟩
    ·rw[hs,List.reverse_append,ho]
     simp[mark,hne]
    ·intro p hp
     rw[hs]at hp
     rcases List.mem_cons.1 hp with rfl|hp
     ·dsimp only;omega
     ·have:=h.lt p (by rw[hst];exact List.mem_cons_of_mem _ hp);omega
    ·intro p hp
     rw[hs]at hp
     rcases List.mem_cons.1 hp with rfl|hp
     ·exact .inl h7
     ·exact h.head p (by rw[hst];exact List.mem_cons_of_mem _ hp)
    ·intro p hp hn
     rw[hs]at hp
     rcases List.mem_cons.1 hp with rfl|hp
     ·exact⟨by rw[←h2];exact hk,h7⟩
     ·exact h.els p (by rw[hst];exact List.mem_cons_of_mem _ hp) hn
    ·intro j p hp
     rw[hs]at hp
     cases j with
     |zero=>
      simp only[List.getElem?_cons_zero,Option.some.injEq]at hp
      subst hp
      have:=h.ends 0 (x,x) (by rw[hst];rfl)
      dsimp only at this ⊢
      rw[if_pos rfl,hd,endsG,if_neg h1,if_pos h2,if_pos rfl]at this
      rw[if_neg hne];exact this
     |succ j=>
      have:=h.ends (j+1) p (by rw[hst];simpa using hp)
      rw[this,hd,endsG,if_neg h1,if_pos h2,if_neg (by omega)]
    ·intro j p hp hn
     rw[hs]at hp
     cases j with
     |zero=>
      simp only[List.getElem?_cons_zero,Option.some.injEq]at hp
      subst hp
      rfl
     |succ j=>
      have:=h.ende (j+1) p (by rw[hst];simpa using hp) hn
      rw[this,hd,endsG,if_neg h1,if_pos h2,if_neg (by omega)]
    ·have:=h.down
     rw[hst]at this
     rw[hs];exact this
    ·intro y k' hy hky hk'
     rw[hs]
     rcases Nat.lt_or_ge y i with hlt|hge
     ·rcases h.done y k' hlt hky hk' with ⟨p,hp,e⟩|hlt'
      ·rw[hst]at hp
       rcases List.mem_cons.1 hp with rfl|hp
       ·exact .inl ⟨(x,i),by simp,.inl (by rcases e with e|e<;>exact e)⟩
       ·exact .inl ⟨p,List.mem_cons_of_mem _ hp,e⟩
      ·exact .inr (by omega)
     ·exact .inl ⟨(x,i),by simp,.inr (by dsimp only;omega)⟩
  ·cases ht
 rw[if_neg h2]at ht
 by_cases h3:k=10
 ·rw[if_pos h3]at ht
  split at ht
  ·cases ht
  rename_i hone
  cases ht
  have hm:=h.marks
  cases hst:stF K i with
  |nil=>
   rw[hst,List.map_nil,List.reverse_eq_nil_iff]at hm
   exact absurd hm hone
  |cons p t=>
   have hs:stF K (i+1)=t:=by rw[hs,hst];unfold stS;rw[if_neg h1,if_neg h2,if_pos h3];rfl
   rw[hst,List.map_cons]at hm
   have ho:o=(t.map (mark K)).reverse++[mark K p]:=by
    rw[←List.reverse_reverse o,hm,List.reverse_cons]
   have hmem: ∀ q∈t,q∈stF K i:=fun q hq=>by rw[hst];exact List.mem_cons_of_mem _ hq
   refine⟨?_,?_,?_,?_,?_,?_,?_,?_⟩
   ·rw[hs,ho,List.dropLast_concat,List.reverse_reverse]
   ·intro q hq
    rw[hs]at hq
    have:=h.lt q (hmem q hq);omega
   ·intro q hq;rw[hs]at hq;exact h.head q (hmem q hq)
   ·intro q hq;rw[hs]at hq;exact h.els q (hmem q hq)
   ·intro j q hq
    rw[hs]at hq
    have:=h.ends (j+1) q (by rw[hst];simpa using hq)
    rw[this,hd,endsG,if_neg h1,if_neg h2,if_pos h3,if_neg (by omega),Nat.add_sub_cancel]
   ·intro j q hq hn
    rw[hs]at hq
    have:=h.ende (j+1) q (by rw[hst];simpa using hq) hn
    rw[this,hd,endsG,if_neg h1,if_neg h2,if_pos h3,if_neg (by omega),Nat.add_sub_cancel]
   ·have:=h.down
    rw[hst,List.map_cons]at this
    rw[hs];exact(List.pairwise_cons.1 this).2
   ·intro y k' hy hky hk'
    rw[hs]
    rcases Nat.lt_or_ge y i with hlt|hge
    ·rcases h.done y k' hlt hky hk' with ⟨q,hq,e⟩|hlt'
     ·rw[hst]at hq
      rcases List.mem_cons.1 hq with rfl|hq
      ·refine .inr ?_
       have e0:=h.ends 0 q (by rw[hst];rfl)
       rw[hd,endsG,if_neg h1,if_neg h2,if_pos h3,if_pos rfl]at e0
       rcases e with rfl|rfl
       ·rw[e0];dsimp only;omega
       ·by_cases hqq:q.2=q.1
        ·rw[hqq,e0];dsimp only;omega
        ·have e1:=h.ende 0 q (by rw[hst];rfl) hqq
         rw[hd,endsG,if_neg h1,if_neg h2,if_pos h3,if_pos rfl]at e1
         rw[e1];dsimp only;omega
      ·exact .inl ⟨q,hq,e⟩
     ·exact .inr (by omega)
    ·obtain rfl:y=i:=by omega
     rw[hk]at hky;cases hky
     omega
 rw[if_neg h3]at ht
 cases ht
 have hs:stF K (i+1)=stF K i:=by rw[hs];unfold stS;rw[if_neg h1,if_neg h2,if_neg h3]
 refine⟨by rw[hs];exact h.marks,?_,by rw[hs];exact h.head,by rw[hs];exact h.els,?_,?_,by rw[hs];exact h.down,?_⟩
 ·intro p hp
  rw[hs]at hp
  have:=h.lt p hp;omega
 ·intro j p hp
  rw[hs]at hp
  rw[h.ends j p hp,hd,endsG,if_neg h1,if_neg h2,if_neg h3]
 ·intro j p hp hn
  rw[hs]at hp
  rw[h.ende j p hp hn,hd,endsG,if_neg h1,if_neg h2,if_neg h3]
 ·intro y k' hy hky hk'
  rw[hs]
  rcases Nat.lt_or_ge y i with hlt|hge
  ·rcases h.done y k' hlt hky hk' with hp|hlt'
   ·exact .inl hp
   ·exact .inr (by omega)
  ·obtain rfl:y=i:=by omega
   rw[hk]at hky;cases hky
   omega
theorem inv_at {K:List Nat} (hn:Nested K): ∀ i,i≤K.length→ ∃ o,Inv K i o∧nestG (K.drop i) o=some []
 |0,_=>⟨[],Inv.zero K,by rw[List.drop_zero];exact hn⟩
 |i+1,hi=>by
  obtain⟨o,h,hr⟩:=inv_at hn i (by omega)
  have hk:K[i]? =some K[i]:=List.getElem?_eq_getElem (by omega)
  rw[drop_cons hk,nestG]at hr
  cases ht:takeF o K[i]with
  |none=>rw[ht]at hr;cases hr
  |some o'=>rw[ht]at hr;exact⟨o',h.step hk ht,hr⟩
theorem st_end {K:List Nat} (hn:Nested K):stF K K.length=[]:=by
 obtain⟨o,h,hr⟩:=inv_at hn K.length (Nat.le_refl _)
 rw[List.drop_length,nestG,Option.some.injEq]at hr
 have:=h.marks
 rw[hr]at this
 simpa using this.symm
theorem ends_lt {K:List Nat} (hn:Nested K) {y k:Nat} (hk:K[y]? =some k) (h:k=7∨k=8∨k=9):(endsF K y).2<K.length:=by
 obtain⟨o,hi,_⟩:=inv_at hn K.length (Nat.le_refl _)
 rcases hi.done y k (List.getElem?_eq_some_iff.1 hk).1 hk h with ⟨p,hp,_⟩|h
 ·rw[st_end hn]at hp;cases hp
 ·exact h
def hdF (K:List Nat) (i:Nat):List Nat:=(stF K i).map (·.1)
theorem hd_open {K:List Nat} {h k:Nat} (hk:K[h]? =some k) (h1:k=7∨k=8):hdF K (h+1)=h::hdF K h:=by
 unfold hdF
 rw[stF_succ hk];unfold stS;rw[if_pos h1];rfl
theorem hd_else {K:List Nat} {h:Nat} (hk:K[h]? =some 9):hdF K (h+1)=hdF K h:=by
 unfold hdF
 rw[stF_succ hk];unfold stS;rw[if_neg (by decide),if_pos rfl]
 cases stF K h with
 |nil=>rfl
 |cons p t=>rfl
theorem hd_end {K:List Nat} {h:Nat} (hk:K[h]? =some 10):hdF K (h+1)=(hdF K h).tail:=by
 unfold hdF
 rw[stF_succ hk];unfold stS;rw[if_neg (by decide),if_neg (by decide),if_pos rfl]
 cases stF K h with
 |nil=>rfl
 |cons p t=>rfl
theorem hd_other {K:List Nat} {h k:Nat} (hk:K[h]? =some k) (h1: ¬(k=7∨k=8)) (h2:k≠9) (h3:k≠10):hdF K (h+1)=hdF K h:=by
 unfold hdF
 rw[stF_succ hk];unfold stS;rw[if_neg h1,if_neg h2,if_neg h3]
theorem scan {K:List Nat} {h:Nat}: ∀ (n i d:Nat) (e:Option Nat) (up:List Nat),K.length-i≤n→up.length=d→hdF K i=up++h::hdF K h→(∀ x,e=some x→K[x]? =some 9∧hdF K x=h::hdF K h)→
  ((endsG (K.drop i) d e i).2<K.length→K[(endsG (K.drop i) d e i).2]? =some 10∧hdF K (endsG (K.drop i) d e i).2=h::hdF K h)∧
  (∀ x,(endsG (K.drop i) d e i).1=some x→K[x]? =some 9∧hdF K x=h::hdF K h):=by
 intro n
 induction n with
 |zero=>
  intro i d e up hn hu hh he
  rw[List.drop_of_length_le (by omega)]
  exact⟨fun hl=>by rw[endsG]at hl;dsimp only at hl;omega,he⟩
 |succ n ih=>
  intro i d e up hn hu hh he
  rcases Nat.lt_or_ge i K.length with hl|hl
  ·have hk:K[i]? =some K[i]:=List.getElem?_eq_getElem hl
   generalize K[i]=k at hk
   rw[drop_cons hk,endsG]
   by_cases h1:k=7∨k=8
   ·rw[if_pos h1]
    exact ih (i+1) (d+1) e (i::up) (by omega) (by rw[List.length_cons,hu]) (by rw[hd_open hk h1,hh];rfl) he
   rw[if_neg h1]
   by_cases h2:k=9
   ·rw[if_pos h2]
    subst h2
    refine ih (i+1) d _ up (by omega) hu (by rw[hd_else hk,hh]) fun x hx=> ?_
    split at hx
    ·rename_i h0
     cases hx
     rw[h0]at hu
     rw[List.length_eq_zero_iff.1 hu]at hh
     exact⟨hk,hh⟩
    ·exact he x hx
   rw[if_neg h2]
   by_cases h3:k=10
   ·rw[if_pos h3]
    subst h3
    by_cases h0:d=0
    ·rw[if_pos h0]
     rw[h0]at hu
     rw[List.length_eq_zero_iff.1 hu]at hh
     exact⟨fun _=>⟨hk,hh⟩,he⟩
    ·rw[if_neg h0]
     cases up with
     |nil=>exact absurd hu.symm h0
     |cons u up=>
      exact ih (i+1) (d-1) e up (by omega) (by rw[List.length_cons]at hu;omega) (by rw[hd_end hk,hh];rfl) he
   ·rw[if_neg h3]
    exact ih (i+1) d e up (by omega) hu (by rw[hd_other hk h1 h2 h3,hh]) he
  ·rw[List.drop_of_length_le (by omega)]
   exact⟨fun hl=>by rw[endsG]at hl;dsimp only at hl;omega,he⟩
structure Ends (K:List Nat) (h:Nat):Prop where
 lt:(endsF K h).2<K.length
 kind:K[(endsF K h).2]? =some 10
 hd:hdF K (endsF K h).2=h::hdF K h
 behind:hdF K ((endsF K h).2+1)=hdF K h
 els: ∀ x,(endsF K h).1=some x→K[x]? =some 9∧hdF K (x+1)=h::hdF K h
theorem ends_of {K:List Nat} (hn:Nested K) {h k:Nat} (hk:K[h]? =some k) (h1:k=7∨k=8):Ends K h:=by
 have hlt:=ends_lt hn hk (by omega)
 obtain⟨s1,s2⟩:=scan (K:=K) (h:=h) K.length (h+1) 0 none [] (by omega) rfl (by rw[hd_open hk h1];rfl) (fun x hx=>by cases hx)
 obtain⟨e1,e2⟩:K[(endsF K h).2]? =some 10∧hdF K (endsF K h).2=h::hdF K h:=s1 hlt
 refine⟨hlt,e1,e2,?_,fun x hx=> ?_⟩
 ·rw[hd_end e1,e2];rfl
 ·obtain⟨f1,f2⟩:=s2 x hx
  exact⟨f1,by rw[hd_else f1,f2]⟩
structure EndE (K:List Nat) (x:Nat):Prop where
 lt:(endsF K x).2<K.length
 kind:K[(endsF K x).2]? =some 10
 hd:hdF K (endsF K x).2=hdF K x
theorem ende_of {K:List Nat} (hn:Nested K) {x:Nat} (hk:K[x]? =some 9):EndE K x:=by
 have hlt:=ends_lt hn hk (by omega)
 have hxl:=(List.getElem?_eq_some_iff.1 hk).1
 obtain⟨o,hi,hr⟩:=inv_at hn x (by omega)
 cases hst:hdF K x with
 |nil=>
  exfalso
  rw[drop_cons hk,nestG]at hr
  unfold takeF at hr
  rw[if_neg (by decide),if_pos rfl]at hr
  have hm:=hi.marks
  unfold hdF at hst
  rw[List.map_eq_nil_iff]at hst
  rw[hst,List.map_nil,List.reverse_eq_nil_iff]at hm
  rw[hm]at hr
  cases hr
 |cons h t=>
  have hdx:hdF K (x+1)=h::t:=by rw[hd_else hk,hst]
  have key: ∀ (n i d:Nat) (up:List Nat),K.length-i≤n→up.length=d→hdF K i=up++h::t→(endsG (K.drop i) d none i).2<K.length→K[(endsG (K.drop i) d none i).2]? =some 10∧hdF K (endsG (K.drop i) d none i).2=h::t:=by
   intro n
   induction n with
   |zero=>
    intro i d up hn hu hh hl
    rw[List.drop_of_length_le (by omega),endsG]at hl
    dsimp only at hl;omega
   |succ n ih=>
    intro i d up hn hu hh hl
    rcases Nat.lt_or_ge i K.length with hlt|hge
    ·have hk:K[i]? =some K[i]:=List.getElem?_eq_getElem hlt
     generalize K[i]=k at hk
     rw[drop_cons hk,endsG]at hl ⊢
     by_cases h1:k=7∨k=8
     ·rw[if_pos h1]at hl ⊢
      exact ih (i+1) (d+1) (i::up) (by omega) (by rw[List.length_cons,hu]) (by rw[hd_open hk h1,hh];rfl) hl
     rw[if_neg h1]at hl ⊢
     by_cases h2:k=9
     ·rw[if_pos h2]at hl ⊢
      subst h2
      rw[endsG_els _ _ _ none]at hl ⊢
      exact ih (i+1) d up (by omega) hu (by rw[hd_else hk,hh]) hl
     rw[if_neg h2]at hl ⊢
     by_cases h3:k=10
     ·rw[if_pos h3]at hl ⊢
      subst h3
      by_cases h0:d=0
      ·rw[if_pos h0]
       rw[h0]at hu
       rw[List.length_eq_zero_iff.1 hu]at hh
       exact⟨hk,hh⟩
      ·rw[if_neg h0]at hl ⊢
       cases up with
       |nil=>exact absurd hu.symm h0
       |cons u up=>
        exact ih (i+1) (d-1) up (by omega) (by rw[List.length_cons]at hu;omega) (by rw[hd_end hk,hh];rfl) hl
     ·rw[if_neg h3]at hl ⊢
      exact ih (i+1) d up (by omega) hu (by rw[hd_other hk h1 h2 h3,hh]) hl
    ·rw[List.drop_of_length_le (by omega),endsG]at hl
     dsimp only at hl;omega
  obtain⟨k1,k2⟩:=key K.length (x+1) 0 [] (by omega) rfl hdx hlt
  exact⟨hlt,k1,by rw[hst];exact k2⟩
theorem end_head {K:List Nat} (hn:Nested K) {y:Nat} (hk:K[y]? =some 10): ∃ h t,hdF K y=h::t∧(endsF K h).2=y∧(K[h]? =some 7∨K[h]? =some 8)∧ ∀ g∈t,y<(endsF K g).2:=by
 have hyl:=(List.getElem?_eq_some_iff.1 hk).1
 obtain⟨o,hi,hr⟩:=inv_at hn y (by omega)
 have hd:=drop_cons hk
 cases hst:stF K y with
 |nil=>
  exfalso
  rw[hd,nestG]at hr
  have hm:=hi.marks
  rw[hst,List.map_nil,List.reverse_eq_nil_iff]at hm
  rw[hm]at hr
  unfold takeF at hr
  rw[if_neg (by decide),if_neg (by decide),if_pos rfl,if_pos rfl]at hr
  cases hr
 |cons p t=>
  refine⟨p.1,t.map (·.1),by unfold hdF;rw[hst];rfl,?_,hi.head p (by rw[hst];simp),fun g hg=> ?_⟩
  ·rw[hi.ends 0 p (by rw[hst];rfl),hd,endsG,if_neg (by decide),if_neg (by decide),if_pos rfl,if_pos rfl]
  ·obtain⟨q,hq,rfl⟩:=List.mem_map.1 hg
   obtain⟨j,hj⟩:=List.getElem?_of_mem hq
   rw[hi.ends (j+1) q (by rw[hst];simpa using hj),hd,endsG,if_neg (by decide),if_neg (by decide),if_pos rfl,if_neg (by omega)]
   have:=endsG_ge (K.drop (y+1)) (j+1-1) (if q.2=q.1 then none else some q.2) (y+1)
   omega
theorem hd_lt {K:List Nat} (hn:Nested K) {i:Nat} (hi:i≤K.length): ∀ g∈hdF K i,g<i:=by
 obtain⟨o,h,_⟩:=inv_at hn i hi
 intro g hg
 obtain⟨p,hp,rfl⟩:=List.mem_map.1 hg
 exact(h.lt p hp).1
theorem hd_down {K:List Nat} (hn:Nested K) {i:Nat} (hi:i≤K.length):(hdF K i).Pairwise (· > ·):=by
 obtain⟨o,h,_⟩:=inv_at hn i hi
 exact h.down
end Go.Blk
namespace Go.Run
open Go.Scr Go.Pth Go.Tre Go.Blk
open Go.Vc (mget mput)
abbrev Vars:=List (Txt×Txt)
def lowB (c:UInt8):Bool:=decide (97≤c.toNat∧c.toNat≤122)
def digB (c:UInt8):Bool:=decide (48≤c.toNat∧c.toNat≤57)
def nameN:Txt→Nat
 |[]=>0
 |c::t=>if lowB c then 1+(t.takeWhile fun x=>lowB x || digB x).length else 0
theorem takeWhile_len {p:UInt8→Bool}: ∀ l:Txt,(l.takeWhile p).length≤l.length
 |[]=>Nat.le_refl _
 |c::t=>by
  rw[List.takeWhile_cons]
  split
  ·have:=takeWhile_len (p:=p) t;simp only[List.length_cons];omega
  ·simp
theorem nameN_le (s:Txt):nameN s≤s.length:=by
 cases s with
 |nil=>exact Nat.le_refl _
 |cons c t=>
  show(if lowB c=true then 1+(t.takeWhile fun x=>lowB x || digB x).length else 0)≤_
  split
  ·have:=takeWhile_len (p:=fun x=>lowB x || digB x) t;rw[List.length_cons];omega
  ·simp
def isName (s:Txt):Bool:=decide (s≠ []∧nameN s=s.length)
def getV (V:Vars) (k:Txt):Txt:=(mget V k).getD []
def fillN:Nat→Vars→Txt→Txt
 |_,_,[]=>[]
 |0,_,_=>[]
 |n+1,V,c::t=>
  if c≠36 then c::fillN n V t
  else if nameN t≠0 then getV V (t.take (nameN t))++fillN n V (t.drop (nameN t))
  else if t.head? =some 36 then 36::fillN n V t.tail
  else 36::fillN n V t
def fillF (V:Vars) (s:Txt):Txt:=fillN s.length V s
theorem fillN_big (V:Vars): ∀ (n m:Nat) (s:Txt),s.length≤n→s.length≤m→fillN n V s=fillN m V s
 |n,m,[],_,_=>by cases n<;>cases m<;>rfl
 |0,m,c::t,h,_=>by simp at h
 |n+1,0,c::t,_,h=>by simp at h
 |n+1,m+1,c::t,h1,h2=>by
  simp only[List.length_cons]at h1 h2
  unfold fillN
  split
  ·rw[fillN_big V n m t (by omega) (by omega)]
  split
  ·rw[fillN_big V n m _ (by rw[List.length_drop];omega) (by rw[List.length_drop];omega)]
  split
  ·rw[fillN_big V n m _ (by rw[List.length_tail];omega) (by rw[List.length_tail];omega)]
  ·rw[fillN_big V n m t (by omega) (by omega)]
theorem fillF_nil (V:Vars):fillF V []=[]:=rfl
theorem fillF_cons (V:Vars) (c:UInt8) (t:Txt):fillF V (c::t)=if c≠36 then c::fillF V t
  else if nameN t≠0 then getV V (t.take (nameN t))++fillF V (t.drop (nameN t))
  else if t.head? =some 36 then 36::fillF V t.tail
  else 36::fillF V t:=by
 show fillN (t.length+1) V (c::t)=_
 unfold fillN
 split
 ·rfl
 split
 ·rw[fillN_big V t.length _ (t.drop (nameN t)) (by rw[List.length_drop];omega) (Nat.le_refl _)];rfl
 split
 ·rw[fillN_big V t.length _ t.tail (by rw[List.length_tail];omega) (Nat.le_refl _)];rfl
 ·rfl
theorem fillN_len (V:Vars) (B:Nat) (hB:1≤B) (hV: ∀ k,(getV V k).length≤B): ∀ (n:Nat) (s:Txt),(fillN n V s).length≤B*s.length
 |n,[]=>by cases n<;>simp[fillN]
 |0,c::t=>by simp[fillN]
 |n+1,c::t=>by
  unfold fillN
  have hm:B*(c::t).length=B*t.length+B:=by rw[List.length_cons,Nat.mul_succ]
  rw[hm]
  split
  ·have:=fillN_len V B hB hV n t;rw[List.length_cons];omega
  split
  ·have h1:=fillN_len V B hB hV n (t.drop (nameN t))
   have h2:=hV (t.take (nameN t))
   have h3:B*(t.drop (nameN t)).length≤B*t.length:=Nat.mul_le_mul_left _ (by rw[List.length_drop];omega)
   rw[List.length_append];omega
  split
  ·have h1:=fillN_len V B hB hV n t.tail
   have h3:B*t.tail.length≤B*t.length:=Nat.mul_le_mul_left _ (by rw[List.length_tail];omega)
   rw[List.length_cons];omega
  ·have:=fillN_len V B hB hV n t;rw[List.length_cons];omega
theorem fillF_len (V:Vars) (B:Nat) (hB:1≤B) (hV: ∀ k,(getV V k).length≤B) (s:Txt):(fillF V s).length≤B*s.length:=fillN_len V B hB hV _ s
structure St where
 at_:Nat
 A:Tr
 V:Option Vars
 S:List (Nat×Nat)
def kindsL (L:List Ln):List Nat:=L.map (·.k)
def varsF (V:Option Vars):Vars:=V.getD []
def nextF (s:St):St:={s with at_:=s.at_+1}
def doneF (s:St) (r:Tr×Nat):St×Nat:=({s with at_:=s.at_+1,A:=r.1},r.2)
def stepP (K:List Nat) (x:Ln) (s:St):St×Nat:=
 if x.k=0 then doneF s (Tre.twoF s.A (fillF (varsF s.V) x.a) (fillF (varsF s.V) x.b) true)
 else if x.k=1 then doneF s (writeF s.A (fillF (varsF s.V) x.a) (fillF (varsF s.V) x.tx))
 else if x.k=2 then doneF s (appendF s.A (fillF (varsF s.V) x.a) (fillF (varsF s.V) x.tx))
 else if x.k=3 then doneF s (mkdirF s.A (fillF (varsF s.V) x.a))
 else if x.k=4 then doneF s (removeF s.A (fillF (varsF s.V) x.a))
 else if x.k=5 then doneF s (Tre.twoF s.A (fillF (varsF s.V) x.a) (fillF (varsF s.V) x.b) false)
 else if x.k=6 then
  if isName x.a=false then(s,72)
  else if 65536<(fillF (varsF s.V) x.tx).length then(s,55)
  else({nextF s with V:=s.V.map fun V=>mput V x.a (fillF V x.tx)},0)
 else if x.k=7 then
  if existsF s.A (fillF (varsF s.V) x.a)=x.nt then({s with at_:=match (endsF K s.at_).1 with|some e=>e+1|none=>(endsF K s.at_).2},0)
  else(nextF s,0)
 else if x.k=8 then
  if x.n=0 then({s with at_:=(endsF K s.at_).2+1},0)else({nextF s with S:=(s.at_,x.n)::s.S},0)
 else if x.k=9 then({s with at_:=(endsF K s.at_).2},0)
 else if x.k=10 then
  match s.S with
  |[]=>(nextF s,0)
  |(h,n)::S=>if(endsF K h).2=s.at_ then(if 1<n then({s with at_:=h+1,S:=(h,n-1)::S},0)else({nextF s with S:=S},0))else(nextF s,0)
 else if x.k=11 then(s,72)
 else(nextF s,0)
def runP (L:List Ln):Nat→Nat→St→(Nat×Nat)×St
 |0,u,s=>if s.at_<L.length then((u,73),s)else((u,0),s)
 |f+1,u,s=>match L[s.at_]? with
  |none=>((u,0),s)
  |some x=>if(stepP (kindsL L) x s).2=0 then runP L f (u+1) (stepP (kindsL L) x s).1 else((u+1,(stepP (kindsL L) x s).2),{(stepP (kindsL L) x s).1 with at_:=s.at_})
theorem runP_end {L:List Ln} {f u:Nat} {s:St} (h:L.length≤s.at_):runP L f u s=((u,0),s):=by
 cases f with
 |zero=>rw[runP,if_neg (by omega)]
 |succ f=>rw[runP,List.getElem?_eq_none h]
theorem runP_out {L:List Ln} {u:Nat} {s:St} (h:s.at_<L.length):runP L 0 u s=((u,73),s):=by rw[runP,if_pos h]
theorem runP_step {L:List Ln} {f u:Nat} {s:St} {x:Ln} (h:L[s.at_]? =some x):runP L (f+1) u s=if(stepP (kindsL L) x s).2=0 then runP L f (u+1) (stepP (kindsL L) x s).1 else((u+1,(stepP (kindsL L) x s).2),{(stepP (kindsL L) x s).1 with at_:=s.at_}):=by
 rw[runP,h]
theorem clean_cut (p:Txt):cleanF (p.take 65537)=cleanF p:=by
 rcases Nat.lt_or_ge 65537 p.length with h|h
 ·unfold cleanF joinP
  rw[if_pos (by rw[List.length_take];simp;omega),if_pos (by simp;omega)]
 ·rw[List.take_of_length_le h]
theorem write_cut (A:Tr) (p b:Txt):writeF A (p.take 65537) (b.take 65537)=writeF A p b:=by
 unfold writeF
 rw[clean_cut]
 split
 ·rcases Nat.lt_or_ge 65537 b.length with h|h
  ·unfold writeP
   split
   ·rfl
   ·rw[if_pos (.inl (by rw[List.length_take];omega)),if_pos (.inl (by omega))]
  ·rw[List.take_of_length_le h]
 ·rfl
theorem append_cut (A:Tr) (p b:Txt):appendF A (p.take 65537) (b.take 65537)=appendF A p b:=by
 unfold appendF
 rw[clean_cut]
 split
 ·rcases Nat.lt_or_ge 65537 b.length with h|h
  ·unfold writeP
   split
   ·rfl
   ·rw[if_pos (.inl (by rw[List.length_append,List.length_take];omega)),if_pos (.inl (by rw[List.length_append];omega))]
  ·rw[List.take_of_length_le h]
 ·rfl
theorem two_cut (A:Tr) (p q:Txt) (st:Bool):Tre.twoF A (p.take 65537) (q.take 65537) st=Tre.twoF A p q st:=by
 unfold Tre.twoF
 rw[clean_cut,clean_cut]
theorem mkdir_cut (A:Tr) (p:Txt):mkdirF A (p.take 65537)=mkdirF A p:=by unfold mkdirF;rw[clean_cut]
theorem remove_cut (A:Tr) (p:Txt):removeF A (p.take 65537)=removeF A p:=by unfold removeF;rw[clean_cut]
theorem exists_cut (A:Tr) (p:Txt):existsF A (p.take 65537)=existsF A p:=by unfold existsF;rw[clean_cut]
end Go.Run
namespace Go.Blk
open Go.Scr
structure FindI (K:List Nat) (i:Nat) (O Hd:List Nat):Prop where
 lenO:O.length=K.length
 lenH:Hd.length=K.length
 opn: ∀ y k,y<i→K[y]? =some k→k=7∨k=8→(∃ p∈stF K i,p.1=y)∨O[y]? =some ((endsF K y).1.getD (endsF K y).2)
 els: ∀ y,y<i→K[y]? =some 9→(∃ p∈stF K i,p.2=y)∨O[y]? =some (endsF K y).2
 hd: ∀ y,y<i→K[y]? =some 10→ ∀ h t,hdF K y=h::t→Hd[y]? =some h
 ent: ∀ p∈stF K i,p.2≠p.1→O[p.1]? =some p.2
structure Tables (K O Hd:List Nat):Prop where
 lenO:O.length=K.length
 lenH:Hd.length=K.length
 opn: ∀ y k,K[y]? =some k→k=7∨k=8→O[y]? =some ((endsF K y).1.getD (endsF K y).2)
 els: ∀ y,K[y]? =some 9→O[y]? =some (endsF K y).2
 hd: ∀ y,K[y]? =some 10→ ∀ h t,hdF K y=h::t→Hd[y]? =some h
theorem FindI.zero (K:List Nat):FindI K 0 (List.replicate K.length 0) (List.replicate K.length 0):=
 ⟨by simp,by simp,fun y k h=>by omega,fun y h=>by omega,fun y h=>by omega,fun p hp=>by simp[stF]at hp⟩
theorem FindI.done {K O Hd:List Nat} (hn:Nested K) (h:FindI K K.length O Hd):Tables K O Hd:=by
 have hst:=st_end hn
 refine⟨h.lenO,h.lenH,fun y k hk h1=> ?_,fun y hk=> ?_,fun y hk=>h.hd y (List.getElem?_eq_some_iff.1 hk).1 hk⟩
 ·rcases h.opn y k (List.getElem?_eq_some_iff.1 hk).1 hk h1 with ⟨p,hp,_⟩|h
  ·rw[hst]at hp;cases hp
  ·exact h
 ·rcases h.els y (List.getElem?_eq_some_iff.1 hk).1 hk with ⟨p,hp,_⟩|h
  ·rw[hst]at hp;cases hp
  ·exact h
theorem FindI.open {K O Hd:List Nat} {i k:Nat} (h:FindI K i O Hd) (hk:K[i]? =some k) (h1:k=7∨k=8):FindI K (i+1) O Hd:=by
 have hs:stF K (i+1)=(i,i)::stF K i:=by rw[stF_succ hk];unfold stS;rw[if_pos h1]
 refine⟨h.lenO,h.lenH,fun y k' hy hky hk'=> ?_,fun y hy hky=> ?_,fun y hy hky=> ?_,fun p hp hne=> ?_⟩
 ·rw[hs]
  rcases Nat.lt_or_ge y i with hlt|hge
  ·rcases h.opn y k' hlt hky hk' with ⟨p,hp,e⟩|e
   ·exact .inl ⟨p,List.mem_cons_of_mem _ hp,e⟩
   ·exact .inr e
  ·exact .inl ⟨(i,i),by simp,by dsimp only;omega⟩
 ·rw[hs]
  rcases Nat.lt_or_ge y i with hlt|hge
  ·rcases h.els y hlt hky with ⟨p,hp,e⟩|e
   ·exact .inl ⟨p,List.mem_cons_of_mem _ hp,e⟩
   ·exact .inr e
  ·exact .inl ⟨(i,i),by simp,by dsimp only;omega⟩
 ·rcases Nat.lt_or_ge y i with hlt|hge
  ·exact h.hd y hlt hky
  ·obtain rfl:y=i:=by omega
   rw[hk]at hky;cases hky;omega
 ·rw[hs]at hp
  rcases List.mem_cons.1 hp with rfl|hp
  ·exact absurd rfl hne
  ·exact h.ent p hp hne
theorem FindI.other {K O Hd:List Nat} {i k:Nat} (h:FindI K i O Hd) (hk:K[i]? =some k) (h1: ¬(k=7∨k=8)) (h2:k≠9) (h3:k≠10):FindI K (i+1) O Hd:=by
 have hs:stF K (i+1)=stF K i:=by rw[stF_succ hk];unfold stS;rw[if_neg h1,if_neg h2,if_neg h3]
 refine⟨h.lenO,h.lenH,fun y k' hy hky hk'=> ?_,fun y hy hky=> ?_,fun y hy hky=> ?_,by rw[hs];exact h.ent⟩
 ·rw[hs]
  rcases Nat.lt_or_ge y i with hlt|hge
  ·exact h.opn y k' hlt hky hk'
  ·obtain rfl:y=i:=by omega
   rw[hk]at hky;cases hky;exact absurd hk' h1
 ·rw[hs]
  rcases Nat.lt_or_ge y i with hlt|hge
  ·exact h.els y hlt hky
  ·obtain rfl:y=i:=by omega
   rw[hk]at hky;cases hky;exact absurd rfl h2
 ·rcases Nat.lt_or_ge y i with hlt|hge
  ·exact h.hd y hlt hky
  ·obtain rfl:y=i:=by omega
   rw[hk]at hky;cases hky;exact absurd rfl h3
theorem else_head {K:List Nat} (hn:Nested K) {i:Nat} (hk:K[i]? =some 9): ∃ h t,stF K i=(h,h)::t∧K[h]? =some 7∧h<i:=by
 obtain⟨o,hi,hr⟩:=inv_at hn i (by have:=(List.getElem?_eq_some_iff.1 hk).1;omega)
 rw[drop_cons hk,nestG]at hr
 unfold takeF at hr
 rw[if_neg (by decide),if_pos rfl]at hr
 have hm:=hi.marks
 cases hst:stF K i with
 |nil=>
  rw[hst,List.map_nil,List.reverse_eq_nil_iff]at hm
  rw[hm]at hr;cases hr
 |cons p t=>
  obtain⟨h,x⟩:=p
  rw[hst,List.map_cons]at hm
  have ho:o=(t.map (mark K)).reverse++[mark K (h,x)]:=by rw[←List.reverse_reverse o,hm,List.reverse_cons]
  have hlast:o.getLast? =some 7:=by
   cases hg:(if o.getLast? =some 7 then some (o.dropLast++[9])else none)with
   |none=>rw[hg]at hr;cases hr
   |some o'=>split at hg;assumption;cases hg
  have hmk:mark K (h,x)=7:=by rw[ho,List.getLast?_append]at hlast;simpa using hlast
  have hlt:=hi.lt (h,x) (by rw[hst];simp)
  have hhd:=hi.head (h,x) (by rw[hst];simp)
  unfold mark at hmk
  dsimp only at hmk hlt hhd
  split at hmk
  ·rename_i hx
   subst hx
   refine⟨x,t,rfl,?_,hlt.1⟩
   rcases hhd with hh|hh
   ·exact hh
   ·rw[List.getD_eq_getElem?_getD,hh]at hmk;cases hmk
  ·cases hmk
theorem FindI.else {K O Hd:List Nat} (hn:Nested K) {i h:Nat} {t:List (Nat×Nat)} (hf:FindI K i O Hd) (hk:K[i]? =some 9) (hst:stF K i=(h,h)::t) (h7:K[h]? =some 7) (hlt:h<i):FindI K (i+1) (O.set h i) Hd:=by
 have hs:stF K (i+1)=(h,i)::t:=by rw[stF_succ hk,hst];unfold stS;rw[if_neg (by decide),if_pos rfl]
 have hil:=(List.getElem?_eq_some_iff.1 hk).1
 obtain⟨o,hi,_⟩:=inv_at hn i (by omega)
 have hdn:=hi.down
 rw[hst,List.map_cons,List.pairwise_cons]at hdn
 refine⟨by rw[List.length_set];exact hf.lenO,hf.lenH,fun y k' hy hky hk'=> ?_,fun y hy hky=> ?_,fun y hy hky=> ?_,fun p hp hne=> ?_⟩
 ·rw[hs]
  by_cases hyh:y=h
  ·exact .inl ⟨(h,i),by simp,hyh.symm⟩
  rcases Nat.lt_or_ge y i with hlt|hge
  ·rcases hf.opn y k' hlt hky hk' with ⟨p,hp,e⟩|e
   ·rw[hst]at hp
    rcases List.mem_cons.1 hp with rfl|hp
    ·exact absurd e.symm hyh
    ·exact .inl ⟨p,List.mem_cons_of_mem _ hp,e⟩
   ·exact .inr (by rw[List.getElem?_set_ne (fun e=>hyh e.symm)];exact e)
  ·obtain rfl:y=i:=by omega
   rw[hk]at hky;cases hky;omega
 ·rw[hs]
  rcases Nat.lt_or_ge y i with hlt|hge
  ·have hyh:h≠y:=fun e=>by subst e;rw[h7]at hky;cases hky
   rcases hf.els y hlt hky with ⟨p,hp,e⟩|e
   ·rw[hst]at hp
    rcases List.mem_cons.1 hp with rfl|hp
    ·exact absurd e hyh
    ·exact .inl ⟨p,List.mem_cons_of_mem _ hp,e⟩
   ·exact .inr (by rw[List.getElem?_set_ne hyh];exact e)
  ·exact .inl ⟨(h,i),by simp,by dsimp only;omega⟩
 ·rcases Nat.lt_or_ge y i with hlt|hge
  ·exact hf.hd y hlt hky
  ·obtain rfl:y=i:=by omega
   rw[hk]at hky;cases hky
 ·rw[hs]at hp
  rcases List.mem_cons.1 hp with rfl|hp
  ·dsimp only
   rw[List.getElem?_set_self (by rw[hf.lenO];omega)]
  ·have h1:=hdn.1 p.1 (List.mem_map_of_mem hp)
   rw[List.getElem?_set_ne (by omega)]
   exact hf.ent p (by rw[hst];exact List.mem_cons_of_mem _ hp) hne
theorem end_top {K:List Nat} (hn:Nested K) {i:Nat} (hk:K[i]? =some 10): ∃ h x t,stF K i=(h,x)::t∧h<i∧x<i:=by
 obtain⟨h,t,hh,_⟩:=end_head hn hk
 obtain⟨o,hi,_⟩:=inv_at hn i (by have:=(List.getElem?_eq_some_iff.1 hk).1;omega)
 cases hst:stF K i with
 |nil=>unfold hdF at hh;rw[hst]at hh;cases hh
 |cons p t=>
  have:=hi.lt p (by rw[hst];simp)
  exact⟨p.1,p.2,t,rfl,this.1,this.2.1⟩
theorem FindI.end {K O Hd:List Nat} (hn:Nested K) {i h x:Nat} {t:List (Nat×Nat)} (hf:FindI K i O Hd) (hk:K[i]? =some 10) (hst:stF K i=(h,x)::t):FindI K (i+1) (O.set x i) (Hd.set i h):=by
 have hs:stF K (i+1)=t:=by rw[stF_succ hk,hst];unfold stS;rw[if_neg (by decide),if_neg (by decide),if_pos rfl];rfl
 have hil:=(List.getElem?_eq_some_iff.1 hk).1
 have hd:=drop_cons hk
 obtain⟨o,hi,_⟩:=inv_at hn i (by omega)
 have hdn:=hi.down
 rw[hst,List.map_cons,List.pairwise_cons]at hdn
 have hm0:(h,x)∈stF K i:=by rw[hst];simp
 have hmt: ∀ p∈t,p∈stF K i:=fun p hp=>by rw[hst];exact List.mem_cons_of_mem _ hp
 have hlt:=hi.lt (h,x) hm0
 have hh:=hi.head (h,x) hm0
 have hx9:=hi.els (h,x) hm0
 have he:=hi.ends 0 (h,x) (by rw[hst];rfl)
 rw[hd,endsG,if_neg (by decide),if_neg (by decide),if_pos rfl,if_pos rfl]at he
 have hee:=hi.ende 0 (h,x) (by rw[hst];rfl)
 rw[hd,endsG,if_neg (by decide),if_neg (by decide),if_pos rfl,if_pos rfl]at hee
 dsimp only at hlt hh hx9 he hee
 have hxO:x<O.length:=by rw[hf.lenO];omega
 refine⟨by rw[List.length_set];exact hf.lenO,by rw[List.length_set];exact hf.lenH,fun y k' hy hky hk'=> ?_,fun y hy hky=> ?_,fun y hy hky=> ?_,fun p hp hne=> ?_⟩
 ·rw[hs]
  by_cases hyh:y=h
  ·subst hyh
   refine .inr ?_
   rw[he]
   by_cases hxy:x=y
   ·subst hxy
    rw[if_pos rfl,List.getElem?_set_self hxO];rfl
   ·rw[if_neg hxy,List.getElem?_set_ne hxy,hf.ent (y,x) hm0 hxy];rfl
  rcases Nat.lt_or_ge y i with hlt2|hge
  ·have hyx:x≠y:=fun e=>by
    subst e
    rw[(hx9 hyh).1]at hky;cases hky;omega
   rcases hf.opn y k' hlt2 hky hk' with ⟨p,hp,e⟩|e
   ·rw[hst]at hp
    rcases List.mem_cons.1 hp with rfl|hp
    ·exact absurd e.symm hyh
    ·exact .inl ⟨p,hp,e⟩
   ·exact .inr (by rw[List.getElem?_set_ne hyx];exact e)
  ·obtain rfl:y=i:=by omega
   rw[hk]at hky;cases hky;omega
 ·rw[hs]
  rcases Nat.lt_or_ge y i with hlt2|hge
  ·by_cases hyx:x=y
   ·subst hyx
    refine .inr ?_
    rw[List.getElem?_set_self hxO,hee (fun e=>by subst e;rcases hh with hh|hh<;>(rw[hh]at hky;cases hky))]
   ·rcases hf.els y hlt2 hky with ⟨p,hp,e⟩|e
    ·rw[hst]at hp
     rcases List.mem_cons.1 hp with rfl|hp
     ·exact absurd e hyx
     ·exact .inl ⟨p,hp,e⟩
    ·exact .inr (by rw[List.getElem?_set_ne hyx];exact e)
  ·obtain rfl:y=i:=by omega
   rw[hk]at hky;cases hky
 ·intro h' t' e
  rcases Nat.lt_or_ge y i with hlt2|hge
  ·rw[List.getElem?_set_ne (by omega)]
   exact hf.hd y hlt2 hky h' t' e
  ·obtain rfl:y=i:=by omega
   rw[List.getElem?_set_self (by rw[hf.lenH];omega)]
   unfold hdF at e
   rw[hst]at e
   cases e;rfl
 ·rw[hs]at hp
  have h1:=hdn.1 p.1 (List.mem_map_of_mem hp)
  have hpx:x≠p.1:=fun e=>by
   by_cases hxh:x=h
   ·omega
   ·have h9:=(hx9 hxh).1
    rcases hi.head p (hmt p hp)with h2|h2<;>(rw[←e,h9]at h2;cases h2)
  rw[List.getElem?_set_ne hpx]
  exact hf.ent p (hmt p hp) hne
structure RelM (K:List Nat) (i:Nat) (S:List (Nat×Nat)) (M:List Nat):Prop where
 len:M.length=K.length
 heads:S.map (·.1)=(hdF K i).filter fun h=>K.getD h 0==8
 left: ∀ p∈S,M[p.1]? =some p.2∧1≤p.2
theorem RelM.zero (K:List Nat):RelM K 0 [] (List.replicate K.length 0):=⟨by simp,rfl,fun p hp=>by cases hp⟩
theorem RelM.same {K:List Nat} {i j:Nat} {S:List (Nat×Nat)} {M:List Nat} (h:RelM K i S M) (e:hdF K j=hdF K i):RelM K j S M:=⟨h.len,by rw[e];exact h.heads,h.left⟩
theorem RelM.into {K:List Nat} {i j:Nat} {S:List (Nat×Nat)} {M:List Nat} (h:RelM K i S M) (e:hdF K j=i::hdF K i) (h7:K[i]? =some 7):RelM K j S M:=⟨h.len,by
 rw[e,List.filter_cons,if_neg (by rw[List.getD_eq_getElem?_getD,h7];decide)];exact h.heads,h.left⟩
theorem RelM.mem {K:List Nat} {i:Nat} {S:List (Nat×Nat)} {M:List Nat} (h:RelM K i S M) {p:Nat×Nat} (hp:p∈S):p.1∈hdF K i:=by
 have:p.1∈S.map (·.1):=List.mem_map_of_mem hp
 rw[h.heads]at this
 exact(List.mem_filter.1 this).1
theorem RelM.set {K:List Nat} (hn:Nested K) {i:Nat} (hi:i≤K.length) {S:List (Nat×Nat)} {M:List Nat} (h:RelM K i S M) (n:Nat):RelM K i S (M.set i n):=⟨by rw[List.length_set];exact h.len,h.heads,fun p hp=>by
 have:=hd_lt hn hi p.1 (h.mem hp)
 rw[List.getElem?_set_ne (by omega)]
 exact h.left p hp⟩
theorem RelM.push {K:List Nat} (hn:Nested K) {i:Nat} {S:List (Nat×Nat)} {M:List Nat} (h:RelM K i S M) (h8:K[i]? =some 8) {n:Nat} (h1:1≤n):RelM K (i+1) ((i,n)::S) (M.set i n):=by
 have hil:=(List.getElem?_eq_some_iff.1 h8).1
 have h2:=h.set hn (by omega) n
 refine⟨h2.len,?_,fun p hp=> ?_⟩
 ·rw[hd_open h8 (.inr rfl),List.filter_cons,if_pos (by rw[List.getD_eq_getElem?_getD,h8];decide),List.map_cons,h.heads]
 ·rcases List.mem_cons.1 hp with rfl|hp
  ·exact⟨by rw[List.getElem?_set_self (by rw[h.len];omega)],h1⟩
  ·exact h2.left p hp
theorem RelM.rep {K:List Nat} (hn:Nested K) {i h:Nat} {t:List Nat} {S:List (Nat×Nat)} {M:List Nat} (r:RelM K i S M) (hk:K[i]? =some 10) (hh:hdF K i=h::t) (h8:K[h]? =some 8) (he:(endsF K h).2=i):
  ∃ n S',S=(h,n)::S'∧M[h]? =some n∧1≤n∧h<i∧(1<n→RelM K (h+1) ((h,n-1)::S') (M.set h (n-1)))∧RelM K (i+1) S' (M.set h (n-1)):=by
 have hil:=(List.getElem?_eq_some_iff.1 hk).1
 have hlt:=hd_lt hn (i:=i) (by omega) h (by rw[hh];simp)
 have hdn:=hd_down hn (i:=i) (by omega)
 rw[hh,List.pairwise_cons]at hdn
 have e8:(K.getD h 0==8)=true:=by rw[List.getD_eq_getElem?_getD,h8];decide
 have hd:=r.heads
 rw[hh,List.filter_cons,if_pos e8]at hd
 cases S with
 |nil=>cases hd
 |cons p S'=>
  obtain⟨h',n⟩:=p
  rw[List.map_cons,List.cons.injEq]at hd
  obtain⟨rfl,hS⟩:=hd
  obtain⟨hM,h1⟩:=r.left (h',n) (by simp)
  have ho:=ends_of hn h8 (.inr rfl)
  have htt:t=hdF K h':=by
   have:=ho.hd
   rw[he,hh]at this
   exact(List.cons.inj this).2
  have hleft: ∀ p∈S',(M.set h' (n-1))[p.1]? =some p.2∧1≤p.2:=fun p hp=>by
   have hpt:p.1∈t:=by
    have:p.1∈S'.map (·.1):=List.mem_map_of_mem hp
    rw[hS]at this
    exact(List.mem_filter.1 this).1
   have:=hdn.1 p.1 hpt
   rw[List.getElem?_set_ne (by omega)]
   exact r.left p (List.mem_cons_of_mem _ hp)
  refine⟨n,S',rfl,hM,h1,hlt,fun h2=>⟨by rw[List.length_set];exact r.len,?_,fun p hp=> ?_⟩,⟨by rw[List.length_set];exact r.len,?_,hleft⟩⟩
  ·rw[hd_open h8 (.inr rfl),List.filter_cons,if_pos e8,List.map_cons,←htt,hS]
  ·rcases List.mem_cons.1 hp with rfl|hp
   ·exact⟨by dsimp only;rw[List.getElem?_set_self (by rw[r.len];omega)],by dsimp only;omega⟩
   ·exact hleft p hp
  ·rw[hd_end hk,hh,List.tail_cons];exact hS
theorem RelM.iff {K:List Nat} (hn:Nested K) {i h:Nat} {t:List Nat} {S:List (Nat×Nat)} {M:List Nat} (r:RelM K i S M) (hk:K[i]? =some 10) (hh:hdF K i=h::t) (h7:K[h]? =some 7):
  RelM K (i+1) S M∧ ∀ p S',S=p::S'→(endsF K p.1).2≠i:=by
 have e7: ¬(K.getD h 0==8)=true:=by rw[List.getD_eq_getElem?_getD,h7];decide
 have hd:=r.heads
 rw[hh,List.filter_cons,if_neg e7]at hd
 refine⟨⟨r.len,by rw[hd_end hk,hh,List.tail_cons];exact hd,r.left⟩,fun p S' e=> ?_⟩
 obtain⟨h',t',hh',_,_,hfar⟩:=end_head hn hk
 rw[hh]at hh'
 cases hh'
 have hpt:p.1∈t:=by
  have:p.1∈S.map (·.1):=by rw[e];simp
  rw[hd]at this
  exact(List.mem_filter.1 this).1
 have:=hfar p.1 hpt
 omega
theorem nested_parse: ∀ (ls:List Txt) (i:Nat) (out:List Ln) (o:List Nat) (l:List Ln),nestG (out.map (·.k)) []=some o→(parseL ls i out o).1=some l→Nested (l.map (·.k))
 |[],i,out,o,l,hn,h=>by
  rw[parseL]at h
  split at h
  ·rename_i ho
   cases h
   rw[ho]at hn;exact hn
  ·cases h
 |x::ls,i,out,o,l,hn,h=>by
  rw[parseL]at h
  split at h
  ·exact nested_parse ls _ _ _ _ hn h
  ·split at h
   ·cases h
   ·split at h
    ·cases h
    ·rename_i w y hy
     split at h
     ·cases h
     ·split at h
      ·cases h
      ·rename_i o' ho
       refine nested_parse ls _ _ _ _ ?_ h
       rw[List.map_append,nestG_append,hn]
       simp only[List.map_cons,List.map_nil]
       rw[nestG,ho];rfl
theorem nested_of {s:Txt} {l:List Ln} {i:Nat} (h:parseF s=(some l,i)):Nested (l.map (·.k)):=by
 unfold parseF at h
 split at h
 ·cases h
 ·exact nested_parse _ _ _ _ _ rfl (by rw[h])
end Go.Blk
namespace Go.Scr
theorem wordsN_all: ∀ (n:Nat) (l:Txt) (ws:List Txt),wordsN n l=some ws→ws.length≤l.length∧ ∀ x∈ws,x≠ []∧x.length≤l.length
 |n,[],ws,h=>by cases n<;>(cases h;exact⟨Nat.le_refl _,fun x hx=>by cases hx⟩)
 |0,c::t,ws,h=>by cases h
 |n+1,c::t,ws,h=>by
  unfold wordsN at h
  simp only[List.length_cons]
  split at h
  ·obtain⟨h1,h2⟩:=wordsN_all n t ws h
   exact⟨by omega,fun x hx=>⟨(h2 x hx).1,by have:=(h2 x hx).2;omega⟩⟩
  ·split at h
   ·cases hq:quotedF t with
    |none=>rw[hq]at h;cases h
    |some p=>
     obtain⟨w,r⟩:=p
     have h3:=quotedF_len _ t (Nat.le_refl _) hq
     have h4:=Go.Proofs.YtphkaogbcfdllaaGreatDoor.quotedF_wlen _ t (Nat.le_refl _) hq
     rw[hq]at h
     dsimp only at h
     split at h
     ·cases h
     ·cases hr:wordsN n r with
      |none=>rw[hr]at h;cases h
      |some l=>
       rw[hr]at h;cases h
       obtain⟨h1,h2⟩:=wordsN_all n r l hr
       refine⟨by simp only[List.length_cons];omega,fun x hx=> ?_⟩
       rcases List.mem_cons.1 hx with rfl|hx
       ·exact⟨by simp,by simp only[List.length_cons];omega⟩
       ·exact⟨(h2 x hx).1,by have:=(h2 x hx).2;omega⟩
   ·have h3:=dropWhile_len (p:=fun x=> !isB x) t
    have h4:=(List.takeWhile_sublist (fun x=> !isB x) (l:=t)).length_le
    cases hr:wordsN n (t.dropWhile fun x=> !isB x)with
    |none=>rw[hr]at h;cases h
    |some l=>
     rw[hr]at h;cases h
     obtain⟨h1,h2⟩:=wordsN_all n _ l hr
     refine⟨by simp only[List.length_cons];omega,fun x hx=> ?_⟩
     rcases List.mem_cons.1 hx with rfl|hx
     ·exact⟨by simp,by simp only[List.length_cons];omega⟩
     ·exact⟨(h2 x hx).1,by have:=(h2 x hx).2;omega⟩
theorem wordsF_all {l:Txt} {ws:List Txt} (h:wordsF l=some ws):ws.length≤l.length∧ ∀ x∈ws,x≠ []∧x.length≤l.length:=wordsN_all _ l ws h
theorem dropWhile_head {p:UInt8→Bool}: ∀ {l:Txt} {c:UInt8} {t:Txt},l.dropWhile p=c::t→p c=false
 |[],_,_,h=>by cases h
 |d::l,c,t,h=>by
  rw[List.dropWhile_cons]at h
  split at h
  ·exact dropWhile_head h
  ·rename_i hd;cases h;simpa using hd
theorem words_head {l:Txt} {c:UInt8} {t:Txt} (h:l.dropWhile isB=c::t):wordsF l=none∨ ∃ w ws,wordsF l=some ((c::w)::ws):=by
 have hb:=dropWhile_head h
 rw[←wordsF_drop l,h]
 by_cases h34:c=34
 ·subst h34
  rw[wordsF_quote]
  cases quotedF t with
  |none=>exact .inl rfl
  |some p=>
   obtain⟨w,r⟩:=p
   dsimp only
   split
   ·exact .inl rfl
   ·cases wordsF r with
    |none=>exact .inl rfl
    |some l=>exact .inr ⟨w,l,rfl⟩
 ·rw[wordsF_word hb h34]
  cases wordsF (t.dropWhile fun x=> !isB x)with
  |none=>exact .inl rfl
  |some l=>exact .inr ⟨_,l,rfl⟩
theorem words_skip {l:Txt} (h:l.dropWhile isB=[]):wordsF l=some []:=by rw[←wordsF_drop l,h];rfl
theorem splitF_ne (c:UInt8): ∀ l:Txt,splitF c l≠ []
 |[]=>by simp[splitF]
 |x::t=>by
  unfold splitF
  split
  ·simp
  ·cases h:splitF c t<;>simp
theorem splitF_len (c:UInt8): ∀ l:Txt,(splitF c l).length≤l.length+1∧ ∀ x∈splitF c l,x.length≤l.length
 |[]=>by simp[splitF]
 |x::t=>by
  obtain⟨h1,h2⟩:=splitF_len c t
  unfold splitF
  simp only[List.length_cons]
  split
  ·refine⟨by simp only[List.length_cons];omega,fun y hy=> ?_⟩
   rcases List.mem_cons.1 hy with rfl|hy
   ·simp
   ·have:=h2 y hy;omega
  ·cases h:splitF c t with
   |nil=>exact absurd h (splitF_ne c t)
   |cons w l=>
    rw[h]at h1 h2
    simp only[List.length_cons]at h1
    refine⟨by simp only[List.length_cons];omega,fun y hy=> ?_⟩
    rcases List.mem_cons.1 hy with rfl|hy
    ·have:=h2 w (by simp);simp only[List.length_cons];omega
    ·have:=h2 y (by simp[hy]);omega
theorem linesF_len (s:Txt):(linesF s).length≤s.length+1∧ ∀ x∈linesF s,x.length≤s.length:=by
 obtain⟨h1,h2⟩:=splitF_len 10 s
 unfold linesF
 dsimp only
 split
 ·exact⟨by rw[List.length_dropLast];omega,fun x hx=>h2 x (List.dropLast_subset _ hx)⟩
 ·exact⟨h1,h2⟩
theorem linesF_last (s:Txt): ∃ q m,splitF 10 s=q++[m]∧linesF s=if m=[]then q else q++[m]:=by
 rcases List.eq_nil_or_concat (splitF 10 s)with h|⟨q,m,h⟩
 ·exact absurd h (splitF_ne _ _)
 ·rw[List.concat_eq_append]at h
  refine⟨q,m,h,?_⟩
  unfold linesF
  dsimp only
  rw[h,List.getLast?_concat,List.dropLast_concat]
  by_cases hm:m=[]
  ·rw[if_pos hm,if_pos (by rw[hm])]
  ·rw[if_neg hm,if_neg (by simpa using hm)]
theorem skipF_nil {l:Txt} (h:l.dropWhile isB=[]):skipF l=true:=by unfold skipF;rw[h]
theorem skipF_cons {l:Txt} {c:UInt8} {t:Txt} (h:l.dropWhile isB=c::t):skipF l=(c==35):=by unfold skipF;rw[h]
theorem takeF_len {o o':List Nat} {k:Nat} (h:takeF o k=some o') (hl:o.length≤8):o'.length≤8:=by
 unfold takeF at h
 split at h
 ·split at h
  ·cases h
  ·cases h;rw[List.length_append];simp;omega
 ·split at h
  ·split at h
   ·cases h
    rw[List.length_append,List.length_dropLast]
    rename_i h1
    cases o with
    |nil=>cases h1
    |cons a t=>simp;simp at hl;omega
   ·cases h
  ·split at h
   ·split at h
    ·cases h
    ·cases h;rw[List.length_dropLast];omega
   ·cases h;exact hl
theorem parseL_step (l:Txt) (ls:List Txt) (i:Nat) (out:List Ln) (o:List Nat):parseL (l::ls) i out o=if skipF l then parseL ls (i+1) out o
  else match wordsF l with
   |none=>(none,i+1)
   |some w=>match lineF w with
    |none=>(none,i+1)
    |some x=>if out.length=200 then(none,i+1)else match takeF o x.k with
     |none=>(none,i+1)
     |some o'=>parseL ls (i+1) (out++[x]) o':=by rw[parseL];rfl
end Go.Scr
namespace Go.Scr
theorem kws_self: ∀ j,j<12→kindF (kws.getD j [])=j:=by decide
theorem kind_eq {w:Txt} {k:Nat} (hK:kindF w=k) (hk:k<12):w=kws.getD k []:=by
 subst hK
 have h:=List.findIdx_getElem (p:=(· ==w)) (xs:=kws) (w:=hk)
 rw[List.getD_eq_getElem?_getD,List.getElem?_eq_getElem hk]
 exact(by simpa using h:kws[kws.findIdx (· ==w)]=w).symm
end Go.Scr
namespace Go.Proofs.YtphkaogbcfdllaaGreatDoor
open Go Go.Vc Go.Scr
theorem PureH.build2 {P:Program} {t:TypeId} {l:List Nat} {v v':Value} {K:Value→Prop} (cells:Array Value) (h:P.built t (l.zip [v,v'])=some cells) (hk:K (.agg cells)):PureH P (Instr.build t (l.zip [v,v']).toArray) K:=
 PureH.build cells h hk
theorem PureH.build3 {P:Program} {t:TypeId} {l:List Nat} {v v' v'':Value} {K:Value→Prop} (cells:Array Value) (h:P.built t (l.zip [v,v',v''])=some cells) (hk:K (.agg cells)):PureH P (Instr.build t (l.zip [v,v',v'']).toArray) K:=
 PureH.build cells h hk
theorem plain_pos {w:Bs} (h:plainW w=false):1≤w.length:=by
 cases w with
 |nil=>cases h
 |cons c t=>simp
theorem kw_t {w:Bs} {K:Nat} (hK:kindF w=K) (j:Nat) (hj:j<12) (e:j=K):((mkS w).toList==(mkS (kws.getD j [])).toList)=true:=by
 subst e;rw[str_mk];exact decide_eq_true (kind_eq hK hj)
theorem kw_f {w:Bs} {K:Nat} (hK:kindF w=K) (j:Nat) (hj:j<12) (e:j≠K):((mkS w).toList==(mkS (kws.getD j [])).toList)=false:=by
 rw[str_mk];exact decide_eq_false fun h=>e (by rw[←hK,h];exact(kws_self j hj).symm)
theorem rquoted_any (w:Bs) (H:Heap):CallH Tryz.prog 109 [.string (mkS w)] H fun v H'=>v= .bool (!plainW w)∧H=H':=by
 refine Vc.CallH.body Tryz.func109 Tryz.call109 rfl (by decide+kernel) rfl ?_
 cases w with
 |nil=>
  ((conv=>whnf);repeat(any_goals((first|refine Vc.stp ?_|refine Vc.spl ?_ ?_)<;>(intros;(conv=>whnf)))))
  exact⟨rfl,rfl⟩
 |cons c t=>
  have hne:=ne_empty c t
  have hsz:(mkS (c::t)).size=t.length+1:=rfl
  ((conv=>whnf);repeat(any_goals((first|(refine IdxH.nat 0 rfl (by omega) ?_)|refine Vc.stp ?_|refine Vc.spl ?_ ?_)<;>(intros;(conv=>whnf)))))
  exact⟨by rw[plain_cons];simp;rfl,rfl⟩
theorem rplain_any (L:List Bs) (a:Option Addr) (n cap:Nat) (H:Heap) (hr:Row H a (strs L)) (hn:L.length=n) (hm:n≤1000000000):CallH Tryz.prog 108 [.slice a n cap] H fun v H'=>v= .bool (L.all plainW)∧H=H':=by
 obtain⟨F,hF⟩: ∃ F,L.all plainW=F:=⟨_,rfl⟩
 rw[hF]
 refine Vc.CallH.body Tryz.func108 Tryz.call108 rfl (by decide+kernel) rfl ?_
 ((conv=>whnf);repeat(any_goals(first|(refine Vc.sts ?_;(conv=>whnf)))))
 refine LoopH.intro (fun(i:Nat)=>[(3,.int .i64 i)]) (fun i H'=>H=H'∧i≤n∧F=(L.drop i).all plainW) (fun i=>n-i) 0 ⟨rfl,trivial⟩ ⟨rfl,Nat.zero_le _,hF.symm⟩ ?_
 rintro i _ ⟨rfl,hi,hinv⟩
 by_cases hlt:i<n
 ·have hd:L.drop i=L.getD i []::L.drop (i+1):=by
   rw[List.drop_eq_getElem_cons (by omega),List.getD_eq_getElem?_getD,List.getElem?_eq_getElem (by omega)];rfl
  rw[hd,List.all_cons]at hinv
  cases hp:plainW (L.getD i [])
  ·((conv=>whnf);repeat(any_goals((first|(refine IdxA.strD hr hn i rfl hlt ?_;intro _ _ _ _ _)|(refine(rquoted_any _ _).mono ?_;rintro _ _ ⟨rfl,rfl⟩;rw[hp])|refine Vc.stp ?_|refine Vc.spl ?_ ?_)<;>(intros;(conv=>whnf)))))
   rw[hinv,hp];exact⟨rfl,rfl⟩
  ·rw[hp,Bool.true_and]at hinv
   ((conv=>whnf);repeat(any_goals((first|(refine IdxA.strD hr hn i rfl hlt ?_;intro _ _ _ _ _)|(refine(rquoted_any _ _).mono ?_;rintro _ _ ⟨rfl,rfl⟩;rw[hp])|refine Vc.stp ?_|refine Vc.spl ?_ ?_)<;>(intros;(conv=>whnf)))))
   exact⟨i+1,⟨rfl,trivial⟩,⟨rfl,by omega,hinv⟩,by omega⟩
 ·rw[List.drop_of_length_le (by omega)]at hinv
  ((conv=>whnf);repeat(any_goals((first|refine Vc.stp ?_|refine Vc.spl ?_ ?_)<;>(intros;(conv=>whnf)))))
  rw[hinv];exact⟨rfl,rfl⟩
def commF (l:Bs):Bool:=match l.dropWhile isB with
 |[]=>false
 |c::_=>c==35
theorem commF_cons (c:UInt8) (t:Bs):commF (c::t)=if isB c then commF t else c==35:=by
 unfold commF
 rw[List.dropWhile_cons]
 cases isB c<;>rfl
theorem rcomment_any (s:Bs) (hl:s.length≤1000000000) (H:Heap):CallH Tryz.prog 58 [.string (mkS s)] H fun v H'=>v= .bool (commF s)∧H=H':=by
 obtain⟨F,hF⟩: ∃ F,commF s=F:=⟨_,rfl⟩
 rw[hF]
 have hsz:(mkS s).size=s.length:=rfl
 refine Vc.CallH.body Tryz.func58 Tryz.call58 rfl (by decide+kernel) rfl ?_
 ((conv=>whnf);repeat(any_goals(first|(refine Vc.sts ?_;(conv=>whnf)))))
 refine LoopH.intro (fun(i:Nat)=>[(3,.int .i64 i)]) (fun i H'=>H=H'∧i≤s.length∧F=commF (s.drop i)) (fun i=>s.length-i) 0 ⟨rfl,trivial⟩ ⟨rfl,Nat.zero_le _,hF.symm⟩ ?_
 rintro i _ ⟨rfl,hi,hinv⟩
 by_cases hlt:i<s.length
 ·obtain⟨c,hc,hdr⟩:=drop_get hlt
  rw[hdr,commF_cons]at hinv
  cases hb:isB c
  ·obtain⟨n32,n9⟩:=isB_num_f hb
   rw[hb,if_neg (by decide)]at hinv
   ((conv=>whnf);repeat(any_goals((first|(refine IdxH.nat i rfl (by omega) ?_;(conv=>whnf);rw[hc])|refine Vc.stp ?_|refine Vc.spl ?_ ?_)<;>(intros;(conv=>whnf)))))
   refine⟨?_,rfl⟩
   rw[hinv]
   show Value.bool ((c.toNat:Int)==35)=_
   congr 1
   rw[Bool.eq_iff_iff,beq_iff_eq,beq_iff_eq]
   constructor
   ·intro h;exact UInt8.toNat_inj.1 (by show c.toNat=35;omega)
   ·intro h;rw[h];rfl
  ·rw[hb,if_pos rfl]at hinv
   rcases isB_num hb with m|m
   ·((conv=>whnf);repeat(any_goals((first|(refine IdxH.nat i rfl (by omega) ?_;(conv=>whnf);rw[hc])|refine Vc.stp ?_|refine Vc.spl ?_ ?_)<;>(intros;(conv=>whnf)))))
    exact⟨i+1,⟨rfl,trivial⟩,⟨rfl,by omega,hinv⟩,by omega⟩
   ·((conv=>whnf);repeat(any_goals((first|(refine IdxH.nat i rfl (by omega) ?_;(conv=>whnf);rw[hc])|refine Vc.stp ?_|refine Vc.spl ?_ ?_)<;>(intros;(conv=>whnf)))))
    exact⟨i+1,⟨rfl,trivial⟩,⟨rfl,by omega,hinv⟩,by omega⟩
 ·rw[List.drop_of_length_le (by omega)]at hinv
  ((conv=>whnf);repeat(any_goals((first|refine Vc.stp ?_|refine Vc.spl ?_ ?_)<;>(intros;(conv=>whnf)))))
  rw[hinv];exact⟨rfl,rfl⟩
end Go.Proofs.YtphkaogbcfdllaaGreatDoor
namespace Go.Scr
def glueF (cur:Txt):List Txt→List Txt
 |[]=>[cur]
 |w::l=>(cur++w)::l
theorem glueF_nil (l:List Txt) (h:l≠ []):glueF [] l=l:=by cases l with|nil=>exact absurd rfl h|cons w l=>rfl
theorem glueF_step {c x:UInt8} (h:x≠c) (cur t:Txt):glueF cur (splitF c (x::t))=glueF (cur++[x]) (splitF c t):=by
 rw[splitF,if_neg h]
 cases splitF c t with
 |nil=>rfl
 |cons w l=>simp[glueF]
theorem glueF_cut (c:UInt8) (cur t:Txt):glueF cur (splitF c (c::t))=cur::splitF c t:=by
 rw[splitF,if_pos rfl];simp[glueF]
def mid (l:Txt) (a b:Nat):Txt:=(l.drop a).take (b-a)
theorem mid_self (l:Txt) (a:Nat):mid l a a=[]:=by simp[mid]
theorem mid_snoc {l:Txt} {a b:Nat} {c:UInt8} {t:Txt} (hab:a≤b) (h:l.drop b=c::t):mid l a (b+1)=mid l a b++[c]:=by
 unfold mid
 have e:b+1-a=(b-a)+1:=by omega
 have h2:(l.drop a).drop (b-a)=c::t:=by rw[List.drop_drop,show a+(b-a)=b by omega];exact h
 rw[e,List.take_add_one]
 congr 1
 have:=congrArg (·[0]?) h2
 simp only[List.getElem?_drop,List.getElem?_cons_zero]at this
 simp only[List.getElem?_drop]
 have h3:(0:Nat)+(a+(b-a))=a+(b-a):=by omega
 simp at this
 simp[this]
end Go.Scr
namespace Go.Proofs.YtphkaogbcfdllaaGreatDoor
open Go Go.Vc Go.Scr
structure SSt where
 i:Nat
 fr:Nat
 out:List Bs
 a:Option Addr
 cap:Nat
def splitI (s:Bs) (c:UInt8) (x:SSt):List Bs:=if x.i≤s.length then x.out++glueF (mid s x.fr x.i) (splitF c (s.drop x.i))else x.out
set_option maxHeartbeats 4000000 in
theorem rsplit_any (s:Bs) (c:UInt8) (hl:s.length≤100000000) (H:Heap):CallH Tryz.prog 94 [.string (mkS s),.int .u8 c.toNat] H fun v H'=>(∃ a cap,v= .slice a (splitF c s).length cap∧Own H' H.size 9 1 a (splitF c s).length cap (strs (splitF c s)))∧Ext H H':=by
 obtain⟨S,hS⟩: ∃ S,splitF c s=S:=⟨_,rfl⟩
 rw[hS]
 have hsz:(mkS s).size=s.length:=rfl
 refine Vc.CallH.body Tryz.func94 Tryz.call94 rfl (by decide+kernel) rfl ?_
 ((conv=>whnf);repeat(any_goals(first|(refine Vc.sts ?_;(conv=>whnf)))))
 refine LoopH.intro (fun(x:SSt)=>[(7,.int .i64 x.i),(6,.int .i64 x.fr),(5,.slice x.a x.out.length x.cap)]) (fun x H'=>x.i≤s.length+1∧x.fr≤x.i∧x.out.length≤x.i∧S=splitI s c x∧Own H' H.size 9 1 x.a x.out.length x.cap (strs x.out)∧Ext H H') (fun x=>s.length+1-x.i) ⟨0,0,[],none,0⟩ ⟨rfl,rfl,rfl,trivial⟩ ⟨Nat.zero_le _,Nat.le_refl _,Nat.le_refl _,?_,Own.nil _ _ _ _,Ext.refl _⟩ ?_
 ·unfold splitI
  rw[if_pos (Nat.zero_le _)]
  show S=glueF [] (splitF c s)
  rw[glueF_nil _ (splitF_ne c s),hS]
 rintro⟨i,fr,out,a,cap⟩ H2 ⟨hi,hfr,hol,hinv,ho2,hx2⟩
 dsimp only at hi hfr hol hinv ho2 ⊢
 unfold splitI at hinv
 dsimp only at hinv
 have hxe:(mkS s).extract fr i=mkS (mid s fr i):=mkS_ext _ _ _
 by_cases hle:i≤s.length
 ·rw[if_pos hle]at hinv
  by_cases hlt:i<s.length
  ·obtain⟨d,hd,hdr⟩:=drop_get hlt
   rw[hdr]at hinv
   by_cases hdc:d=c
   ·subst hdc
    rw[glueF_cut]at hinv
    ((conv=>whnf);repeat(any_goals((first|(refine IdxH.nat i rfl (by omega) ?_;(conv=>whnf);rw[hd])|(refine BndH.nat fr rfl (by omega) ?_)|(refine BndH.nat i rfl (by omega) ?_)|refine Vc.stp ?_|refine Vc.spl ?_ ?_)<;>(intros;(conv=>whnf)))))
    rename_i H5 hs5 hb5 hx5 a6 c6 H6 ho6 hx6
    refine⟨⟨i+1,i+1,out++[mid s fr i],a6,c6⟩,⟨rfl,rfl,sl_snocS _ _ _ _,trivial⟩,⟨by show i+1≤_;omega,Nat.le_refl _,by show(out++[_]).length≤i+1;simp;omega,?_,own_snocS hxe ho6,hx6⟩,by show s.length+1-(i+1)<s.length+1-i;omega⟩
    unfold splitI
    rw[if_pos (show i+1≤s.length by omega),hinv]
    show _=(out++[mid s fr i])++glueF (mid s (i+1) (i+1)) (splitF d (s.drop (i+1)))
    rw[mid_self,glueF_nil _ (splitF_ne _ _)];simp
   ·have hne:d.toNat≠c.toNat:=fun e=>hdc (UInt8.toNat_inj.1 e)
    rw[glueF_step hdc,←mid_snoc hfr hdr]at hinv
    ((conv=>whnf);repeat(any_goals((first|(refine IdxH.nat i rfl (by omega) ?_;(conv=>whnf);rw[hd])|refine Vc.stp ?_|refine Vc.spl ?_ ?_)<;>(intros;(conv=>whnf)))))
    refine⟨⟨i+1,fr,out,a,cap⟩,⟨rfl,rfl,rfl,trivial⟩,⟨by show i+1≤_;omega,by show fr≤i+1;omega,by show out.length≤i+1;omega,?_,ho2,hx2⟩,by show s.length+1-(i+1)<s.length+1-i;omega⟩
    unfold splitI
    rw[if_pos (show i+1≤s.length by omega),hinv]
  ·have hil:i=s.length:=by omega
   subst hil
   rw[List.drop_of_length_le (by omega)]at hinv
   ((conv=>whnf);repeat(any_goals((first|(refine BndH.nat fr rfl (by omega) ?_)|(refine BndH.nat s.length rfl (by omega) ?_)|refine Vc.stp ?_|refine Vc.spl ?_ ?_)<;>(intros;(conv=>whnf)))))
   rename_i H5 hs5 hb5 hx5 a6 c6 H6 ho6 hx6
   refine⟨⟨s.length+1,s.length+1,out++[mid s fr s.length],a6,c6⟩,⟨rfl,rfl,sl_snocS _ _ _ _,trivial⟩,⟨Nat.le_refl _,Nat.le_refl _,by show(out++[_]).length≤s.length+1;simp;omega,?_,own_snocS hxe ho6,hx6⟩,by show s.length+1-(s.length+1)<s.length+1-s.length;omega⟩
   unfold splitI
   rw[if_neg (show ¬s.length+1≤s.length by omega),hinv]
   show _=out++[mid s fr s.length]
   unfold splitF glueF;simp
 ·rw[if_neg hle]at hinv
  ((conv=>whnf);repeat(any_goals((first|refine Vc.stp ?_|refine Vc.spl ?_ ?_)<;>(intros;(conv=>whnf)))))
  rw[hinv]
  exact⟨⟨a,cap,rfl,ho2⟩,hx2⟩
theorem rlines_any (s:Bs) (hl:s.length≤100000000) (H:Heap):CallH Tryz.prog 56 [.string (mkS s)] H fun v H'=>(∃ a cap,v= .slice a (linesF s).length cap∧Own H' H.size 9 1 a (linesF s).length cap (strs (linesF s)))∧Ext H H':=by
 obtain⟨q,m,hq,hL⟩:=linesF_last s
 have hsp:=fun H=>rsplit_any s 10 hl H
 have hSl:=(splitF_len 10 s).1
 rw[hq]at hsp hSl
 rw[List.length_append]at hSl
 have hln:(q++[m]).length=q.length+1:=by simp
 simp only[List.length_cons,List.length_nil]at hSl
 rw[hL]
 refine Vc.CallH.body Tryz.func56 Tryz.call56 rfl (by decide+kernel) rfl ?_
 cases m with
 |nil=>
  rw[if_pos rfl]
  ((conv=>whnf);repeat(any_goals((first|(refine(hsp _).mono ?_;rintro _ H2 ⟨⟨al,cl,rfl,ho2⟩,hx2⟩;have hz2:=hx2.size;have hcl:=ho2.cap_le)|(refine IdxA.strv ho2.row rfl q.length [] (by omega) (by simp) ?_;intro _ _ _ _ _)|(refine BndH.nat q.length (by omega) (by omega) ?_)|refine Vc.stp ?_|refine Vc.spl ?_ ?_)<;>(intros;(conv=>whnf)))))
  refine⟨⟨al,cl,rfl,?_⟩,hx2⟩
  have:=ho2.cut q.length (by omega)
  rw[Nat.mul_one]at this
  have e:(strs (q++[[]])).take q.length=strs q:=by rw[strs_append,List.take_left' (strs_length q)]
  rw[e]at this;exact this
 |cons c t=>
  have hne:=ne_empty c t
  rw[if_neg (by simp)]
  ((conv=>whnf);repeat(any_goals((first|(refine(hsp _).mono ?_;rintro _ H2 ⟨⟨al,cl,rfl,ho2⟩,hx2⟩;have hz2:=hx2.size)|(refine IdxA.strv ho2.row rfl q.length (c::t) (by omega) (by simp) ?_;intro _ _ _ _ _)|refine Vc.stp ?_|refine Vc.spl ?_ ?_)<;>(intros;(conv=>whnf)))))
  exact⟨⟨al,cl,rfl,ho2⟩,hx2⟩
end Go.Proofs.YtphkaogbcfdllaaGreatDoor
namespace Go.Proofs.YtphkaogbcfdllaaGreatDoor
open Go Go.Vc Go.Scr
def readR (v:Value):Option Ln→Prop
 |some x=>v= .tuple #[.agg (lnC x),.bool true]
 |none=>∃ k a b tx n nt,v= .tuple #[.agg (lineC k a b tx n nt),.bool false]
end Go.Proofs.YtphkaogbcfdllaaGreatDoor
namespace Go.Proofs.YtphkaogbcfdllaaGreatDoor
open Go Go.Vc Go.Scr
set_option maxHeartbeats 4000000 in
theorem rline_0 (w:Bs) (ws:List Bs) (a:Option Addr) (cap:Nat) (H:Heap) (hr:Row H a (strs (w::ws))) (hc:(w::ws).length≤cap) (hm:(w::ws).length≤1000000000) (hwl: ∀ x∈w::ws,x.length≤1000000000) (hK:kindF w=0):CallH Tryz.prog 59 [.slice a (w::ws).length cap] H fun v H'=>readR v (lineF (w::ws))∧Ext H H':=by
 refine Vc.CallH.body Tryz.func59 Tryz.call59 rfl (by decide+kernel) rfl ?_
 have hw:w=kws.getD 0 []:=kind_eq hK (by decide)
 have e0:((mkS w).toList==(⟨#[99,111,112,121]⟩:ByteArray).toList)=true:=kw_t hK 0 (by decide) rfl
 have e1:((mkS w).toList==(⟨#[119,114,105,116,101]⟩:ByteArray).toList)=false:=kw_f hK 1 (by decide) (by decide)
 have e2:((mkS w).toList==(⟨#[97,112,112,101,110,100]⟩:ByteArray).toList)=false:=kw_f hK 2 (by decide) (by decide)
 have e3:((mkS w).toList==(⟨#[109,107,100,105,114]⟩:ByteArray).toList)=false:=kw_f hK 3 (by decide) (by decide)
 have e4:((mkS w).toList==(⟨#[114,101,109,111,118,101]⟩:ByteArray).toList)=false:=kw_f hK 4 (by decide) (by decide)
 have e5:((mkS w).toList==(⟨#[114,101,110,97,109,101]⟩:ByteArray).toList)=false:=kw_f hK 5 (by decide) (by decide)
 have e6:((mkS w).toList==(⟨#[115,101,116]⟩:ByteArray).toList)=false:=kw_f hK 6 (by decide) (by decide)
 have e7:((mkS w).toList==(⟨#[105,102]⟩:ByteArray).toList)=false:=kw_f hK 7 (by decide) (by decide)
 have e8:((mkS w).toList==(⟨#[114,101,112,101,97,116]⟩:ByteArray).toList)=false:=kw_f hK 8 (by decide) (by decide)
 have e9:((mkS w).toList==(⟨#[101,108,115,101]⟩:ByteArray).toList)=false:=kw_f hK 9 (by decide) (by decide)
 have e10:((mkS w).toList==(⟨#[101,110,100]⟩:ByteArray).toList)=false:=kw_f hK 10 (by decide) (by decide)
 have e11:((mkS w).toList==(⟨#[102,97,105,108]⟩:ByteArray).toList)=false:=kw_f hK 11 (by decide) (by decide)
 have hpw:plainW w=true:=by rw[hw];rfl
 match ws,hr,hc,hm,hwl with
 |[],hr,hc,hm,hwl=>
  have hlen:(w::([]:List Bs)).length=0+1:=by simp
  simp only[List.length_cons,List.length_nil]at hc hm
  ((conv=>whnf);repeat(any_goals((first|(refine IdxA.strv hr rfl 0 _ rfl rfl ?_;intro _ _ _ _ _)|(refine IdxA.strv hr rfl 1 _ rfl rfl ?_;intro _ _ _ _ _)|(refine IdxA.strv hr rfl 2 _ rfl rfl ?_;intro _ _ _ _ _)|(refine IdxA.strv hr rfl 3 _ rfl rfl ?_;intro _ _ _ _ _)|(refine BndH.nat 2 rfl (by omega) ?_)|(refine BndH.nat 1 rfl (by omega) ?_)|(refine(cp _ (by exact Vc.xt)).mono ?_;rintro _ _ ⟨rfl,rfl⟩)|(refine(cp2 _ (by exact Vc.xt)).mono ?_;rintro _ _ ⟨rfl,rfl⟩)|(refine(rquoted_any _ _).mono ?_;rintro _ _ ⟨rfl,rfl⟩)|(refine PureH.build0 (lineC 0 [] [] [] 0 false) (by kernel_rfl) ?_)|refine Vc.stp ?_|refine Vc.spl ?_ ?_)<;>(intros;(conv=>whnf)))))
  all_goals exact⟨by rw[show lineF (w::[])=none from by simp[lineF,hK,twoF]];exact⟨_,_,_,_,_,_,rfl⟩,by exact Vc.xt⟩
 |[x],hr,hc,hm,hwl=>
  have hlen:(w::([x]:List Bs)).length=1+1:=by simp
  simp only[List.length_cons,List.length_nil]at hc hm
  have hlx:x.length≤1000000000:=hwl x (by simp)
  ((conv=>whnf);repeat(any_goals((first|(refine IdxA.strv hr rfl 0 _ rfl rfl ?_;intro _ _ _ _ _)|(refine IdxA.strv hr rfl 1 _ rfl rfl ?_;intro _ _ _ _ _)|(refine IdxA.strv hr rfl 2 _ rfl rfl ?_;intro _ _ _ _ _)|(refine IdxA.strv hr rfl 3 _ rfl rfl ?_;intro _ _ _ _ _)|(refine BndH.nat 2 rfl (by omega) ?_)|(refine BndH.nat 1 rfl (by omega) ?_)|(refine(cp _ (by exact Vc.xt)).mono ?_;rintro _ _ ⟨rfl,rfl⟩)|(refine(cp2 _ (by exact Vc.xt)).mono ?_;rintro _ _ ⟨rfl,rfl⟩)|(refine(rquoted_any _ _).mono ?_;rintro _ _ ⟨rfl,rfl⟩)|(refine PureH.build0 (lineC 0 [] [] [] 0 false) (by kernel_rfl) ?_)|refine Vc.stp ?_|refine Vc.spl ?_ ?_)<;>(intros;(conv=>whnf)))))
  all_goals exact⟨by rw[show lineF (w::[x])=none from by simp[lineF,hK,twoF]];exact⟨_,_,_,_,_,_,rfl⟩,by exact Vc.xt⟩
 |[x,y],hr,hc,hm,hwl=>
  have hlen:(w::([x,y]:List Bs)).length=2+1:=by simp
  simp only[List.length_cons,List.length_nil]at hc hm
  have hlx:x.length≤1000000000:=hwl x (by simp)
  have hly:y.length≤1000000000:=hwl y (by simp)
  have cp:=fun H2 (k:Ext H H2)=>rplain_any (w::[x,y]) a _ cap H2 (hr.ext k) rfl hm
  cases hpx:plainW x
  ·cases hpy:plainW y
   ·have hpa:(w::[x,y]).all plainW=false:=by simp[hpw,hpx,hpy]
    rw[hpa]at cp
    ((conv=>whnf);repeat(any_goals((first|(refine IdxA.strv hr rfl 0 _ rfl rfl ?_;intro _ _ _ _ _)|(refine IdxA.strv hr rfl 1 _ rfl rfl ?_;intro _ _ _ _ _)|(refine IdxA.strv hr rfl 2 _ rfl rfl ?_;intro _ _ _ _ _)|(refine IdxA.strv hr rfl 3 _ rfl rfl ?_;intro _ _ _ _ _)|(refine BndH.nat 2 rfl (by omega) ?_)|(refine BndH.nat 1 rfl (by omega) ?_)|(refine(cp _ (by exact Vc.xt)).mono ?_;rintro _ _ ⟨rfl,rfl⟩)|(refine(cp2 _ (by exact Vc.xt)).mono ?_;rintro _ _ ⟨rfl,rfl⟩)|(refine(rquoted_any _ _).mono ?_;rintro _ _ ⟨rfl,rfl⟩)|(refine PureH.build0 (lineC 0 [] [] [] 0 false) (by kernel_rfl) ?_)|(refine PureH.build3 (lineC 0 x y [] 0 false) (by kernel_rfl) ?_)|refine Vc.stp ?_|refine Vc.spl ?_ ?_)<;>(intros;(conv=>whnf)))))
    all_goals exact⟨by rw[show lineF (w::[x,y])=none from by simp[lineF,hK,twoF,hpx,hpy]];exact⟨_,_,_,_,_,_,rfl⟩,by exact Vc.xt⟩
   ·have hpa:(w::[x,y]).all plainW=false:=by simp[hpw,hpx,hpy]
    rw[hpa]at cp
    ((conv=>whnf);repeat(any_goals((first|(refine IdxA.strv hr rfl 0 _ rfl rfl ?_;intro _ _ _ _ _)|(refine IdxA.strv hr rfl 1 _ rfl rfl ?_;intro _ _ _ _ _)|(refine IdxA.strv hr rfl 2 _ rfl rfl ?_;intro _ _ _ _ _)|(refine IdxA.strv hr rfl 3 _ rfl rfl ?_;intro _ _ _ _ _)|(refine BndH.nat 2 rfl (by omega) ?_)|(refine BndH.nat 1 rfl (by omega) ?_)|(refine(cp _ (by exact Vc.xt)).mono ?_;rintro _ _ ⟨rfl,rfl⟩)|(refine(cp2 _ (by exact Vc.xt)).mono ?_;rintro _ _ ⟨rfl,rfl⟩)|(refine(rquoted_any _ _).mono ?_;rintro _ _ ⟨rfl,rfl⟩)|(refine PureH.build0 (lineC 0 [] [] [] 0 false) (by kernel_rfl) ?_)|(refine PureH.build3 (lineC 0 x y [] 0 false) (by kernel_rfl) ?_)|refine Vc.stp ?_|refine Vc.spl ?_ ?_)<;>(intros;(conv=>whnf)))))
    all_goals exact⟨by rw[show lineF (w::[x,y])=none from by simp[lineF,hK,twoF,hpx,hpy]];exact⟨_,_,_,_,_,_,rfl⟩,by exact Vc.xt⟩
  ·cases hpy:plainW y
   ·have hpa:(w::[x,y]).all plainW=false:=by simp[hpw,hpx,hpy]
    rw[hpa]at cp
    ((conv=>whnf);repeat(any_goals((first|(refine IdxA.strv hr rfl 0 _ rfl rfl ?_;intro _ _ _ _ _)|(refine IdxA.strv hr rfl 1 _ rfl rfl ?_;intro _ _ _ _ _)|(refine IdxA.strv hr rfl 2 _ rfl rfl ?_;intro _ _ _ _ _)|(refine IdxA.strv hr rfl 3 _ rfl rfl ?_;intro _ _ _ _ _)|(refine BndH.nat 2 rfl (by omega) ?_)|(refine BndH.nat 1 rfl (by omega) ?_)|(refine(cp _ (by exact Vc.xt)).mono ?_;rintro _ _ ⟨rfl,rfl⟩)|(refine(cp2 _ (by exact Vc.xt)).mono ?_;rintro _ _ ⟨rfl,rfl⟩)|(refine(rquoted_any _ _).mono ?_;rintro _ _ ⟨rfl,rfl⟩)|(refine PureH.build0 (lineC 0 [] [] [] 0 false) (by kernel_rfl) ?_)|(refine PureH.build3 (lineC 0 x y [] 0 false) (by kernel_rfl) ?_)|refine Vc.stp ?_|refine Vc.spl ?_ ?_)<;>(intros;(conv=>whnf)))))
    all_goals exact⟨by rw[show lineF (w::[x,y])=none from by simp[lineF,hK,twoF,hpx,hpy]];exact⟨_,_,_,_,_,_,rfl⟩,by exact Vc.xt⟩
   ·have hpa:(w::[x,y]).all plainW=true:=by simp[hpw,hpx,hpy]
    rw[hpa]at cp
    ((conv=>whnf);repeat(any_goals((first|(refine IdxA.strv hr rfl 0 _ rfl rfl ?_;intro _ _ _ _ _)|(refine IdxA.strv hr rfl 1 _ rfl rfl ?_;intro _ _ _ _ _)|(refine IdxA.strv hr rfl 2 _ rfl rfl ?_;intro _ _ _ _ _)|(refine IdxA.strv hr rfl 3 _ rfl rfl ?_;intro _ _ _ _ _)|(refine BndH.nat 2 rfl (by omega) ?_)|(refine BndH.nat 1 rfl (by omega) ?_)|(refine(cp _ (by exact Vc.xt)).mono ?_;rintro _ _ ⟨rfl,rfl⟩)|(refine(cp2 _ (by exact Vc.xt)).mono ?_;rintro _ _ ⟨rfl,rfl⟩)|(refine(rquoted_any _ _).mono ?_;rintro _ _ ⟨rfl,rfl⟩)|(refine PureH.build0 (lineC 0 [] [] [] 0 false) (by kernel_rfl) ?_)|(refine PureH.build3 (lineC 0 x y [] 0 false) (by kernel_rfl) ?_)|refine Vc.stp ?_|refine Vc.spl ?_ ?_)<;>(intros;(conv=>whnf)))))
    all_goals exact⟨by rw[show lineF (w::[x,y])=some ⟨0,x,y,[],0,false⟩from by simp[lineF,hK,twoF,hpx,hpy]];rfl,by exact Vc.xt⟩
 |x::y::z::t,hr,hc,hm,hwl=>
  have hlen:(w::(x::y::z::t:List Bs)).length=t.length+3+1:=by simp
  simp only[List.length_cons,List.length_nil]at hc hm
  have hlx:x.length≤1000000000:=hwl x (by simp)
  have hly:y.length≤1000000000:=hwl y (by simp)
  have hlz:z.length≤1000000000:=hwl z (by simp)
  ((conv=>whnf);repeat(any_goals((first|(refine IdxA.strv hr rfl 0 _ rfl rfl ?_;intro _ _ _ _ _)|(refine IdxA.strv hr rfl 1 _ rfl rfl ?_;intro _ _ _ _ _)|(refine IdxA.strv hr rfl 2 _ rfl rfl ?_;intro _ _ _ _ _)|(refine IdxA.strv hr rfl 3 _ rfl rfl ?_;intro _ _ _ _ _)|(refine BndH.nat 2 rfl (by omega) ?_)|(refine BndH.nat 1 rfl (by omega) ?_)|(refine(cp _ (by exact Vc.xt)).mono ?_;rintro _ _ ⟨rfl,rfl⟩)|(refine(cp2 _ (by exact Vc.xt)).mono ?_;rintro _ _ ⟨rfl,rfl⟩)|(refine(rquoted_any _ _).mono ?_;rintro _ _ ⟨rfl,rfl⟩)|(refine PureH.build0 (lineC 0 [] [] [] 0 false) (by kernel_rfl) ?_)|refine Vc.stp ?_|refine Vc.spl ?_ ?_)<;>(intros;(conv=>whnf)))))
  all_goals exact⟨by rw[show lineF (w::(x::y::z::t))=none from by simp[lineF,hK,twoF]];exact⟨_,_,_,_,_,_,rfl⟩,by exact Vc.xt⟩
set_option maxHeartbeats 4000000 in
theorem rline_1 (w:Bs) (ws:List Bs) (a:Option Addr) (cap:Nat) (H:Heap) (hr:Row H a (strs (w::ws))) (hc:(w::ws).length≤cap) (hm:(w::ws).length≤1000000000) (hwl: ∀ x∈w::ws,x.length≤1000000000) (hK:kindF w=1):CallH Tryz.prog 59 [.slice a (w::ws).length cap] H fun v H'=>readR v (lineF (w::ws))∧Ext H H':=by
 refine Vc.CallH.body Tryz.func59 Tryz.call59 rfl (by decide+kernel) rfl ?_
 have hw:w=kws.getD 1 []:=kind_eq hK (by decide)
 have e0:((mkS w).toList==(⟨#[99,111,112,121]⟩:ByteArray).toList)=false:=kw_f hK 0 (by decide) (by decide)
 have e1:((mkS w).toList==(⟨#[119,114,105,116,101]⟩:ByteArray).toList)=true:=kw_t hK 1 (by decide) rfl
 have e2:((mkS w).toList==(⟨#[97,112,112,101,110,100]⟩:ByteArray).toList)=false:=kw_f hK 2 (by decide) (by decide)
 have e3:((mkS w).toList==(⟨#[109,107,100,105,114]⟩:ByteArray).toList)=false:=kw_f hK 3 (by decide) (by decide)
 have e4:((mkS w).toList==(⟨#[114,101,109,111,118,101]⟩:ByteArray).toList)=false:=kw_f hK 4 (by decide) (by decide)
 have e5:((mkS w).toList==(⟨#[114,101,110,97,109,101]⟩:ByteArray).toList)=false:=kw_f hK 5 (by decide) (by decide)
 have e6:((mkS w).toList==(⟨#[115,101,116]⟩:ByteArray).toList)=false:=kw_f hK 6 (by decide) (by decide)
 have e7:((mkS w).toList==(⟨#[105,102]⟩:ByteArray).toList)=false:=kw_f hK 7 (by decide) (by decide)
 have e8:((mkS w).toList==(⟨#[114,101,112,101,97,116]⟩:ByteArray).toList)=false:=kw_f hK 8 (by decide) (by decide)
 have e9:((mkS w).toList==(⟨#[101,108,115,101]⟩:ByteArray).toList)=false:=kw_f hK 9 (by decide) (by decide)
 have e10:((mkS w).toList==(⟨#[101,110,100]⟩:ByteArray).toList)=false:=kw_f hK 10 (by decide) (by decide)
 have e11:((mkS w).toList==(⟨#[102,97,105,108]⟩:ByteArray).toList)=false:=kw_f hK 11 (by decide) (by decide)
 have hpw:plainW w=true:=by rw[hw];rfl
 match ws,hr,hc,hm,hwl with
 |[],hr,hc,hm,hwl=>
  have hlen:(w::([]:List Bs)).length=0+1:=by simp
  simp only[List.length_cons,List.length_nil]at hc hm
  ((conv=>whnf);repeat(any_goals((first|(refine IdxA.strv hr rfl 0 _ rfl rfl ?_;intro _ _ _ _ _)|(refine IdxA.strv hr rfl 1 _ rfl rfl ?_;intro _ _ _ _ _)|(refine IdxA.strv hr rfl 2 _ rfl rfl ?_;intro _ _ _ _ _)|(refine IdxA.strv hr rfl 3 _ rfl rfl ?_;intro _ _ _ _ _)|(refine BndH.nat 2 rfl (by omega) ?_)|(refine BndH.nat 1 rfl (by omega) ?_)|(refine(cp _ (by exact Vc.xt)).mono ?_;rintro _ _ ⟨rfl,rfl⟩)|(refine(cp2 _ (by exact Vc.xt)).mono ?_;rintro _ _ ⟨rfl,rfl⟩)|(refine(rquoted_any _ _).mono ?_;rintro _ _ ⟨rfl,rfl⟩)|(refine PureH.build0 (lineC 0 [] [] [] 0 false) (by kernel_rfl) ?_)|refine Vc.stp ?_|refine Vc.spl ?_ ?_)<;>(intros;(conv=>whnf)))))
  all_goals exact⟨by rw[show lineF (w::[])=none from by simp[lineF,hK,textF]];exact⟨_,_,_,_,_,_,rfl⟩,by exact Vc.xt⟩
 |[x],hr,hc,hm,hwl=>
  have hlen:(w::([x]:List Bs)).length=1+1:=by simp
  simp only[List.length_cons,List.length_nil]at hc hm
  have hlx:x.length≤1000000000:=hwl x (by simp)
  ((conv=>whnf);repeat(any_goals((first|(refine IdxA.strv hr rfl 0 _ rfl rfl ?_;intro _ _ _ _ _)|(refine IdxA.strv hr rfl 1 _ rfl rfl ?_;intro _ _ _ _ _)|(refine IdxA.strv hr rfl 2 _ rfl rfl ?_;intro _ _ _ _ _)|(refine IdxA.strv hr rfl 3 _ rfl rfl ?_;intro _ _ _ _ _)|(refine BndH.nat 2 rfl (by omega) ?_)|(refine BndH.nat 1 rfl (by omega) ?_)|(refine(cp _ (by exact Vc.xt)).mono ?_;rintro _ _ ⟨rfl,rfl⟩)|(refine(cp2 _ (by exact Vc.xt)).mono ?_;rintro _ _ ⟨rfl,rfl⟩)|(refine(rquoted_any _ _).mono ?_;rintro _ _ ⟨rfl,rfl⟩)|(refine PureH.build0 (lineC 0 [] [] [] 0 false) (by kernel_rfl) ?_)|refine Vc.stp ?_|refine Vc.spl ?_ ?_)<;>(intros;(conv=>whnf)))))
  all_goals exact⟨by rw[show lineF (w::[x])=none from by simp[lineF,hK,textF]];exact⟨_,_,_,_,_,_,rfl⟩,by exact Vc.xt⟩
 |[x,y],hr,hc,hm,hwl=>
  have hlen:(w::([x,y]:List Bs)).length=2+1:=by simp
  simp only[List.length_cons,List.length_nil]at hc hm
  have hlx:x.length≤1000000000:=hwl x (by simp)
  have hly:y.length≤1000000000:=hwl y (by simp)
  have cp2:=fun H2 (k:Ext H H2)=>rplain_any [w,x] a 2 cap H2 ((hr.ext k).take 2) rfl (by decide)
  cases hpx:plainW x
  ·cases hpy:plainW y
   ·have hpa:[w,x].all plainW=false:=by simp[hpw,hpx]
    rw[hpa]at cp2
    have hzy:1≤y.length:=plain_pos hpy
    have hszy:(mkS y).size=y.length:=rfl
    ((conv=>whnf);repeat(any_goals((first|(refine IdxA.strv hr rfl 0 _ rfl rfl ?_;intro _ _ _ _ _)|(refine IdxA.strv hr rfl 1 _ rfl rfl ?_;intro _ _ _ _ _)|(refine IdxA.strv hr rfl 2 _ rfl rfl ?_;intro _ _ _ _ _)|(refine IdxA.strv hr rfl 3 _ rfl rfl ?_;intro _ _ _ _ _)|(refine BndH.nat 2 rfl (by omega) ?_)|(refine BndH.nat 1 rfl (by omega) ?_)|(refine(cp _ (by exact Vc.xt)).mono ?_;rintro _ _ ⟨rfl,rfl⟩)|(refine(cp2 _ (by exact Vc.xt)).mono ?_;rintro _ _ ⟨rfl,rfl⟩)|(refine(rquoted_any _ _).mono ?_;rintro _ _ ⟨rfl,rfl⟩)|(refine PureH.build0 (lineC 0 [] [] [] 0 false) (by kernel_rfl) ?_)|(refine PureH.build3 #[.int .i64 1,.string (mkS x),.string (mkS []),.string ((mkS y).extract 1 (mkS y).size),.int .i64 0,.bool false] (by kernel_rfl) ?_)|refine Vc.stp ?_|refine Vc.spl ?_ ?_)<;>(intros;(conv=>whnf)))))
    all_goals exact⟨by rw[show lineF (w::[x,y])=none from by simp[lineF,hK,textF,hpx,hpy]];exact⟨_,_,_,_,_,_,rfl⟩,by exact Vc.xt⟩
   ·have hpa:[w,x].all plainW=false:=by simp[hpw,hpx]
    rw[hpa]at cp2
    ((conv=>whnf);repeat(any_goals((first|(refine IdxA.strv hr rfl 0 _ rfl rfl ?_;intro _ _ _ _ _)|(refine IdxA.strv hr rfl 1 _ rfl rfl ?_;intro _ _ _ _ _)|(refine IdxA.strv hr rfl 2 _ rfl rfl ?_;intro _ _ _ _ _)|(refine IdxA.strv hr rfl 3 _ rfl rfl ?_;intro _ _ _ _ _)|(refine BndH.nat 2 rfl (by omega) ?_)|(refine BndH.nat 1 rfl (by omega) ?_)|(refine(cp _ (by exact Vc.xt)).mono ?_;rintro _ _ ⟨rfl,rfl⟩)|(refine(cp2 _ (by exact Vc.xt)).mono ?_;rintro _ _ ⟨rfl,rfl⟩)|(refine(rquoted_any _ _).mono ?_;rintro _ _ ⟨rfl,rfl⟩)|(refine PureH.build0 (lineC 0 [] [] [] 0 false) (by kernel_rfl) ?_)|(refine PureH.build3 #[.int .i64 1,.string (mkS x),.string (mkS []),.string ((mkS y).extract 1 (mkS y).size),.int .i64 0,.bool false] (by kernel_rfl) ?_)|refine Vc.stp ?_|refine Vc.spl ?_ ?_)<;>(intros;(conv=>whnf)))))
    all_goals exact⟨by rw[show lineF (w::[x,y])=none from by simp[lineF,hK,textF,hpx,hpy]];exact⟨_,_,_,_,_,_,rfl⟩,by exact Vc.xt⟩
  ·cases hpy:plainW y
   ·have hpa:[w,x].all plainW=true:=by simp[hpw,hpx]
    rw[hpa]at cp2
    have hzy:1≤y.length:=plain_pos hpy
    have hszy:(mkS y).size=y.length:=rfl
    ((conv=>whnf);repeat(any_goals((first|(refine IdxA.strv hr rfl 0 _ rfl rfl ?_;intro _ _ _ _ _)|(refine IdxA.strv hr rfl 1 _ rfl rfl ?_;intro _ _ _ _ _)|(refine IdxA.strv hr rfl 2 _ rfl rfl ?_;intro _ _ _ _ _)|(refine IdxA.strv hr rfl 3 _ rfl rfl ?_;intro _ _ _ _ _)|(refine BndH.nat 2 rfl (by omega) ?_)|(refine BndH.nat 1 rfl (by omega) ?_)|(refine(cp _ (by exact Vc.xt)).mono ?_;rintro _ _ ⟨rfl,rfl⟩)|(refine(cp2 _ (by exact Vc.xt)).mono ?_;rintro _ _ ⟨rfl,rfl⟩)|(refine(rquoted_any _ _).mono ?_;rintro _ _ ⟨rfl,rfl⟩)|(refine PureH.build0 (lineC 0 [] [] [] 0 false) (by kernel_rfl) ?_)|(refine PureH.build3 #[.int .i64 1,.string (mkS x),.string (mkS []),.string ((mkS y).extract 1 (mkS y).size),.int .i64 0,.bool false] (by kernel_rfl) ?_)|refine Vc.stp ?_|refine Vc.spl ?_ ?_)<;>(intros;(conv=>whnf)))))
    all_goals exact⟨by rw[show lineF (w::[x,y])=some ⟨1,x,[],y.tail,0,false⟩from by simp[lineF,hK,textF,hpx,hpy]];show Value.tuple #[.agg #[.int .i64 1,.string (mkS x),.string (mkS []),.string ((mkS y).extract 1 (mkS y).size),.int .i64 0,.bool false],.bool true]=_;rw[mkS_drop,List.drop_one];rfl,by exact Vc.xt⟩
   ·have hpa:[w,x].all plainW=true:=by simp[hpw,hpx]
    rw[hpa]at cp2
    ((conv=>whnf);repeat(any_goals((first|(refine IdxA.strv hr rfl 0 _ rfl rfl ?_;intro _ _ _ _ _)|(refine IdxA.strv hr rfl 1 _ rfl rfl ?_;intro _ _ _ _ _)|(refine IdxA.strv hr rfl 2 _ rfl rfl ?_;intro _ _ _ _ _)|(refine IdxA.strv hr rfl 3 _ rfl rfl ?_;intro _ _ _ _ _)|(refine BndH.nat 2 rfl (by omega) ?_)|(refine BndH.nat 1 rfl (by omega) ?_)|(refine(cp _ (by exact Vc.xt)).mono ?_;rintro _ _ ⟨rfl,rfl⟩)|(refine(cp2 _ (by exact Vc.xt)).mono ?_;rintro _ _ ⟨rfl,rfl⟩)|(refine(rquoted_any _ _).mono ?_;rintro _ _ ⟨rfl,rfl⟩)|(refine PureH.build0 (lineC 0 [] [] [] 0 false) (by kernel_rfl) ?_)|(refine PureH.build3 #[.int .i64 1,.string (mkS x),.string (mkS []),.string ((mkS y).extract 1 (mkS y).size),.int .i64 0,.bool false] (by kernel_rfl) ?_)|refine Vc.stp ?_|refine Vc.spl ?_ ?_)<;>(intros;(conv=>whnf)))))
    all_goals exact⟨by rw[show lineF (w::[x,y])=none from by simp[lineF,hK,textF,hpx,hpy]];exact⟨_,_,_,_,_,_,rfl⟩,by exact Vc.xt⟩
 |x::y::z::t,hr,hc,hm,hwl=>
  have hlen:(w::(x::y::z::t:List Bs)).length=t.length+3+1:=by simp
  simp only[List.length_cons,List.length_nil]at hc hm
  have hlx:x.length≤1000000000:=hwl x (by simp)
  have hly:y.length≤1000000000:=hwl y (by simp)
  have hlz:z.length≤1000000000:=hwl z (by simp)
  ((conv=>whnf);repeat(any_goals((first|(refine IdxA.strv hr rfl 0 _ rfl rfl ?_;intro _ _ _ _ _)|(refine IdxA.strv hr rfl 1 _ rfl rfl ?_;intro _ _ _ _ _)|(refine IdxA.strv hr rfl 2 _ rfl rfl ?_;intro _ _ _ _ _)|(refine IdxA.strv hr rfl 3 _ rfl rfl ?_;intro _ _ _ _ _)|(refine BndH.nat 2 rfl (by omega) ?_)|(refine BndH.nat 1 rfl (by omega) ?_)|(refine(cp _ (by exact Vc.xt)).mono ?_;rintro _ _ ⟨rfl,rfl⟩)|(refine(cp2 _ (by exact Vc.xt)).mono ?_;rintro _ _ ⟨rfl,rfl⟩)|(refine(rquoted_any _ _).mono ?_;rintro _ _ ⟨rfl,rfl⟩)|(refine PureH.build0 (lineC 0 [] [] [] 0 false) (by kernel_rfl) ?_)|refine Vc.stp ?_|refine Vc.spl ?_ ?_)<;>(intros;(conv=>whnf)))))
  all_goals exact⟨by rw[show lineF (w::(x::y::z::t))=none from by simp[lineF,hK,textF]];exact⟨_,_,_,_,_,_,rfl⟩,by exact Vc.xt⟩
set_option maxHeartbeats 4000000 in
theorem rline_2 (w:Bs) (ws:List Bs) (a:Option Addr) (cap:Nat) (H:Heap) (hr:Row H a (strs (w::ws))) (hc:(w::ws).length≤cap) (hm:(w::ws).length≤1000000000) (hwl: ∀ x∈w::ws,x.length≤1000000000) (hK:kindF w=2):CallH Tryz.prog 59 [.slice a (w::ws).length cap] H fun v H'=>readR v (lineF (w::ws))∧Ext H H':=by
 refine Vc.CallH.body Tryz.func59 Tryz.call59 rfl (by decide+kernel) rfl ?_
 have hw:w=kws.getD 2 []:=kind_eq hK (by decide)
 have e0:((mkS w).toList==(⟨#[99,111,112,121]⟩:ByteArray).toList)=false:=kw_f hK 0 (by decide) (by decide)
 have e1:((mkS w).toList==(⟨#[119,114,105,116,101]⟩:ByteArray).toList)=false:=kw_f hK 1 (by decide) (by decide)
 have e2:((mkS w).toList==(⟨#[97,112,112,101,110,100]⟩:ByteArray).toList)=true:=kw_t hK 2 (by decide) rfl
 have e3:((mkS w).toList==(⟨#[109,107,100,105,114]⟩:ByteArray).toList)=false:=kw_f hK 3 (by decide) (by decide)
 have e4:((mkS w).toList==(⟨#[114,101,109,111,118,101]⟩:ByteArray).toList)=false:=kw_f hK 4 (by decide) (by decide)
 have e5:((mkS w).toList==(⟨#[114,101,110,97,109,101]⟩:ByteArray).toList)=false:=kw_f hK 5 (by decide) (by decide)
 have e6:((mkS w).toList==(⟨#[115,101,116]⟩:ByteArray).toList)=false:=kw_f hK 6 (by decide) (by decide)
 have e7:((mkS w).toList==(⟨#[105,102]⟩:ByteArray).toList)=false:=kw_f hK 7 (by decide) (by decide)
 have e8:((mkS w).toList==(⟨#[114,101,112,101,97,116]⟩:ByteArray).toList)=false:=kw_f hK 8 (by decide) (by decide)
 have e9:((mkS w).toList==(⟨#[101,108,115,101]⟩:ByteArray).toList)=false:=kw_f hK 9 (by decide) (by decide)
 have e10:((mkS w).toList==(⟨#[101,110,100]⟩:ByteArray).toList)=false:=kw_f hK 10 (by decide) (by decide)
 have e11:((mkS w).toList==(⟨#[102,97,105,108]⟩:ByteArray).toList)=false:=kw_f hK 11 (by decide) (by decide)
 have hpw:plainW w=true:=by rw[hw];rfl
 match ws,hr,hc,hm,hwl with
 |[],hr,hc,hm,hwl=>
  have hlen:(w::([]:List Bs)).length=0+1:=by simp
  simp only[List.length_cons,List.length_nil]at hc hm
  ((conv=>whnf);repeat(any_goals((first|(refine IdxA.strv hr rfl 0 _ rfl rfl ?_;intro _ _ _ _ _)|(refine IdxA.strv hr rfl 1 _ rfl rfl ?_;intro _ _ _ _ _)|(refine IdxA.strv hr rfl 2 _ rfl rfl ?_;intro _ _ _ _ _)|(refine IdxA.strv hr rfl 3 _ rfl rfl ?_;intro _ _ _ _ _)|(refine BndH.nat 2 rfl (by omega) ?_)|(refine BndH.nat 1 rfl (by omega) ?_)|(refine(cp _ (by exact Vc.xt)).mono ?_;rintro _ _ ⟨rfl,rfl⟩)|(refine(cp2 _ (by exact Vc.xt)).mono ?_;rintro _ _ ⟨rfl,rfl⟩)|(refine(rquoted_any _ _).mono ?_;rintro _ _ ⟨rfl,rfl⟩)|(refine PureH.build0 (lineC 0 [] [] [] 0 false) (by kernel_rfl) ?_)|refine Vc.stp ?_|refine Vc.spl ?_ ?_)<;>(intros;(conv=>whnf)))))
  all_goals exact⟨by rw[show lineF (w::[])=none from by simp[lineF,hK,textF]];exact⟨_,_,_,_,_,_,rfl⟩,by exact Vc.xt⟩
 |[x],hr,hc,hm,hwl=>
  have hlen:(w::([x]:List Bs)).length=1+1:=by simp
  simp only[List.length_cons,List.length_nil]at hc hm
  have hlx:x.length≤1000000000:=hwl x (by simp)
  ((conv=>whnf);repeat(any_goals((first|(refine IdxA.strv hr rfl 0 _ rfl rfl ?_;intro _ _ _ _ _)|(refine IdxA.strv hr rfl 1 _ rfl rfl ?_;intro _ _ _ _ _)|(refine IdxA.strv hr rfl 2 _ rfl rfl ?_;intro _ _ _ _ _)|(refine IdxA.strv hr rfl 3 _ rfl rfl ?_;intro _ _ _ _ _)|(refine BndH.nat 2 rfl (by omega) ?_)|(refine BndH.nat 1 rfl (by omega) ?_)|(refine(cp _ (by exact Vc.xt)).mono ?_;rintro _ _ ⟨rfl,rfl⟩)|(refine(cp2 _ (by exact Vc.xt)).mono ?_;rintro _ _ ⟨rfl,rfl⟩)|(refine(rquoted_any _ _).mono ?_;rintro _ _ ⟨rfl,rfl⟩)|(refine PureH.build0 (lineC 0 [] [] [] 0 false) (by kernel_rfl) ?_)|refine Vc.stp ?_|refine Vc.spl ?_ ?_)<;>(intros;(conv=>whnf)))))
  all_goals exact⟨by rw[show lineF (w::[x])=none from by simp[lineF,hK,textF]];exact⟨_,_,_,_,_,_,rfl⟩,by exact Vc.xt⟩
 |[x,y],hr,hc,hm,hwl=>
  have hlen:(w::([x,y]:List Bs)).length=2+1:=by simp
  simp only[List.length_cons,List.length_nil]at hc hm
  have hlx:x.length≤1000000000:=hwl x (by simp)
  have hly:y.length≤1000000000:=hwl y (by simp)
  have cp2:=fun H2 (k:Ext H H2)=>rplain_any [w,x] a 2 cap H2 ((hr.ext k).take 2) rfl (by decide)
  cases hpx:plainW x
  ·cases hpy:plainW y
   ·have hpa:[w,x].all plainW=false:=by simp[hpw,hpx]
    rw[hpa]at cp2
    have hzy:1≤y.length:=plain_pos hpy
    have hszy:(mkS y).size=y.length:=rfl
    ((conv=>whnf);repeat(any_goals((first|(refine IdxA.strv hr rfl 0 _ rfl rfl ?_;intro _ _ _ _ _)|(refine IdxA.strv hr rfl 1 _ rfl rfl ?_;intro _ _ _ _ _)|(refine IdxA.strv hr rfl 2 _ rfl rfl ?_;intro _ _ _ _ _)|(refine IdxA.strv hr rfl 3 _ rfl rfl ?_;intro _ _ _ _ _)|(refine BndH.nat 2 rfl (by omega) ?_)|(refine BndH.nat 1 rfl (by omega) ?_)|(refine(cp _ (by exact Vc.xt)).mono ?_;rintro _ _ ⟨rfl,rfl⟩)|(refine(cp2 _ (by exact Vc.xt)).mono ?_;rintro _ _ ⟨rfl,rfl⟩)|(refine(rquoted_any _ _).mono ?_;rintro _ _ ⟨rfl,rfl⟩)|(refine PureH.build0 (lineC 0 [] [] [] 0 false) (by kernel_rfl) ?_)|(refine PureH.build3 #[.int .i64 2,.string (mkS x),.string (mkS []),.string ((mkS y).extract 1 (mkS y).size),.int .i64 0,.bool false] (by kernel_rfl) ?_)|refine Vc.stp ?_|refine Vc.spl ?_ ?_)<;>(intros;(conv=>whnf)))))
    all_goals exact⟨by rw[show lineF (w::[x,y])=none from by simp[lineF,hK,textF,hpx,hpy]];exact⟨_,_,_,_,_,_,rfl⟩,by exact Vc.xt⟩
   ·have hpa:[w,x].all plainW=false:=by simp[hpw,hpx]
    rw[hpa]at cp2
    ((conv=>whnf);repeat(any_goals((first|(refine IdxA.strv hr rfl 0 _ rfl rfl ?_;intro _ _ _ _ _)|(refine IdxA.strv hr rfl 1 _ rfl rfl ?_;intro _ _ _ _ _)|(refine IdxA.strv hr rfl 2 _ rfl rfl ?_;intro _ _ _ _ _)|(refine IdxA.strv hr rfl 3 _ rfl rfl ?_;intro _ _ _ _ _)|(refine BndH.nat 2 rfl (by omega) ?_)|(refine BndH.nat 1 rfl (by omega) ?_)|(refine(cp _ (by exact Vc.xt)).mono ?_;rintro _ _ ⟨rfl,rfl⟩)|(refine(cp2 _ (by exact Vc.xt)).mono ?_;rintro _ _ ⟨rfl,rfl⟩)|(refine(rquoted_any _ _).mono ?_;rintro _ _ ⟨rfl,rfl⟩)|(refine PureH.build0 (lineC 0 [] [] [] 0 false) (by kernel_rfl) ?_)|(refine PureH.build3 #[.int .i64 2,.string (mkS x),.string (mkS []),.string ((mkS y).extract 1 (mkS y).size),.int .i64 0,.bool false] (by kernel_rfl) ?_)|refine Vc.stp ?_|refine Vc.spl ?_ ?_)<;>(intros;(conv=>whnf)))))
    all_goals exact⟨by rw[show lineF (w::[x,y])=none from by simp[lineF,hK,textF,hpx,hpy]];exact⟨_,_,_,_,_,_,rfl⟩,by exact Vc.xt⟩
  ·cases hpy:plainW y
   ·have hpa:[w,x].all plainW=true:=by simp[hpw,hpx]
    rw[hpa]at cp2
    have hzy:1≤y.length:=plain_pos hpy
    have hszy:(mkS y).size=y.length:=rfl
    ((conv=>whnf);repeat(any_goals((first|(refine IdxA.strv hr rfl 0 _ rfl rfl ?_;intro _ _ _ _ _)|(refine IdxA.strv hr rfl 1 _ rfl rfl ?_;intro _ _ _ _ _)|(refine IdxA.strv hr rfl 2 _ rfl rfl ?_;intro _ _ _ _ _)|(refine IdxA.strv hr rfl 3 _ rfl rfl ?_;intro _ _ _ _ _)|(refine BndH.nat 2 rfl (by omega) ?_)|(refine BndH.nat 1 rfl (by omega) ?_)|(refine(cp _ (by exact Vc.xt)).mono ?_;rintro _ _ ⟨rfl,rfl⟩)|(refine(cp2 _ (by exact Vc.xt)).mono ?_;rintro _ _ ⟨rfl,rfl⟩)|(refine(rquoted_any _ _).mono ?_;rintro _ _ ⟨rfl,rfl⟩)|(refine PureH.build0 (lineC 0 [] [] [] 0 false) (by kernel_rfl) ?_)|(refine PureH.build3 #[.int .i64 2,.string (mkS x),.string (mkS []),.string ((mkS y).extract 1 (mkS y).size),.int .i64 0,.bool false] (by kernel_rfl) ?_)|refine Vc.stp ?_|refine Vc.spl ?_ ?_)<;>(intros;(conv=>whnf)))))
    all_goals exact⟨by rw[show lineF (w::[x,y])=some ⟨2,x,[],y.tail,0,false⟩from by simp[lineF,hK,textF,hpx,hpy]];show Value.tuple #[.agg #[.int .i64 2,.string (mkS x),.string (mkS []),.string ((mkS y).extract 1 (mkS y).size),.int .i64 0,.bool false],.bool true]=_;rw[mkS_drop,List.drop_one];rfl,by exact Vc.xt⟩
   ·have hpa:[w,x].all plainW=true:=by simp[hpw,hpx]
    rw[hpa]at cp2
    ((conv=>whnf);repeat(any_goals((first|(refine IdxA.strv hr rfl 0 _ rfl rfl ?_;intro _ _ _ _ _)|(refine IdxA.strv hr rfl 1 _ rfl rfl ?_;intro _ _ _ _ _)|(refine IdxA.strv hr rfl 2 _ rfl rfl ?_;intro _ _ _ _ _)|(refine IdxA.strv hr rfl 3 _ rfl rfl ?_;intro _ _ _ _ _)|(refine BndH.nat 2 rfl (by omega) ?_)|(refine BndH.nat 1 rfl (by omega) ?_)|(refine(cp _ (by exact Vc.xt)).mono ?_;rintro _ _ ⟨rfl,rfl⟩)|(refine(cp2 _ (by exact Vc.xt)).mono ?_;rintro _ _ ⟨rfl,rfl⟩)|(refine(rquoted_any _ _).mono ?_;rintro _ _ ⟨rfl,rfl⟩)|(refine PureH.build0 (lineC 0 [] [] [] 0 false) (by kernel_rfl) ?_)|(refine PureH.build3 #[.int .i64 2,.string (mkS x),.string (mkS []),.string ((mkS y).extract 1 (mkS y).size),.int .i64 0,.bool false] (by kernel_rfl) ?_)|refine Vc.stp ?_|refine Vc.spl ?_ ?_)<;>(intros;(conv=>whnf)))))
    all_goals exact⟨by rw[show lineF (w::[x,y])=none from by simp[lineF,hK,textF,hpx,hpy]];exact⟨_,_,_,_,_,_,rfl⟩,by exact Vc.xt⟩
 |x::y::z::t,hr,hc,hm,hwl=>
  have hlen:(w::(x::y::z::t:List Bs)).length=t.length+3+1:=by simp
  simp only[List.length_cons,List.length_nil]at hc hm
  have hlx:x.length≤1000000000:=hwl x (by simp)
  have hly:y.length≤1000000000:=hwl y (by simp)
  have hlz:z.length≤1000000000:=hwl z (by simp)
  ((conv=>whnf);repeat(any_goals((first|(refine IdxA.strv hr rfl 0 _ rfl rfl ?_;intro _ _ _ _ _)|(refine IdxA.strv hr rfl 1 _ rfl rfl ?_;intro _ _ _ _ _)|(refine IdxA.strv hr rfl 2 _ rfl rfl ?_;intro _ _ _ _ _)|(refine IdxA.strv hr rfl 3 _ rfl rfl ?_;intro _ _ _ _ _)|(refine BndH.nat 2 rfl (by omega) ?_)|(refine BndH.nat 1 rfl (by omega) ?_)|(refine(cp _ (by exact Vc.xt)).mono ?_;rintro _ _ ⟨rfl,rfl⟩)|(refine(cp2 _ (by exact Vc.xt)).mono ?_;rintro _ _ ⟨rfl,rfl⟩)|(refine(rquoted_any _ _).mono ?_;rintro _ _ ⟨rfl,rfl⟩)|(refine PureH.build0 (lineC 0 [] [] [] 0 false) (by kernel_rfl) ?_)|refine Vc.stp ?_|refine Vc.spl ?_ ?_)<;>(intros;(conv=>whnf)))))
  all_goals exact⟨by rw[show lineF (w::(x::y::z::t))=none from by simp[lineF,hK,textF]];exact⟨_,_,_,_,_,_,rfl⟩,by exact Vc.xt⟩
set_option maxHeartbeats 4000000 in
theorem rline_3 (w:Bs) (ws:List Bs) (a:Option Addr) (cap:Nat) (H:Heap) (hr:Row H a (strs (w::ws))) (hc:(w::ws).length≤cap) (hm:(w::ws).length≤1000000000) (hwl: ∀ x∈w::ws,x.length≤1000000000) (hK:kindF w=3):CallH Tryz.prog 59 [.slice a (w::ws).length cap] H fun v H'=>readR v (lineF (w::ws))∧Ext H H':=by
 refine Vc.CallH.body Tryz.func59 Tryz.call59 rfl (by decide+kernel) rfl ?_
 have hw:w=kws.getD 3 []:=kind_eq hK (by decide)
 have e0:((mkS w).toList==(⟨#[99,111,112,121]⟩:ByteArray).toList)=false:=kw_f hK 0 (by decide) (by decide)
 have e1:((mkS w).toList==(⟨#[119,114,105,116,101]⟩:ByteArray).toList)=false:=kw_f hK 1 (by decide) (by decide)
 have e2:((mkS w).toList==(⟨#[97,112,112,101,110,100]⟩:ByteArray).toList)=false:=kw_f hK 2 (by decide) (by decide)
 have e3:((mkS w).toList==(⟨#[109,107,100,105,114]⟩:ByteArray).toList)=true:=kw_t hK 3 (by decide) rfl
 have e4:((mkS w).toList==(⟨#[114,101,109,111,118,101]⟩:ByteArray).toList)=false:=kw_f hK 4 (by decide) (by decide)
 have e5:((mkS w).toList==(⟨#[114,101,110,97,109,101]⟩:ByteArray).toList)=false:=kw_f hK 5 (by decide) (by decide)
 have e6:((mkS w).toList==(⟨#[115,101,116]⟩:ByteArray).toList)=false:=kw_f hK 6 (by decide) (by decide)
 have e7:((mkS w).toList==(⟨#[105,102]⟩:ByteArray).toList)=false:=kw_f hK 7 (by decide) (by decide)
 have e8:((mkS w).toList==(⟨#[114,101,112,101,97,116]⟩:ByteArray).toList)=false:=kw_f hK 8 (by decide) (by decide)
 have e9:((mkS w).toList==(⟨#[101,108,115,101]⟩:ByteArray).toList)=false:=kw_f hK 9 (by decide) (by decide)
 have e10:((mkS w).toList==(⟨#[101,110,100]⟩:ByteArray).toList)=false:=kw_f hK 10 (by decide) (by decide)
 have e11:((mkS w).toList==(⟨#[102,97,105,108]⟩:ByteArray).toList)=false:=kw_f hK 11 (by decide) (by decide)
 have hpw:plainW w=true:=by rw[hw];rfl
 match ws,hr,hc,hm,hwl with
 |[],hr,hc,hm,hwl=>
  have hlen:(w::([]:List Bs)).length=0+1:=by simp
  simp only[List.length_cons,List.length_nil]at hc hm
  ((conv=>whnf);repeat(any_goals((first|(refine IdxA.strv hr rfl 0 _ rfl rfl ?_;intro _ _ _ _ _)|(refine IdxA.strv hr rfl 1 _ rfl rfl ?_;intro _ _ _ _ _)|(refine IdxA.strv hr rfl 2 _ rfl rfl ?_;intro _ _ _ _ _)|(refine IdxA.strv hr rfl 3 _ rfl rfl ?_;intro _ _ _ _ _)|(refine BndH.nat 2 rfl (by omega) ?_)|(refine BndH.nat 1 rfl (by omega) ?_)|(refine(cp _ (by exact Vc.xt)).mono ?_;rintro _ _ ⟨rfl,rfl⟩)|(refine(cp2 _ (by exact Vc.xt)).mono ?_;rintro _ _ ⟨rfl,rfl⟩)|(refine(rquoted_any _ _).mono ?_;rintro _ _ ⟨rfl,rfl⟩)|(refine PureH.build0 (lineC 0 [] [] [] 0 false) (by kernel_rfl) ?_)|refine Vc.stp ?_|refine Vc.spl ?_ ?_)<;>(intros;(conv=>whnf)))))
  all_goals exact⟨by rw[show lineF (w::[])=none from by simp[lineF,hK,oneF]];exact⟨_,_,_,_,_,_,rfl⟩,by exact Vc.xt⟩
 |[x],hr,hc,hm,hwl=>
  have hlen:(w::([x]:List Bs)).length=1+1:=by simp
  simp only[List.length_cons,List.length_nil]at hc hm
  have hlx:x.length≤1000000000:=hwl x (by simp)
  have cp:=fun H2 (k:Ext H H2)=>rplain_any (w::[x]) a _ cap H2 (hr.ext k) rfl hm
  cases hpx:plainW x
  ·have hpa:(w::[x]).all plainW=false:=by simp[hpw,hpx]
   rw[hpa]at cp
   ((conv=>whnf);repeat(any_goals((first|(refine IdxA.strv hr rfl 0 _ rfl rfl ?_;intro _ _ _ _ _)|(refine IdxA.strv hr rfl 1 _ rfl rfl ?_;intro _ _ _ _ _)|(refine IdxA.strv hr rfl 2 _ rfl rfl ?_;intro _ _ _ _ _)|(refine IdxA.strv hr rfl 3 _ rfl rfl ?_;intro _ _ _ _ _)|(refine BndH.nat 2 rfl (by omega) ?_)|(refine BndH.nat 1 rfl (by omega) ?_)|(refine(cp _ (by exact Vc.xt)).mono ?_;rintro _ _ ⟨rfl,rfl⟩)|(refine(cp2 _ (by exact Vc.xt)).mono ?_;rintro _ _ ⟨rfl,rfl⟩)|(refine(rquoted_any _ _).mono ?_;rintro _ _ ⟨rfl,rfl⟩)|(refine PureH.build0 (lineC 0 [] [] [] 0 false) (by kernel_rfl) ?_)|(refine PureH.build2 (lineC 3 x [] [] 0 false) (by kernel_rfl) ?_)|refine Vc.stp ?_|refine Vc.spl ?_ ?_)<;>(intros;(conv=>whnf)))))
   all_goals exact⟨by rw[show lineF (w::[x])=none from by simp[lineF,hK,oneF,hpx]];exact⟨_,_,_,_,_,_,rfl⟩,by exact Vc.xt⟩
  ·have hpa:(w::[x]).all plainW=true:=by simp[hpw,hpx]
   rw[hpa]at cp
   ((conv=>whnf);repeat(any_goals((first|(refine IdxA.strv hr rfl 0 _ rfl rfl ?_;intro _ _ _ _ _)|(refine IdxA.strv hr rfl 1 _ rfl rfl ?_;intro _ _ _ _ _)|(refine IdxA.strv hr rfl 2 _ rfl rfl ?_;intro _ _ _ _ _)|(refine IdxA.strv hr rfl 3 _ rfl rfl ?_;intro _ _ _ _ _)|(refine BndH.nat 2 rfl (by omega) ?_)|(refine BndH.nat 1 rfl (by omega) ?_)|(refine(cp _ (by exact Vc.xt)).mono ?_;rintro _ _ ⟨rfl,rfl⟩)|(refine(cp2 _ (by exact Vc.xt)).mono ?_;rintro _ _ ⟨rfl,rfl⟩)|(refine(rquoted_any _ _).mono ?_;rintro _ _ ⟨rfl,rfl⟩)|(refine PureH.build0 (lineC 0 [] [] [] 0 false) (by kernel_rfl) ?_)|(refine PureH.build2 (lineC 3 x [] [] 0 false) (by kernel_rfl) ?_)|refine Vc.stp ?_|refine Vc.spl ?_ ?_)<;>(intros;(conv=>whnf)))))
   all_goals exact⟨by rw[show lineF (w::[x])=some ⟨3,x,[],[],0,false⟩from by simp[lineF,hK,oneF,hpx]];rfl,by exact Vc.xt⟩
 |x::y::t,hr,hc,hm,hwl=>
  have hlen:(w::(x::y::t:List Bs)).length=t.length+2+1:=by simp
  simp only[List.length_cons,List.length_nil]at hc hm
  have hlx:x.length≤1000000000:=hwl x (by simp)
  have hly:y.length≤1000000000:=hwl y (by simp)
  ((conv=>whnf);repeat(any_goals((first|(refine IdxA.strv hr rfl 0 _ rfl rfl ?_;intro _ _ _ _ _)|(refine IdxA.strv hr rfl 1 _ rfl rfl ?_;intro _ _ _ _ _)|(refine IdxA.strv hr rfl 2 _ rfl rfl ?_;intro _ _ _ _ _)|(refine IdxA.strv hr rfl 3 _ rfl rfl ?_;intro _ _ _ _ _)|(refine BndH.nat 2 rfl (by omega) ?_)|(refine BndH.nat 1 rfl (by omega) ?_)|(refine(cp _ (by exact Vc.xt)).mono ?_;rintro _ _ ⟨rfl,rfl⟩)|(refine(cp2 _ (by exact Vc.xt)).mono ?_;rintro _ _ ⟨rfl,rfl⟩)|(refine(rquoted_any _ _).mono ?_;rintro _ _ ⟨rfl,rfl⟩)|(refine PureH.build0 (lineC 0 [] [] [] 0 false) (by kernel_rfl) ?_)|refine Vc.stp ?_|refine Vc.spl ?_ ?_)<;>(intros;(conv=>whnf)))))
  all_goals exact⟨by rw[show lineF (w::(x::y::t))=none from by simp[lineF,hK,oneF]];exact⟨_,_,_,_,_,_,rfl⟩,by exact Vc.xt⟩
set_option maxHeartbeats 4000000 in
theorem rline_4 (w:Bs) (ws:List Bs) (a:Option Addr) (cap:Nat) (H:Heap) (hr:Row H a (strs (w::ws))) (hc:(w::ws).length≤cap) (hm:(w::ws).length≤1000000000) (hwl: ∀ x∈w::ws,x.length≤1000000000) (hK:kindF w=4):CallH Tryz.prog 59 [.slice a (w::ws).length cap] H fun v H'=>readR v (lineF (w::ws))∧Ext H H':=by
 refine Vc.CallH.body Tryz.func59 Tryz.call59 rfl (by decide+kernel) rfl ?_
 have hw:w=kws.getD 4 []:=kind_eq hK (by decide)
 have e0:((mkS w).toList==(⟨#[99,111,112,121]⟩:ByteArray).toList)=false:=kw_f hK 0 (by decide) (by decide)
 have e1:((mkS w).toList==(⟨#[119,114,105,116,101]⟩:ByteArray).toList)=false:=kw_f hK 1 (by decide) (by decide)
 have e2:((mkS w).toList==(⟨#[97,112,112,101,110,100]⟩:ByteArray).toList)=false:=kw_f hK 2 (by decide) (by decide)
 have e3:((mkS w).toList==(⟨#[109,107,100,105,114]⟩:ByteArray).toList)=false:=kw_f hK 3 (by decide) (by decide)
 have e4:((mkS w).toList==(⟨#[114,101,109,111,118,101]⟩:ByteArray).toList)=true:=kw_t hK 4 (by decide) rfl
 have e5:((mkS w).toList==(⟨#[114,101,110,97,109,101]⟩:ByteArray).toList)=false:=kw_f hK 5 (by decide) (by decide)
 have e6:((mkS w).toList==(⟨#[115,101,116]⟩:ByteArray).toList)=false:=kw_f hK 6 (by decide) (by decide)
 have e7:((mkS w).toList==(⟨#[105,102]⟩:ByteArray).toList)=false:=kw_f hK 7 (by decide) (by decide)
 have e8:((mkS w).toList==(⟨#[114,101,112,101,97,116]⟩:ByteArray).toList)=false:=kw_f hK 8 (by decide) (by decide)
 have e9:((mkS w).toList==(⟨#[101,108,115,101]⟩:ByteArray).toList)=false:=kw_f hK 9 (by decide) (by decide)
 have e10:((mkS w).toList==(⟨#[101,110,100]⟩:ByteArray).toList)=false:=kw_f hK 10 (by decide) (by decide)
 have e11:((mkS w).toList==(⟨#[102,97,105,108]⟩:ByteArray).toList)=false:=kw_f hK 11 (by decide) (by decide)
 have hpw:plainW w=true:=by rw[hw];rfl
 match ws,hr,hc,hm,hwl with
 |[],hr,hc,hm,hwl=>
  have hlen:(w::([]:List Bs)).length=0+1:=by simp
  simp only[List.length_cons,List.length_nil]at hc hm
  ((conv=>whnf);repeat(any_goals((first|(refine IdxA.strv hr rfl 0 _ rfl rfl ?_;intro _ _ _ _ _)|(refine IdxA.strv hr rfl 1 _ rfl rfl ?_;intro _ _ _ _ _)|(refine IdxA.strv hr rfl 2 _ rfl rfl ?_;intro _ _ _ _ _)|(refine IdxA.strv hr rfl 3 _ rfl rfl ?_;intro _ _ _ _ _)|(refine BndH.nat 2 rfl (by omega) ?_)|(refine BndH.nat 1 rfl (by omega) ?_)|(refine(cp _ (by exact Vc.xt)).mono ?_;rintro _ _ ⟨rfl,rfl⟩)|(refine(cp2 _ (by exact Vc.xt)).mono ?_;rintro _ _ ⟨rfl,rfl⟩)|(refine(rquoted_any _ _).mono ?_;rintro _ _ ⟨rfl,rfl⟩)|(refine PureH.build0 (lineC 0 [] [] [] 0 false) (by kernel_rfl) ?_)|refine Vc.stp ?_|refine Vc.spl ?_ ?_)<;>(intros;(conv=>whnf)))))
  all_goals exact⟨by rw[show lineF (w::[])=none from by simp[lineF,hK,oneF]];exact⟨_,_,_,_,_,_,rfl⟩,by exact Vc.xt⟩
 |[x],hr,hc,hm,hwl=>
  have hlen:(w::([x]:List Bs)).length=1+1:=by simp
  simp only[List.length_cons,List.length_nil]at hc hm
  have hlx:x.length≤1000000000:=hwl x (by simp)
  have cp:=fun H2 (k:Ext H H2)=>rplain_any (w::[x]) a _ cap H2 (hr.ext k) rfl hm
  cases hpx:plainW x
  ·have hpa:(w::[x]).all plainW=false:=by simp[hpw,hpx]
   rw[hpa]at cp
   ((conv=>whnf);repeat(any_goals((first|(refine IdxA.strv hr rfl 0 _ rfl rfl ?_;intro _ _ _ _ _)|(refine IdxA.strv hr rfl 1 _ rfl rfl ?_;intro _ _ _ _ _)|(refine IdxA.strv hr rfl 2 _ rfl rfl ?_;intro _ _ _ _ _)|(refine IdxA.strv hr rfl 3 _ rfl rfl ?_;intro _ _ _ _ _)|(refine BndH.nat 2 rfl (by omega) ?_)|(refine BndH.nat 1 rfl (by omega) ?_)|(refine(cp _ (by exact Vc.xt)).mono ?_;rintro _ _ ⟨rfl,rfl⟩)|(refine(cp2 _ (by exact Vc.xt)).mono ?_;rintro _ _ ⟨rfl,rfl⟩)|(refine(rquoted_any _ _).mono ?_;rintro _ _ ⟨rfl,rfl⟩)|(refine PureH.build0 (lineC 0 [] [] [] 0 false) (by kernel_rfl) ?_)|(refine PureH.build2 (lineC 4 x [] [] 0 false) (by kernel_rfl) ?_)|refine Vc.stp ?_|refine Vc.spl ?_ ?_)<;>(intros;(conv=>whnf)))))
   all_goals exact⟨by rw[show lineF (w::[x])=none from by simp[lineF,hK,oneF,hpx]];exact⟨_,_,_,_,_,_,rfl⟩,by exact Vc.xt⟩
  ·have hpa:(w::[x]).all plainW=true:=by simp[hpw,hpx]
   rw[hpa]at cp
   ((conv=>whnf);repeat(any_goals((first|(refine IdxA.strv hr rfl 0 _ rfl rfl ?_;intro _ _ _ _ _)|(refine IdxA.strv hr rfl 1 _ rfl rfl ?_;intro _ _ _ _ _)|(refine IdxA.strv hr rfl 2 _ rfl rfl ?_;intro _ _ _ _ _)|(refine IdxA.strv hr rfl 3 _ rfl rfl ?_;intro _ _ _ _ _)|(refine BndH.nat 2 rfl (by omega) ?_)|(refine BndH.nat 1 rfl (by omega) ?_)|(refine(cp _ (by exact Vc.xt)).mono ?_;rintro _ _ ⟨rfl,rfl⟩)|(refine(cp2 _ (by exact Vc.xt)).mono ?_;rintro _ _ ⟨rfl,rfl⟩)|(refine(rquoted_any _ _).mono ?_;rintro _ _ ⟨rfl,rfl⟩)|(refine PureH.build0 (lineC 0 [] [] [] 0 false) (by kernel_rfl) ?_)|(refine PureH.build2 (lineC 4 x [] [] 0 false) (by kernel_rfl) ?_)|refine Vc.stp ?_|refine Vc.spl ?_ ?_)<;>(intros;(conv=>whnf)))))
   all_goals exact⟨by rw[show lineF (w::[x])=some ⟨4,x,[],[],0,false⟩from by simp[lineF,hK,oneF,hpx]];rfl,by exact Vc.xt⟩
 |x::y::t,hr,hc,hm,hwl=>
  have hlen:(w::(x::y::t:List Bs)).length=t.length+2+1:=by simp
  simp only[List.length_cons,List.length_nil]at hc hm
  have hlx:x.length≤1000000000:=hwl x (by simp)
  have hly:y.length≤1000000000:=hwl y (by simp)
  ((conv=>whnf);repeat(any_goals((first|(refine IdxA.strv hr rfl 0 _ rfl rfl ?_;intro _ _ _ _ _)|(refine IdxA.strv hr rfl 1 _ rfl rfl ?_;intro _ _ _ _ _)|(refine IdxA.strv hr rfl 2 _ rfl rfl ?_;intro _ _ _ _ _)|(refine IdxA.strv hr rfl 3 _ rfl rfl ?_;intro _ _ _ _ _)|(refine BndH.nat 2 rfl (by omega) ?_)|(refine BndH.nat 1 rfl (by omega) ?_)|(refine(cp _ (by exact Vc.xt)).mono ?_;rintro _ _ ⟨rfl,rfl⟩)|(refine(cp2 _ (by exact Vc.xt)).mono ?_;rintro _ _ ⟨rfl,rfl⟩)|(refine(rquoted_any _ _).mono ?_;rintro _ _ ⟨rfl,rfl⟩)|(refine PureH.build0 (lineC 0 [] [] [] 0 false) (by kernel_rfl) ?_)|refine Vc.stp ?_|refine Vc.spl ?_ ?_)<;>(intros;(conv=>whnf)))))
  all_goals exact⟨by rw[show lineF (w::(x::y::t))=none from by simp[lineF,hK,oneF]];exact⟨_,_,_,_,_,_,rfl⟩,by exact Vc.xt⟩
set_option maxHeartbeats 4000000 in
theorem rline_5 (w:Bs) (ws:List Bs) (a:Option Addr) (cap:Nat) (H:Heap) (hr:Row H a (strs (w::ws))) (hc:(w::ws).length≤cap) (hm:(w::ws).length≤1000000000) (hwl: ∀ x∈w::ws,x.length≤1000000000) (hK:kindF w=5):CallH Tryz.prog 59 [.slice a (w::ws).length cap] H fun v H'=>readR v (lineF (w::ws))∧Ext H H':=by
 refine Vc.CallH.body Tryz.func59 Tryz.call59 rfl (by decide+kernel) rfl ?_
 have hw:w=kws.getD 5 []:=kind_eq hK (by decide)
 have e0:((mkS w).toList==(⟨#[99,111,112,121]⟩:ByteArray).toList)=false:=kw_f hK 0 (by decide) (by decide)
 have e1:((mkS w).toList==(⟨#[119,114,105,116,101]⟩:ByteArray).toList)=false:=kw_f hK 1 (by decide) (by decide)
 have e2:((mkS w).toList==(⟨#[97,112,112,101,110,100]⟩:ByteArray).toList)=false:=kw_f hK 2 (by decide) (by decide)
 have e3:((mkS w).toList==(⟨#[109,107,100,105,114]⟩:ByteArray).toList)=false:=kw_f hK 3 (by decide) (by decide)
 have e4:((mkS w).toList==(⟨#[114,101,109,111,118,101]⟩:ByteArray).toList)=false:=kw_f hK 4 (by decide) (by decide)
 have e5:((mkS w).toList==(⟨#[114,101,110,97,109,101]⟩:ByteArray).toList)=true:=kw_t hK 5 (by decide) rfl
 have e6:((mkS w).toList==(⟨#[115,101,116]⟩:ByteArray).toList)=false:=kw_f hK 6 (by decide) (by decide)
 have e7:((mkS w).toList==(⟨#[105,102]⟩:ByteArray).toList)=false:=kw_f hK 7 (by decide) (by decide)
 have e8:((mkS w).toList==(⟨#[114,101,112,101,97,116]⟩:ByteArray).toList)=false:=kw_f hK 8 (by decide) (by decide)
 have e9:((mkS w).toList==(⟨#[101,108,115,101]⟩:ByteArray).toList)=false:=kw_f hK 9 (by decide) (by decide)
 have e10:((mkS w).toList==(⟨#[101,110,100]⟩:ByteArray).toList)=false:=kw_f hK 10 (by decide) (by decide)
 have e11:((mkS w).toList==(⟨#[102,97,105,108]⟩:ByteArray).toList)=false:=kw_f hK 11 (by decide) (by decide)
 have hpw:plainW w=true:=by rw[hw];rfl
 match ws,hr,hc,hm,hwl with
 |[],hr,hc,hm,hwl=>
  have hlen:(w::([]:List Bs)).length=0+1:=by simp
  simp only[List.length_cons,List.length_nil]at hc hm
  ((conv=>whnf);repeat(any_goals((first|(refine IdxA.strv hr rfl 0 _ rfl rfl ?_;intro _ _ _ _ _)|(refine IdxA.strv hr rfl 1 _ rfl rfl ?_;intro _ _ _ _ _)|(refine IdxA.strv hr rfl 2 _ rfl rfl ?_;intro _ _ _ _ _)|(refine IdxA.strv hr rfl 3 _ rfl rfl ?_;intro _ _ _ _ _)|(refine BndH.nat 2 rfl (by omega) ?_)|(refine BndH.nat 1 rfl (by omega) ?_)|(refine(cp _ (by exact Vc.xt)).mono ?_;rintro _ _ ⟨rfl,rfl⟩)|(refine(cp2 _ (by exact Vc.xt)).mono ?_;rintro _ _ ⟨rfl,rfl⟩)|(refine(rquoted_any _ _).mono ?_;rintro _ _ ⟨rfl,rfl⟩)|(refine PureH.build0 (lineC 0 [] [] [] 0 false) (by kernel_rfl) ?_)|refine Vc.stp ?_|refine Vc.spl ?_ ?_)<;>(intros;(conv=>whnf)))))
  all_goals exact⟨by rw[show lineF (w::[])=none from by simp[lineF,hK,twoF]];exact⟨_,_,_,_,_,_,rfl⟩,by exact Vc.xt⟩
 |[x],hr,hc,hm,hwl=>
  have hlen:(w::([x]:List Bs)).length=1+1:=by simp
  simp only[List.length_cons,List.length_nil]at hc hm
  have hlx:x.length≤1000000000:=hwl x (by simp)
  ((conv=>whnf);repeat(any_goals((first|(refine IdxA.strv hr rfl 0 _ rfl rfl ?_;intro _ _ _ _ _)|(refine IdxA.strv hr rfl 1 _ rfl rfl ?_;intro _ _ _ _ _)|(refine IdxA.strv hr rfl 2 _ rfl rfl ?_;intro _ _ _ _ _)|(refine IdxA.strv hr rfl 3 _ rfl rfl ?_;intro _ _ _ _ _)|(refine BndH.nat 2 rfl (by omega) ?_)|(refine BndH.nat 1 rfl (by omega) ?_)|(refine(cp _ (by exact Vc.xt)).mono ?_;rintro _ _ ⟨rfl,rfl⟩)|(refine(cp2 _ (by exact Vc.xt)).mono ?_;rintro _ _ ⟨rfl,rfl⟩)|(refine(rquoted_any _ _).mono ?_;rintro _ _ ⟨rfl,rfl⟩)|(refine PureH.build0 (lineC 0 [] [] [] 0 false) (by kernel_rfl) ?_)|refine Vc.stp ?_|refine Vc.spl ?_ ?_)<;>(intros;(conv=>whnf)))))
  all_goals exact⟨by rw[show lineF (w::[x])=none from by simp[lineF,hK,twoF]];exact⟨_,_,_,_,_,_,rfl⟩,by exact Vc.xt⟩
 |[x,y],hr,hc,hm,hwl=>
  have hlen:(w::([x,y]:List Bs)).length=2+1:=by simp
  simp only[List.length_cons,List.length_nil]at hc hm
  have hlx:x.length≤1000000000:=hwl x (by simp)
  have hly:y.length≤1000000000:=hwl y (by simp)
  have cp:=fun H2 (k:Ext H H2)=>rplain_any (w::[x,y]) a _ cap H2 (hr.ext k) rfl hm
  cases hpx:plainW x
  ·cases hpy:plainW y
   ·have hpa:(w::[x,y]).all plainW=false:=by simp[hpw,hpx,hpy]
    rw[hpa]at cp
    ((conv=>whnf);repeat(any_goals((first|(refine IdxA.strv hr rfl 0 _ rfl rfl ?_;intro _ _ _ _ _)|(refine IdxA.strv hr rfl 1 _ rfl rfl ?_;intro _ _ _ _ _)|(refine IdxA.strv hr rfl 2 _ rfl rfl ?_;intro _ _ _ _ _)|(refine IdxA.strv hr rfl 3 _ rfl rfl ?_;intro _ _ _ _ _)|(refine BndH.nat 2 rfl (by omega) ?_)|(refine BndH.nat 1 rfl (by omega) ?_)|(refine(cp _ (by exact Vc.xt)).mono ?_;rintro _ _ ⟨rfl,rfl⟩)|(refine(cp2 _ (by exact Vc.xt)).mono ?_;rintro _ _ ⟨rfl,rfl⟩)|(refine(rquoted_any _ _).mono ?_;rintro _ _ ⟨rfl,rfl⟩)|(refine PureH.build0 (lineC 0 [] [] [] 0 false) (by kernel_rfl) ?_)|(refine PureH.build3 (lineC 5 x y [] 0 false) (by kernel_rfl) ?_)|refine Vc.stp ?_|refine Vc.spl ?_ ?_)<;>(intros;(conv=>whnf)))))
    all_goals exact⟨by rw[show lineF (w::[x,y])=none from by simp[lineF,hK,twoF,hpx,hpy]];exact⟨_,_,_,_,_,_,rfl⟩,by exact Vc.xt⟩
   ·have hpa:(w::[x,y]).all plainW=false:=by simp[hpw,hpx,hpy]
    rw[hpa]at cp
    ((conv=>whnf);repeat(any_goals((first|(refine IdxA.strv hr rfl 0 _ rfl rfl ?_;intro _ _ _ _ _)|(refine IdxA.strv hr rfl 1 _ rfl rfl ?_;intro _ _ _ _ _)|(refine IdxA.strv hr rfl 2 _ rfl rfl ?_;intro _ _ _ _ _)|(refine IdxA.strv hr rfl 3 _ rfl rfl ?_;intro _ _ _ _ _)|(refine BndH.nat 2 rfl (by omega) ?_)|(refine BndH.nat 1 rfl (by omega) ?_)|(refine(cp _ (by exact Vc.xt)).mono ?_;rintro _ _ ⟨rfl,rfl⟩)|(refine(cp2 _ (by exact Vc.xt)).mono ?_;rintro _ _ ⟨rfl,rfl⟩)|(refine(rquoted_any _ _).mono ?_;rintro _ _ ⟨rfl,rfl⟩)|(refine PureH.build0 (lineC 0 [] [] [] 0 false) (by kernel_rfl) ?_)|(refine PureH.build3 (lineC 5 x y [] 0 false) (by kernel_rfl) ?_)|refine Vc.stp ?_|refine Vc.spl ?_ ?_)<;>(intros;(conv=>whnf)))))
    all_goals exact⟨by rw[show lineF (w::[x,y])=none from by simp[lineF,hK,twoF,hpx,hpy]];exact⟨_,_,_,_,_,_,rfl⟩,by exact Vc.xt⟩
  ·cases hpy:plainW y
   ·have hpa:(w::[x,y]).all plainW=false:=by simp[hpw,hpx,hpy]
    rw[hpa]at cp
    ((conv=>whnf);repeat(any_goals((first|(refine IdxA.strv hr rfl 0 _ rfl rfl ?_;intro _ _ _ _ _)|(refine IdxA.strv hr rfl 1 _ rfl rfl ?_;intro _ _ _ _ _)|(refine IdxA.strv hr rfl 2 _ rfl rfl ?_;intro _ _ _ _ _)|(refine IdxA.strv hr rfl 3 _ rfl rfl ?_;intro _ _ _ _ _)|(refine BndH.nat 2 rfl (by omega) ?_)|(refine BndH.nat 1 rfl (by omega) ?_)|(refine(cp _ (by exact Vc.xt)).mono ?_;rintro _ _ ⟨rfl,rfl⟩)|(refine(cp2 _ (by exact Vc.xt)).mono ?_;rintro _ _ ⟨rfl,rfl⟩)|(refine(rquoted_any _ _).mono ?_;rintro _ _ ⟨rfl,rfl⟩)|(refine PureH.build0 (lineC 0 [] [] [] 0 false) (by kernel_rfl) ?_)|(refine PureH.build3 (lineC 5 x y [] 0 false) (by kernel_rfl) ?_)|refine Vc.stp ?_|refine Vc.spl ?_ ?_)<;>(intros;(conv=>whnf)))))
    all_goals exact⟨by rw[show lineF (w::[x,y])=none from by simp[lineF,hK,twoF,hpx,hpy]];exact⟨_,_,_,_,_,_,rfl⟩,by exact Vc.xt⟩
   ·have hpa:(w::[x,y]).all plainW=true:=by simp[hpw,hpx,hpy]
    rw[hpa]at cp
    ((conv=>whnf);repeat(any_goals((first|(refine IdxA.strv hr rfl 0 _ rfl rfl ?_;intro _ _ _ _ _)|(refine IdxA.strv hr rfl 1 _ rfl rfl ?_;intro _ _ _ _ _)|(refine IdxA.strv hr rfl 2 _ rfl rfl ?_;intro _ _ _ _ _)|(refine IdxA.strv hr rfl 3 _ rfl rfl ?_;intro _ _ _ _ _)|(refine BndH.nat 2 rfl (by omega) ?_)|(refine BndH.nat 1 rfl (by omega) ?_)|(refine(cp _ (by exact Vc.xt)).mono ?_;rintro _ _ ⟨rfl,rfl⟩)|(refine(cp2 _ (by exact Vc.xt)).mono ?_;rintro _ _ ⟨rfl,rfl⟩)|(refine(rquoted_any _ _).mono ?_;rintro _ _ ⟨rfl,rfl⟩)|(refine PureH.build0 (lineC 0 [] [] [] 0 false) (by kernel_rfl) ?_)|(refine PureH.build3 (lineC 5 x y [] 0 false) (by kernel_rfl) ?_)|refine Vc.stp ?_|refine Vc.spl ?_ ?_)<;>(intros;(conv=>whnf)))))
    all_goals exact⟨by rw[show lineF (w::[x,y])=some ⟨5,x,y,[],0,false⟩from by simp[lineF,hK,twoF,hpx,hpy]];rfl,by exact Vc.xt⟩
 |x::y::z::t,hr,hc,hm,hwl=>
  have hlen:(w::(x::y::z::t:List Bs)).length=t.length+3+1:=by simp
  simp only[List.length_cons,List.length_nil]at hc hm
  have hlx:x.length≤1000000000:=hwl x (by simp)
  have hly:y.length≤1000000000:=hwl y (by simp)
  have hlz:z.length≤1000000000:=hwl z (by simp)
  ((conv=>whnf);repeat(any_goals((first|(refine IdxA.strv hr rfl 0 _ rfl rfl ?_;intro _ _ _ _ _)|(refine IdxA.strv hr rfl 1 _ rfl rfl ?_;intro _ _ _ _ _)|(refine IdxA.strv hr rfl 2 _ rfl rfl ?_;intro _ _ _ _ _)|(refine IdxA.strv hr rfl 3 _ rfl rfl ?_;intro _ _ _ _ _)|(refine BndH.nat 2 rfl (by omega) ?_)|(refine BndH.nat 1 rfl (by omega) ?_)|(refine(cp _ (by exact Vc.xt)).mono ?_;rintro _ _ ⟨rfl,rfl⟩)|(refine(cp2 _ (by exact Vc.xt)).mono ?_;rintro _ _ ⟨rfl,rfl⟩)|(refine(rquoted_any _ _).mono ?_;rintro _ _ ⟨rfl,rfl⟩)|(refine PureH.build0 (lineC 0 [] [] [] 0 false) (by kernel_rfl) ?_)|refine Vc.stp ?_|refine Vc.spl ?_ ?_)<;>(intros;(conv=>whnf)))))
  all_goals exact⟨by rw[show lineF (w::(x::y::z::t))=none from by simp[lineF,hK,twoF]];exact⟨_,_,_,_,_,_,rfl⟩,by exact Vc.xt⟩
set_option maxHeartbeats 4000000 in
theorem rline_6 (w:Bs) (ws:List Bs) (a:Option Addr) (cap:Nat) (H:Heap) (hr:Row H a (strs (w::ws))) (hc:(w::ws).length≤cap) (hm:(w::ws).length≤1000000000) (hwl: ∀ x∈w::ws,x.length≤1000000000) (hK:kindF w=6):CallH Tryz.prog 59 [.slice a (w::ws).length cap] H fun v H'=>readR v (lineF (w::ws))∧Ext H H':=by
 refine Vc.CallH.body Tryz.func59 Tryz.call59 rfl (by decide+kernel) rfl ?_
 have hw:w=kws.getD 6 []:=kind_eq hK (by decide)
 have e0:((mkS w).toList==(⟨#[99,111,112,121]⟩:ByteArray).toList)=false:=kw_f hK 0 (by decide) (by decide)
 have e1:((mkS w).toList==(⟨#[119,114,105,116,101]⟩:ByteArray).toList)=false:=kw_f hK 1 (by decide) (by decide)
 have e2:((mkS w).toList==(⟨#[97,112,112,101,110,100]⟩:ByteArray).toList)=false:=kw_f hK 2 (by decide) (by decide)
 have e3:((mkS w).toList==(⟨#[109,107,100,105,114]⟩:ByteArray).toList)=false:=kw_f hK 3 (by decide) (by decide)
 have e4:((mkS w).toList==(⟨#[114,101,109,111,118,101]⟩:ByteArray).toList)=false:=kw_f hK 4 (by decide) (by decide)
 have e5:((mkS w).toList==(⟨#[114,101,110,97,109,101]⟩:ByteArray).toList)=false:=kw_f hK 5 (by decide) (by decide)
 have e6:((mkS w).toList==(⟨#[115,101,116]⟩:ByteArray).toList)=true:=kw_t hK 6 (by decide) rfl
 have e7:((mkS w).toList==(⟨#[105,102]⟩:ByteArray).toList)=false:=kw_f hK 7 (by decide) (by decide)
 have e8:((mkS w).toList==(⟨#[114,101,112,101,97,116]⟩:ByteArray).toList)=false:=kw_f hK 8 (by decide) (by decide)
 have e9:((mkS w).toList==(⟨#[101,108,115,101]⟩:ByteArray).toList)=false:=kw_f hK 9 (by decide) (by decide)
 have e10:((mkS w).toList==(⟨#[101,110,100]⟩:ByteArray).toList)=false:=kw_f hK 10 (by decide) (by decide)
 have e11:((mkS w).toList==(⟨#[102,97,105,108]⟩:ByteArray).toList)=false:=kw_f hK 11 (by decide) (by decide)
 have hpw:plainW w=true:=by rw[hw];rfl
 match ws,hr,hc,hm,hwl with
 |[],hr,hc,hm,hwl=>
  have hlen:(w::([]:List Bs)).length=0+1:=by simp
  simp only[List.length_cons,List.length_nil]at hc hm
  ((conv=>whnf);repeat(any_goals((first|(refine IdxA.strv hr rfl 0 _ rfl rfl ?_;intro _ _ _ _ _)|(refine IdxA.strv hr rfl 1 _ rfl rfl ?_;intro _ _ _ _ _)|(refine IdxA.strv hr rfl 2 _ rfl rfl ?_;intro _ _ _ _ _)|(refine IdxA.strv hr rfl 3 _ rfl rfl ?_;intro _ _ _ _ _)|(refine BndH.nat 2 rfl (by omega) ?_)|(refine BndH.nat 1 rfl (by omega) ?_)|(refine(cp _ (by exact Vc.xt)).mono ?_;rintro _ _ ⟨rfl,rfl⟩)|(refine(cp2 _ (by exact Vc.xt)).mono ?_;rintro _ _ ⟨rfl,rfl⟩)|(refine(rquoted_any _ _).mono ?_;rintro _ _ ⟨rfl,rfl⟩)|(refine PureH.build0 (lineC 0 [] [] [] 0 false) (by kernel_rfl) ?_)|refine Vc.stp ?_|refine Vc.spl ?_ ?_)<;>(intros;(conv=>whnf)))))
  all_goals exact⟨by rw[show lineF (w::[])=none from by simp[lineF,hK,textF]];exact⟨_,_,_,_,_,_,rfl⟩,by exact Vc.xt⟩
 |[x],hr,hc,hm,hwl=>
  have hlen:(w::([x]:List Bs)).length=1+1:=by simp
  simp only[List.length_cons,List.length_nil]at hc hm
  have hlx:x.length≤1000000000:=hwl x (by simp)
  ((conv=>whnf);repeat(any_goals((first|(refine IdxA.strv hr rfl 0 _ rfl rfl ?_;intro _ _ _ _ _)|(refine IdxA.strv hr rfl 1 _ rfl rfl ?_;intro _ _ _ _ _)|(refine IdxA.strv hr rfl 2 _ rfl rfl ?_;intro _ _ _ _ _)|(refine IdxA.strv hr rfl 3 _ rfl rfl ?_;intro _ _ _ _ _)|(refine BndH.nat 2 rfl (by omega) ?_)|(refine BndH.nat 1 rfl (by omega) ?_)|(refine(cp _ (by exact Vc.xt)).mono ?_;rintro _ _ ⟨rfl,rfl⟩)|(refine(cp2 _ (by exact Vc.xt)).mono ?_;rintro _ _ ⟨rfl,rfl⟩)|(refine(rquoted_any _ _).mono ?_;rintro _ _ ⟨rfl,rfl⟩)|(refine PureH.build0 (lineC 0 [] [] [] 0 false) (by kernel_rfl) ?_)|refine Vc.stp ?_|refine Vc.spl ?_ ?_)<;>(intros;(conv=>whnf)))))
  all_goals exact⟨by rw[show lineF (w::[x])=none from by simp[lineF,hK,textF]];exact⟨_,_,_,_,_,_,rfl⟩,by exact Vc.xt⟩
 |[x,y],hr,hc,hm,hwl=>
  have hlen:(w::([x,y]:List Bs)).length=2+1:=by simp
  simp only[List.length_cons,List.length_nil]at hc hm
  have hlx:x.length≤1000000000:=hwl x (by simp)
  have hly:y.length≤1000000000:=hwl y (by simp)
  have cp2:=fun H2 (k:Ext H H2)=>rplain_any [w,x] a 2 cap H2 ((hr.ext k).take 2) rfl (by decide)
  cases hpx:plainW x
  ·cases hpy:plainW y
   ·have hpa:[w,x].all plainW=false:=by simp[hpw,hpx]
    rw[hpa]at cp2
    have hzy:1≤y.length:=plain_pos hpy
    have hszy:(mkS y).size=y.length:=rfl
    ((conv=>whnf);repeat(any_goals((first|(refine IdxA.strv hr rfl 0 _ rfl rfl ?_;intro _ _ _ _ _)|(refine IdxA.strv hr rfl 1 _ rfl rfl ?_;intro _ _ _ _ _)|(refine IdxA.strv hr rfl 2 _ rfl rfl ?_;intro _ _ _ _ _)|(refine IdxA.strv hr rfl 3 _ rfl rfl ?_;intro _ _ _ _ _)|(refine BndH.nat 2 rfl (by omega) ?_)|(refine BndH.nat 1 rfl (by omega) ?_)|(refine(cp _ (by exact Vc.xt)).mono ?_;rintro _ _ ⟨rfl,rfl⟩)|(refine(cp2 _ (by exact Vc.xt)).mono ?_;rintro _ _ ⟨rfl,rfl⟩)|(refine(rquoted_any _ _).mono ?_;rintro _ _ ⟨rfl,rfl⟩)|(refine PureH.build0 (lineC 0 [] [] [] 0 false) (by kernel_rfl) ?_)|(refine PureH.build3 #[.int .i64 6,.string (mkS x),.string (mkS []),.string ((mkS y).extract 1 (mkS y).size),.int .i64 0,.bool false] (by kernel_rfl) ?_)|refine Vc.stp ?_|refine Vc.spl ?_ ?_)<;>(intros;(conv=>whnf)))))
    all_goals exact⟨by rw[show lineF (w::[x,y])=none from by simp[lineF,hK,textF,hpx,hpy]];exact⟨_,_,_,_,_,_,rfl⟩,by exact Vc.xt⟩
   ·have hpa:[w,x].all plainW=false:=by simp[hpw,hpx]
    rw[hpa]at cp2
    ((conv=>whnf);repeat(any_goals((first|(refine IdxA.strv hr rfl 0 _ rfl rfl ?_;intro _ _ _ _ _)|(refine IdxA.strv hr rfl 1 _ rfl rfl ?_;intro _ _ _ _ _)|(refine IdxA.strv hr rfl 2 _ rfl rfl ?_;intro _ _ _ _ _)|(refine IdxA.strv hr rfl 3 _ rfl rfl ?_;intro _ _ _ _ _)|(refine BndH.nat 2 rfl (by omega) ?_)|(refine BndH.nat 1 rfl (by omega) ?_)|(refine(cp _ (by exact Vc.xt)).mono ?_;rintro _ _ ⟨rfl,rfl⟩)|(refine(cp2 _ (by exact Vc.xt)).mono ?_;rintro _ _ ⟨rfl,rfl⟩)|(refine(rquoted_any _ _).mono ?_;rintro _ _ ⟨rfl,rfl⟩)|(refine PureH.build0 (lineC 0 [] [] [] 0 false) (by kernel_rfl) ?_)|(refine PureH.build3 #[.int .i64 6,.string (mkS x),.string (mkS []),.string ((mkS y).extract 1 (mkS y).size),.int .i64 0,.bool false] (by kernel_rfl) ?_)|refine Vc.stp ?_|refine Vc.spl ?_ ?_)<;>(intros;(conv=>whnf)))))
    all_goals exact⟨by rw[show lineF (w::[x,y])=none from by simp[lineF,hK,textF,hpx,hpy]];exact⟨_,_,_,_,_,_,rfl⟩,by exact Vc.xt⟩
  ·cases hpy:plainW y
   ·have hpa:[w,x].all plainW=true:=by simp[hpw,hpx]
    rw[hpa]at cp2
    have hzy:1≤y.length:=plain_pos hpy
    have hszy:(mkS y).size=y.length:=rfl
    ((conv=>whnf);repeat(any_goals((first|(refine IdxA.strv hr rfl 0 _ rfl rfl ?_;intro _ _ _ _ _)|(refine IdxA.strv hr rfl 1 _ rfl rfl ?_;intro _ _ _ _ _)|(refine IdxA.strv hr rfl 2 _ rfl rfl ?_;intro _ _ _ _ _)|(refine IdxA.strv hr rfl 3 _ rfl rfl ?_;intro _ _ _ _ _)|(refine BndH.nat 2 rfl (by omega) ?_)|(refine BndH.nat 1 rfl (by omega) ?_)|(refine(cp _ (by exact Vc.xt)).mono ?_;rintro _ _ ⟨rfl,rfl⟩)|(refine(cp2 _ (by exact Vc.xt)).mono ?_;rintro _ _ ⟨rfl,rfl⟩)|(refine(rquoted_any _ _).mono ?_;rintro _ _ ⟨rfl,rfl⟩)|(refine PureH.build0 (lineC 0 [] [] [] 0 false) (by kernel_rfl) ?_)|(refine PureH.build3 #[.int .i64 6,.string (mkS x),.string (mkS []),.string ((mkS y).extract 1 (mkS y).size),.int .i64 0,.bool false] (by kernel_rfl) ?_)|refine Vc.stp ?_|refine Vc.spl ?_ ?_)<;>(intros;(conv=>whnf)))))
    all_goals exact⟨by rw[show lineF (w::[x,y])=some ⟨6,x,[],y.tail,0,false⟩from by simp[lineF,hK,textF,hpx,hpy]];show Value.tuple #[.agg #[.int .i64 6,.string (mkS x),.string (mkS []),.string ((mkS y).extract 1 (mkS y).size),.int .i64 0,.bool false],.bool true]=_;rw[mkS_drop,List.drop_one];rfl,by exact Vc.xt⟩
   ·have hpa:[w,x].all plainW=true:=by simp[hpw,hpx]
    rw[hpa]at cp2
    ((conv=>whnf);repeat(any_goals((first|(refine IdxA.strv hr rfl 0 _ rfl rfl ?_;intro _ _ _ _ _)|(refine IdxA.strv hr rfl 1 _ rfl rfl ?_;intro _ _ _ _ _)|(refine IdxA.strv hr rfl 2 _ rfl rfl ?_;intro _ _ _ _ _)|(refine IdxA.strv hr rfl 3 _ rfl rfl ?_;intro _ _ _ _ _)|(refine BndH.nat 2 rfl (by omega) ?_)|(refine BndH.nat 1 rfl (by omega) ?_)|(refine(cp _ (by exact Vc.xt)).mono ?_;rintro _ _ ⟨rfl,rfl⟩)|(refine(cp2 _ (by exact Vc.xt)).mono ?_;rintro _ _ ⟨rfl,rfl⟩)|(refine(rquoted_any _ _).mono ?_;rintro _ _ ⟨rfl,rfl⟩)|(refine PureH.build0 (lineC 0 [] [] [] 0 false) (by kernel_rfl) ?_)|(refine PureH.build3 #[.int .i64 6,.string (mkS x),.string (mkS []),.string ((mkS y).extract 1 (mkS y).size),.int .i64 0,.bool false] (by kernel_rfl) ?_)|refine Vc.stp ?_|refine Vc.spl ?_ ?_)<;>(intros;(conv=>whnf)))))
    all_goals exact⟨by rw[show lineF (w::[x,y])=none from by simp[lineF,hK,textF,hpx,hpy]];exact⟨_,_,_,_,_,_,rfl⟩,by exact Vc.xt⟩
 |x::y::z::t,hr,hc,hm,hwl=>
  have hlen:(w::(x::y::z::t:List Bs)).length=t.length+3+1:=by simp
  simp only[List.length_cons,List.length_nil]at hc hm
  have hlx:x.length≤1000000000:=hwl x (by simp)
  have hly:y.length≤1000000000:=hwl y (by simp)
  have hlz:z.length≤1000000000:=hwl z (by simp)
  ((conv=>whnf);repeat(any_goals((first|(refine IdxA.strv hr rfl 0 _ rfl rfl ?_;intro _ _ _ _ _)|(refine IdxA.strv hr rfl 1 _ rfl rfl ?_;intro _ _ _ _ _)|(refine IdxA.strv hr rfl 2 _ rfl rfl ?_;intro _ _ _ _ _)|(refine IdxA.strv hr rfl 3 _ rfl rfl ?_;intro _ _ _ _ _)|(refine BndH.nat 2 rfl (by omega) ?_)|(refine BndH.nat 1 rfl (by omega) ?_)|(refine(cp _ (by exact Vc.xt)).mono ?_;rintro _ _ ⟨rfl,rfl⟩)|(refine(cp2 _ (by exact Vc.xt)).mono ?_;rintro _ _ ⟨rfl,rfl⟩)|(refine(rquoted_any _ _).mono ?_;rintro _ _ ⟨rfl,rfl⟩)|(refine PureH.build0 (lineC 0 [] [] [] 0 false) (by kernel_rfl) ?_)|refine Vc.stp ?_|refine Vc.spl ?_ ?_)<;>(intros;(conv=>whnf)))))
  all_goals exact⟨by rw[show lineF (w::(x::y::z::t))=none from by simp[lineF,hK,textF]];exact⟨_,_,_,_,_,_,rfl⟩,by exact Vc.xt⟩
set_option maxHeartbeats 4000000 in
theorem rline_7 (w:Bs) (ws:List Bs) (a:Option Addr) (cap:Nat) (H:Heap) (hr:Row H a (strs (w::ws))) (hc:(w::ws).length≤cap) (hm:(w::ws).length≤1000000000) (hwl: ∀ x∈w::ws,x.length≤1000000000) (hK:kindF w=7):CallH Tryz.prog 59 [.slice a (w::ws).length cap] H fun v H'=>readR v (lineF (w::ws))∧Ext H H':=by
 refine Vc.CallH.body Tryz.func59 Tryz.call59 rfl (by decide+kernel) rfl ?_
 have hw:w=kws.getD 7 []:=kind_eq hK (by decide)
 have e0:((mkS w).toList==(⟨#[99,111,112,121]⟩:ByteArray).toList)=false:=kw_f hK 0 (by decide) (by decide)
 have e1:((mkS w).toList==(⟨#[119,114,105,116,101]⟩:ByteArray).toList)=false:=kw_f hK 1 (by decide) (by decide)
 have e2:((mkS w).toList==(⟨#[97,112,112,101,110,100]⟩:ByteArray).toList)=false:=kw_f hK 2 (by decide) (by decide)
 have e3:((mkS w).toList==(⟨#[109,107,100,105,114]⟩:ByteArray).toList)=false:=kw_f hK 3 (by decide) (by decide)
 have e4:((mkS w).toList==(⟨#[114,101,109,111,118,101]⟩:ByteArray).toList)=false:=kw_f hK 4 (by decide) (by decide)
 have e5:((mkS w).toList==(⟨#[114,101,110,97,109,101]⟩:ByteArray).toList)=false:=kw_f hK 5 (by decide) (by decide)
 have e6:((mkS w).toList==(⟨#[115,101,116]⟩:ByteArray).toList)=false:=kw_f hK 6 (by decide) (by decide)
 have e7:((mkS w).toList==(⟨#[105,102]⟩:ByteArray).toList)=true:=kw_t hK 7 (by decide) rfl
 have e8:((mkS w).toList==(⟨#[114,101,112,101,97,116]⟩:ByteArray).toList)=false:=kw_f hK 8 (by decide) (by decide)
 have e9:((mkS w).toList==(⟨#[101,108,115,101]⟩:ByteArray).toList)=false:=kw_f hK 9 (by decide) (by decide)
 have e10:((mkS w).toList==(⟨#[101,110,100]⟩:ByteArray).toList)=false:=kw_f hK 10 (by decide) (by decide)
 have e11:((mkS w).toList==(⟨#[102,97,105,108]⟩:ByteArray).toList)=false:=kw_f hK 11 (by decide) (by decide)
 have hpw:plainW w=true:=by rw[hw];rfl
 match ws,hr,hc,hm,hwl with
 |[],hr,hc,hm,hwl=>
  have hlen:(w::([]:List Bs)).length=0+1:=by simp
  simp only[List.length_cons,List.length_nil]at hc hm
  ((conv=>whnf);repeat(any_goals((first|(refine IdxA.strv hr rfl 0 _ rfl rfl ?_;intro _ _ _ _ _)|(refine IdxA.strv hr rfl 1 _ rfl rfl ?_;intro _ _ _ _ _)|(refine IdxA.strv hr rfl 2 _ rfl rfl ?_;intro _ _ _ _ _)|(refine IdxA.strv hr rfl 3 _ rfl rfl ?_;intro _ _ _ _ _)|(refine BndH.nat 2 rfl (by omega) ?_)|(refine BndH.nat 1 rfl (by omega) ?_)|(refine(cp _ (by exact Vc.xt)).mono ?_;rintro _ _ ⟨rfl,rfl⟩)|(refine(cp2 _ (by exact Vc.xt)).mono ?_;rintro _ _ ⟨rfl,rfl⟩)|(refine(rquoted_any _ _).mono ?_;rintro _ _ ⟨rfl,rfl⟩)|(refine PureH.build0 (lineC 0 [] [] [] 0 false) (by kernel_rfl) ?_)|refine Vc.stp ?_|refine Vc.spl ?_ ?_)<;>(intros;(conv=>whnf)))))
  all_goals exact⟨by rw[show lineF (w::[])=none from by simp[lineF,hK,askedF]];exact⟨_,_,_,_,_,_,rfl⟩,by exact Vc.xt⟩
 |[x],hr,hc,hm,hwl=>
  have hlen:(w::([x]:List Bs)).length=1+1:=by simp
  simp only[List.length_cons,List.length_nil]at hc hm
  have hlx:x.length≤1000000000:=hwl x (by simp)
  ((conv=>whnf);repeat(any_goals((first|(refine IdxA.strv hr rfl 0 _ rfl rfl ?_;intro _ _ _ _ _)|(refine IdxA.strv hr rfl 1 _ rfl rfl ?_;intro _ _ _ _ _)|(refine IdxA.strv hr rfl 2 _ rfl rfl ?_;intro _ _ _ _ _)|(refine IdxA.strv hr rfl 3 _ rfl rfl ?_;intro _ _ _ _ _)|(refine BndH.nat 2 rfl (by omega) ?_)|(refine BndH.nat 1 rfl (by omega) ?_)|(refine(cp _ (by exact Vc.xt)).mono ?_;rintro _ _ ⟨rfl,rfl⟩)|(refine(cp2 _ (by exact Vc.xt)).mono ?_;rintro _ _ ⟨rfl,rfl⟩)|(refine(rquoted_any _ _).mono ?_;rintro _ _ ⟨rfl,rfl⟩)|(refine PureH.build0 (lineC 0 [] [] [] 0 false) (by kernel_rfl) ?_)|refine Vc.stp ?_|refine Vc.spl ?_ ?_)<;>(intros;(conv=>whnf)))))
  all_goals exact⟨by rw[show lineF (w::[x])=none from by simp[lineF,hK,askedF]];exact⟨_,_,_,_,_,_,rfl⟩,by exact Vc.xt⟩
 |[x,y],hr,hc,hm,hwl=>
  have hlen:(w::([x,y]:List Bs)).length=2+1:=by simp
  simp only[List.length_cons,List.length_nil]at hc hm
  have hlx:x.length≤1000000000:=hwl x (by simp)
  have hly:y.length≤1000000000:=hwl y (by simp)
  have cp:=fun H2 (k:Ext H H2)=>rplain_any (w::[x,y]) a _ cap H2 (hr.ext k) rfl hm
  by_cases hx:x=wExists
  ·have ex:((mkS x).toList==(⟨#[101,120,105,115,116,115]⟩:ByteArray).toList)=true:=by show((mkS x).toList==(mkS wExists).toList)=true;rw[str_mk];exact decide_eq_true hx
   have hpx:plainW x=true:=by rw[hx];rfl
   cases hpy:plainW y
   ·have hpa:(w::[x,y]).all plainW=false:=by simp[hpw,hpx,hpy]
    rw[hpa]at cp
    ((conv=>whnf);repeat(any_goals((first|(refine IdxA.strv hr rfl 0 _ rfl rfl ?_;intro _ _ _ _ _)|(refine IdxA.strv hr rfl 1 _ rfl rfl ?_;intro _ _ _ _ _)|(refine IdxA.strv hr rfl 2 _ rfl rfl ?_;intro _ _ _ _ _)|(refine IdxA.strv hr rfl 3 _ rfl rfl ?_;intro _ _ _ _ _)|(refine BndH.nat 2 rfl (by omega) ?_)|(refine BndH.nat 1 rfl (by omega) ?_)|(refine(cp _ (by exact Vc.xt)).mono ?_;rintro _ _ ⟨rfl,rfl⟩)|(refine(cp2 _ (by exact Vc.xt)).mono ?_;rintro _ _ ⟨rfl,rfl⟩)|(refine(rquoted_any _ _).mono ?_;rintro _ _ ⟨rfl,rfl⟩)|(refine PureH.build0 (lineC 0 [] [] [] 0 false) (by kernel_rfl) ?_)|(refine PureH.build2 (lineC 7 y [] [] 0 false) (by kernel_rfl) ?_)|refine Vc.stp ?_|refine Vc.spl ?_ ?_)<;>(intros;(conv=>whnf)))))
    all_goals exact⟨by rw[show lineF (w::[x,y])=none from by simp[lineF,hK,askedF,hx,hpy]];exact⟨_,_,_,_,_,_,rfl⟩,by exact Vc.xt⟩
   ·have hpa:(w::[x,y]).all plainW=true:=by simp[hpw,hpx,hpy]
    rw[hpa]at cp
    ((conv=>whnf);repeat(any_goals((first|(refine IdxA.strv hr rfl 0 _ rfl rfl ?_;intro _ _ _ _ _)|(refine IdxA.strv hr rfl 1 _ rfl rfl ?_;intro _ _ _ _ _)|(refine IdxA.strv hr rfl 2 _ rfl rfl ?_;intro _ _ _ _ _)|(refine IdxA.strv hr rfl 3 _ rfl rfl ?_;intro _ _ _ _ _)|(refine BndH.nat 2 rfl (by omega) ?_)|(refine BndH.nat 1 rfl (by omega) ?_)|(refine(cp _ (by exact Vc.xt)).mono ?_;rintro _ _ ⟨rfl,rfl⟩)|(refine(cp2 _ (by exact Vc.xt)).mono ?_;rintro _ _ ⟨rfl,rfl⟩)|(refine(rquoted_any _ _).mono ?_;rintro _ _ ⟨rfl,rfl⟩)|(refine PureH.build0 (lineC 0 [] [] [] 0 false) (by kernel_rfl) ?_)|(refine PureH.build2 (lineC 7 y [] [] 0 false) (by kernel_rfl) ?_)|refine Vc.stp ?_|refine Vc.spl ?_ ?_)<;>(intros;(conv=>whnf)))))
    all_goals exact⟨by rw[show lineF (w::[x,y])=some ⟨7,y,[],[],0,false⟩from by simp[lineF,hK,askedF,hx,hpy]];rfl,by exact Vc.xt⟩
  ·have ex:((mkS x).toList==(⟨#[101,120,105,115,116,115]⟩:ByteArray).toList)=false:=by show((mkS x).toList==(mkS wExists).toList)=false;rw[str_mk];exact decide_eq_false hx
   ((conv=>whnf);repeat(any_goals((first|(refine IdxA.strv hr rfl 0 _ rfl rfl ?_;intro _ _ _ _ _)|(refine IdxA.strv hr rfl 1 _ rfl rfl ?_;intro _ _ _ _ _)|(refine IdxA.strv hr rfl 2 _ rfl rfl ?_;intro _ _ _ _ _)|(refine IdxA.strv hr rfl 3 _ rfl rfl ?_;intro _ _ _ _ _)|(refine BndH.nat 2 rfl (by omega) ?_)|(refine BndH.nat 1 rfl (by omega) ?_)|(refine(cp _ (by exact Vc.xt)).mono ?_;rintro _ _ ⟨rfl,rfl⟩)|(refine(cp2 _ (by exact Vc.xt)).mono ?_;rintro _ _ ⟨rfl,rfl⟩)|(refine(rquoted_any _ _).mono ?_;rintro _ _ ⟨rfl,rfl⟩)|(refine PureH.build0 (lineC 0 [] [] [] 0 false) (by kernel_rfl) ?_)|refine Vc.stp ?_|refine Vc.spl ?_ ?_)<;>(intros;(conv=>whnf)))))
   all_goals exact⟨by rw[show lineF (w::[x,y])=none from by simp[lineF,hK,askedF,hx]];exact⟨_,_,_,_,_,_,rfl⟩,by exact Vc.xt⟩
 |[x,y,z],hr,hc,hm,hwl=>
  have hlen:(w::([x,y,z]:List Bs)).length=3+1:=by simp
  simp only[List.length_cons,List.length_nil]at hc hm
  have hlx:x.length≤1000000000:=hwl x (by simp)
  have hly:y.length≤1000000000:=hwl y (by simp)
  have hlz:z.length≤1000000000:=hwl z (by simp)
  have cp:=fun H2 (k:Ext H H2)=>rplain_any (w::[x,y,z]) a _ cap H2 (hr.ext k) rfl hm
  by_cases hx:x=wNot
  ·have ex:((mkS x).toList==(⟨#[110,111,116]⟩:ByteArray).toList)=true:=by show((mkS x).toList==(mkS wNot).toList)=true;rw[str_mk];exact decide_eq_true hx
   have hpx:plainW x=true:=by rw[hx];rfl
   by_cases hy:y=wExists
   ·have ey:((mkS y).toList==(⟨#[101,120,105,115,116,115]⟩:ByteArray).toList)=true:=by show((mkS y).toList==(mkS wExists).toList)=true;rw[str_mk];exact decide_eq_true hy
    have hpy:plainW y=true:=by rw[hy];rfl
    cases hpz:plainW z
    ·have hpa:(w::[x,y,z]).all plainW=false:=by simp[hpw,hpx,hpy,hpz]
     rw[hpa]at cp
     ((conv=>whnf);repeat(any_goals((first|(refine IdxA.strv hr rfl 0 _ rfl rfl ?_;intro _ _ _ _ _)|(refine IdxA.strv hr rfl 1 _ rfl rfl ?_;intro _ _ _ _ _)|(refine IdxA.strv hr rfl 2 _ rfl rfl ?_;intro _ _ _ _ _)|(refine IdxA.strv hr rfl 3 _ rfl rfl ?_;intro _ _ _ _ _)|(refine BndH.nat 2 rfl (by omega) ?_)|(refine BndH.nat 1 rfl (by omega) ?_)|(refine(cp _ (by exact Vc.xt)).mono ?_;rintro _ _ ⟨rfl,rfl⟩)|(refine(cp2 _ (by exact Vc.xt)).mono ?_;rintro _ _ ⟨rfl,rfl⟩)|(refine(rquoted_any _ _).mono ?_;rintro _ _ ⟨rfl,rfl⟩)|(refine PureH.build0 (lineC 0 [] [] [] 0 false) (by kernel_rfl) ?_)|(refine PureH.build3 (lineC 7 z [] [] 0 true) (by kernel_rfl) ?_)|refine Vc.stp ?_|refine Vc.spl ?_ ?_)<;>(intros;(conv=>whnf)))))
     all_goals exact⟨by rw[show lineF (w::[x,y,z])=none from by simp[lineF,hK,askedF,hx,hy,hpz]];exact⟨_,_,_,_,_,_,rfl⟩,by exact Vc.xt⟩
    ·have hpa:(w::[x,y,z]).all plainW=true:=by simp[hpw,hpx,hpy,hpz]
     rw[hpa]at cp
     ((conv=>whnf);repeat(any_goals((first|(refine IdxA.strv hr rfl 0 _ rfl rfl ?_;intro _ _ _ _ _)|(refine IdxA.strv hr rfl 1 _ rfl rfl ?_;intro _ _ _ _ _)|(refine IdxA.strv hr rfl 2 _ rfl rfl ?_;intro _ _ _ _ _)|(refine IdxA.strv hr rfl 3 _ rfl rfl ?_;intro _ _ _ _ _)|(refine BndH.nat 2 rfl (by omega) ?_)|(refine BndH.nat 1 rfl (by omega) ?_)|(refine(cp _ (by exact Vc.xt)).mono ?_;rintro _ _ ⟨rfl,rfl⟩)|(refine(cp2 _ (by exact Vc.xt)).mono ?_;rintro _ _ ⟨rfl,rfl⟩)|(refine(rquoted_any _ _).mono ?_;rintro _ _ ⟨rfl,rfl⟩)|(refine PureH.build0 (lineC 0 [] [] [] 0 false) (by kernel_rfl) ?_)|(refine PureH.build3 (lineC 7 z [] [] 0 true) (by kernel_rfl) ?_)|refine Vc.stp ?_|refine Vc.spl ?_ ?_)<;>(intros;(conv=>whnf)))))
     all_goals exact⟨by rw[show lineF (w::[x,y,z])=some ⟨7,z,[],[],0,true⟩from by simp[lineF,hK,askedF,hx,hy,hpz]];rfl,by exact Vc.xt⟩
   ·have ey:((mkS y).toList==(⟨#[101,120,105,115,116,115]⟩:ByteArray).toList)=false:=by show((mkS y).toList==(mkS wExists).toList)=false;rw[str_mk];exact decide_eq_false hy
    ((conv=>whnf);repeat(any_goals((first|(refine IdxA.strv hr rfl 0 _ rfl rfl ?_;intro _ _ _ _ _)|(refine IdxA.strv hr rfl 1 _ rfl rfl ?_;intro _ _ _ _ _)|(refine IdxA.strv hr rfl 2 _ rfl rfl ?_;intro _ _ _ _ _)|(refine IdxA.strv hr rfl 3 _ rfl rfl ?_;intro _ _ _ _ _)|(refine BndH.nat 2 rfl (by omega) ?_)|(refine BndH.nat 1 rfl (by omega) ?_)|(refine(cp _ (by exact Vc.xt)).mono ?_;rintro _ _ ⟨rfl,rfl⟩)|(refine(cp2 _ (by exact Vc.xt)).mono ?_;rintro _ _ ⟨rfl,rfl⟩)|(refine(rquoted_any _ _).mono ?_;rintro _ _ ⟨rfl,rfl⟩)|(refine PureH.build0 (lineC 0 [] [] [] 0 false) (by kernel_rfl) ?_)|refine Vc.stp ?_|refine Vc.spl ?_ ?_)<;>(intros;(conv=>whnf)))))
    all_goals exact⟨by rw[show lineF (w::[x,y,z])=none from by simp[lineF,hK,askedF,hx,hy]];exact⟨_,_,_,_,_,_,rfl⟩,by exact Vc.xt⟩
  ·have ex:((mkS x).toList==(⟨#[110,111,116]⟩:ByteArray).toList)=false:=by show((mkS x).toList==(mkS wNot).toList)=false;rw[str_mk];exact decide_eq_false hx
   ((conv=>whnf);repeat(any_goals((first|(refine IdxA.strv hr rfl 0 _ rfl rfl ?_;intro _ _ _ _ _)|(refine IdxA.strv hr rfl 1 _ rfl rfl ?_;intro _ _ _ _ _)|(refine IdxA.strv hr rfl 2 _ rfl rfl ?_;intro _ _ _ _ _)|(refine IdxA.strv hr rfl 3 _ rfl rfl ?_;intro _ _ _ _ _)|(refine BndH.nat 2 rfl (by omega) ?_)|(refine BndH.nat 1 rfl (by omega) ?_)|(refine(cp _ (by exact Vc.xt)).mono ?_;rintro _ _ ⟨rfl,rfl⟩)|(refine(cp2 _ (by exact Vc.xt)).mono ?_;rintro _ _ ⟨rfl,rfl⟩)|(refine(rquoted_any _ _).mono ?_;rintro _ _ ⟨rfl,rfl⟩)|(refine PureH.build0 (lineC 0 [] [] [] 0 false) (by kernel_rfl) ?_)|refine Vc.stp ?_|refine Vc.spl ?_ ?_)<;>(intros;(conv=>whnf)))))
   all_goals exact⟨by rw[show lineF (w::[x,y,z])=none from by simp[lineF,hK,askedF,hx]];exact⟨_,_,_,_,_,_,rfl⟩,by exact Vc.xt⟩
 |x::y::z::u::t,hr,hc,hm,hwl=>
  have hlen:(w::(x::y::z::u::t:List Bs)).length=t.length+4+1:=by simp
  simp only[List.length_cons,List.length_nil]at hc hm
  have hlx:x.length≤1000000000:=hwl x (by simp)
  have hly:y.length≤1000000000:=hwl y (by simp)
  have hlz:z.length≤1000000000:=hwl z (by simp)
  have hlu:u.length≤1000000000:=hwl u (by simp)
  ((conv=>whnf);repeat(any_goals((first|(refine IdxA.strv hr rfl 0 _ rfl rfl ?_;intro _ _ _ _ _)|(refine IdxA.strv hr rfl 1 _ rfl rfl ?_;intro _ _ _ _ _)|(refine IdxA.strv hr rfl 2 _ rfl rfl ?_;intro _ _ _ _ _)|(refine IdxA.strv hr rfl 3 _ rfl rfl ?_;intro _ _ _ _ _)|(refine BndH.nat 2 rfl (by omega) ?_)|(refine BndH.nat 1 rfl (by omega) ?_)|(refine(cp _ (by exact Vc.xt)).mono ?_;rintro _ _ ⟨rfl,rfl⟩)|(refine(cp2 _ (by exact Vc.xt)).mono ?_;rintro _ _ ⟨rfl,rfl⟩)|(refine(rquoted_any _ _).mono ?_;rintro _ _ ⟨rfl,rfl⟩)|(refine PureH.build0 (lineC 0 [] [] [] 0 false) (by kernel_rfl) ?_)|refine Vc.stp ?_|refine Vc.spl ?_ ?_)<;>(intros;(conv=>whnf)))))
  all_goals exact⟨by rw[show lineF (w::(x::y::z::u::t))=none from by simp[lineF,hK,askedF]];exact⟨_,_,_,_,_,_,rfl⟩,by exact Vc.xt⟩
set_option maxHeartbeats 4000000 in
theorem rline_8 (w:Bs) (ws:List Bs) (a:Option Addr) (cap:Nat) (H:Heap) (hr:Row H a (strs (w::ws))) (hc:(w::ws).length≤cap) (hm:(w::ws).length≤1000000000) (hwl: ∀ x∈w::ws,x.length≤1000000000) (hK:kindF w=8):CallH Tryz.prog 59 [.slice a (w::ws).length cap] H fun v H'=>readR v (lineF (w::ws))∧Ext H H':=by
 refine Vc.CallH.body Tryz.func59 Tryz.call59 rfl (by decide+kernel) rfl ?_
 have hw:w=kws.getD 8 []:=kind_eq hK (by decide)
 have e0:((mkS w).toList==(⟨#[99,111,112,121]⟩:ByteArray).toList)=false:=kw_f hK 0 (by decide) (by decide)
 have e1:((mkS w).toList==(⟨#[119,114,105,116,101]⟩:ByteArray).toList)=false:=kw_f hK 1 (by decide) (by decide)
 have e2:((mkS w).toList==(⟨#[97,112,112,101,110,100]⟩:ByteArray).toList)=false:=kw_f hK 2 (by decide) (by decide)
 have e3:((mkS w).toList==(⟨#[109,107,100,105,114]⟩:ByteArray).toList)=false:=kw_f hK 3 (by decide) (by decide)
 have e4:((mkS w).toList==(⟨#[114,101,109,111,118,101]⟩:ByteArray).toList)=false:=kw_f hK 4 (by decide) (by decide)
 have e5:((mkS w).toList==(⟨#[114,101,110,97,109,101]⟩:ByteArray).toList)=false:=kw_f hK 5 (by decide) (by decide)
 have e6:((mkS w).toList==(⟨#[115,101,116]⟩:ByteArray).toList)=false:=kw_f hK 6 (by decide) (by decide)
 have e7:((mkS w).toList==(⟨#[105,102]⟩:ByteArray).toList)=false:=kw_f hK 7 (by decide) (by decide)
 have e8:((mkS w).toList==(⟨#[114,101,112,101,97,116]⟩:ByteArray).toList)=true:=kw_t hK 8 (by decide) rfl
 have e9:((mkS w).toList==(⟨#[101,108,115,101]⟩:ByteArray).toList)=false:=kw_f hK 9 (by decide) (by decide)
 have e10:((mkS w).toList==(⟨#[101,110,100]⟩:ByteArray).toList)=false:=kw_f hK 10 (by decide) (by decide)
 have e11:((mkS w).toList==(⟨#[102,97,105,108]⟩:ByteArray).toList)=false:=kw_f hK 11 (by decide) (by decide)
 have hpw:plainW w=true:=by rw[hw];rfl
 match ws,hr,hc,hm,hwl with
 |[],hr,hc,hm,hwl=>
  have hlen:(w::([]:List Bs)).length=0+1:=by simp
  simp only[List.length_cons,List.length_nil]at hc hm
  ((conv=>whnf);repeat(any_goals((first|(refine IdxA.strv hr rfl 0 _ rfl rfl ?_;intro _ _ _ _ _)|(refine IdxA.strv hr rfl 1 _ rfl rfl ?_;intro _ _ _ _ _)|(refine IdxA.strv hr rfl 2 _ rfl rfl ?_;intro _ _ _ _ _)|(refine IdxA.strv hr rfl 3 _ rfl rfl ?_;intro _ _ _ _ _)|(refine BndH.nat 2 rfl (by omega) ?_)|(refine BndH.nat 1 rfl (by omega) ?_)|(refine(cp _ (by exact Vc.xt)).mono ?_;rintro _ _ ⟨rfl,rfl⟩)|(refine(cp2 _ (by exact Vc.xt)).mono ?_;rintro _ _ ⟨rfl,rfl⟩)|(refine(rquoted_any _ _).mono ?_;rintro _ _ ⟨rfl,rfl⟩)|(refine PureH.build0 (lineC 0 [] [] [] 0 false) (by kernel_rfl) ?_)|refine Vc.stp ?_|refine Vc.spl ?_ ?_)<;>(intros;(conv=>whnf)))))
  all_goals exact⟨by rw[show lineF (w::[])=none from by simp[lineF,hK,repeatF]];exact⟨_,_,_,_,_,_,rfl⟩,by exact Vc.xt⟩
 |[x],hr,hc,hm,hwl=>
  have hlen:(w::([x]:List Bs)).length=1+1:=by simp
  simp only[List.length_cons,List.length_nil]at hc hm
  have hlx:x.length≤1000000000:=hwl x (by simp)
  have hln:lineF (w::[x])=(numberF x).map fun n=>⟨8,[],[],[],n,false⟩:=by show(match kindF w with|0=>_|1=>_|2=>_|3=>_|4=>_|5=>_|6=>_|7=>_|8=>_|9=>_|10=>_|11=>_|_=>_)=_;rw[hK];rfl
  rw[hln]
  by_cases h9:9<x.length
  ·have hn:numberF x=none:=by unfold numberF;rw[if_pos h9]
   have hszx:(mkS x).size=x.length:=rfl
   rw[hn]
   ((conv=>whnf);repeat(any_goals((first|(refine IdxA.strv hr rfl 0 _ rfl rfl ?_;intro _ _ _ _ _)|(refine IdxA.strv hr rfl 1 _ rfl rfl ?_;intro _ _ _ _ _)|(refine IdxA.strv hr rfl 2 _ rfl rfl ?_;intro _ _ _ _ _)|(refine IdxA.strv hr rfl 3 _ rfl rfl ?_;intro _ _ _ _ _)|(refine BndH.nat 2 rfl (by omega) ?_)|(refine BndH.nat 1 rfl (by omega) ?_)|(refine(cp _ (by exact Vc.xt)).mono ?_;rintro _ _ ⟨rfl,rfl⟩)|(refine(cp2 _ (by exact Vc.xt)).mono ?_;rintro _ _ ⟨rfl,rfl⟩)|(refine(rquoted_any _ _).mono ?_;rintro _ _ ⟨rfl,rfl⟩)|(refine PureH.build0 (lineC 0 [] [] [] 0 false) (by kernel_rfl) ?_)|refine Vc.stp ?_|refine Vc.spl ?_ ?_)<;>(intros;(conv=>whnf)))))
   all_goals exact⟨⟨_,_,_,_,_,_,rfl⟩,by exact Vc.xt⟩
  ·obtain⟨R,hR⟩: ∃ R,numL 0 x=R:=⟨_,rfl⟩
   have hnf:numberF x=capN R:=by unfold numberF;rw[if_neg h9,hR];cases R<;>rfl
   have hszx:(mkS x).size=x.length:=rfl
   ((conv=>whnf);repeat(any_goals((first|(refine IdxA.strv hr rfl 0 _ rfl rfl ?_;intro _ _ _ _ _)|(refine IdxA.strv hr rfl 1 _ rfl rfl ?_;intro _ _ _ _ _)|(refine IdxA.strv hr rfl 2 _ rfl rfl ?_;intro _ _ _ _ _)|(refine IdxA.strv hr rfl 3 _ rfl rfl ?_;intro _ _ _ _ _)|(refine BndH.nat 2 rfl (by omega) ?_)|(refine BndH.nat 1 rfl (by omega) ?_)|(refine(cp _ (by exact Vc.xt)).mono ?_;rintro _ _ ⟨rfl,rfl⟩)|(refine(cp2 _ (by exact Vc.xt)).mono ?_;rintro _ _ ⟨rfl,rfl⟩)|(refine(rquoted_any _ _).mono ?_;rintro _ _ ⟨rfl,rfl⟩)|(refine PureH.build0 (lineC 0 [] [] [] 0 false) (by kernel_rfl) ?_)|refine Vc.stp ?_|refine Vc.spl ?_ ?_)<;>(intros;(conv=>whnf)))))
   rename_i H1 hs1 hb1 hx1 b1 o1 q1 q2 q3 b2 o2 q4 q5 q6
   refine LoopH.intro (fun(y:Nat×Nat)=>[(9,.int .i64 y.1),(8,.int .i64 y.2)]) (fun y H'=>H1=H'∧y.1≤x.length∧y.2<10 ^ y.1∧R=numL y.2 (x.drop y.1)) (fun y=>x.length-y.1) (0,0) ⟨rfl,rfl,trivial⟩ ⟨rfl,Nat.zero_le _,by decide,hR.symm⟩ ?_
   rintro⟨i,n⟩ _ ⟨rfl,hi,hn,hinv⟩
   dsimp only at hi hn hinv ⊢
   have hn9:n<1000000000:=Nat.lt_of_lt_of_le hn (Nat.le_trans (Nat.pow_le_pow_right (by decide) (show i≤9 by omega)) (by decide))
   by_cases hlt:i<x.length
   ·obtain⟨c,hcc,hdr⟩:=drop_get hlt
    have hc8:=c.toNat_lt
    rw[hdr]at hinv
    unfold numL at hinv
    by_cases hdig:48≤c.toNat∧c.toNat≤57
    ·rw[if_pos hdig]at hinv
     ((conv=>whnf);repeat(any_goals((first|(refine IdxA.strv hr rfl 0 _ rfl rfl ?_;intro _ _ _ _ _)|(refine IdxA.strv hr rfl 1 _ rfl rfl ?_;intro _ _ _ _ _)|(refine IdxA.strv hr rfl 2 _ rfl rfl ?_;intro _ _ _ _ _)|(refine IdxA.strv hr rfl 3 _ rfl rfl ?_;intro _ _ _ _ _)|(refine BndH.nat 2 rfl (by omega) ?_)|(refine BndH.nat 1 rfl (by omega) ?_)|(refine(cp _ (by exact Vc.xt)).mono ?_;rintro _ _ ⟨rfl,rfl⟩)|(refine(cp2 _ (by exact Vc.xt)).mono ?_;rintro _ _ ⟨rfl,rfl⟩)|(refine(rquoted_any _ _).mono ?_;rintro _ _ ⟨rfl,rfl⟩)|(refine IdxH.nat i rfl (by omega) ?_;(conv=>whnf);rw[hcc])|(refine PureH.build0 (lineC 0 [] [] [] 0 false) (by kernel_rfl) ?_)|(refine PureH.build2 (lineC 8 [] [] [] (n:Int) false) (by kernel_rfl) ?_)|refine Vc.stp ?_|refine Vc.spl ?_ ?_)<;>(intros;(conv=>whnf)))))
     refine⟨(i+1,10*n+(c.toNat-48)),⟨rfl,by show Value.int .i64 _=Value.int .i64 _;congr 1;omega,trivial⟩,⟨rfl,by show i+1≤_;omega,?_,hinv⟩,by show x.length-(i+1)<x.length-i;omega⟩
     show 10*n+(c.toNat-48)<10 ^ (i+1)
     rw[Nat.pow_succ];omega
    ·rw[if_neg hdig]at hinv
     rw[hinv]at hnf
     rw[hnf]
     by_cases h48:c.toNat<48
     ·((conv=>whnf);repeat(any_goals((first|(refine IdxA.strv hr rfl 0 _ rfl rfl ?_;intro _ _ _ _ _)|(refine IdxA.strv hr rfl 1 _ rfl rfl ?_;intro _ _ _ _ _)|(refine IdxA.strv hr rfl 2 _ rfl rfl ?_;intro _ _ _ _ _)|(refine IdxA.strv hr rfl 3 _ rfl rfl ?_;intro _ _ _ _ _)|(refine BndH.nat 2 rfl (by omega) ?_)|(refine BndH.nat 1 rfl (by omega) ?_)|(refine(cp _ (by exact Vc.xt)).mono ?_;rintro _ _ ⟨rfl,rfl⟩)|(refine(cp2 _ (by exact Vc.xt)).mono ?_;rintro _ _ ⟨rfl,rfl⟩)|(refine(rquoted_any _ _).mono ?_;rintro _ _ ⟨rfl,rfl⟩)|(refine IdxH.nat i rfl (by omega) ?_;(conv=>whnf);rw[hcc])|(refine PureH.build0 (lineC 0 [] [] [] 0 false) (by kernel_rfl) ?_)|(refine PureH.build2 (lineC 8 [] [] [] (n:Int) false) (by kernel_rfl) ?_)|refine Vc.stp ?_|refine Vc.spl ?_ ?_)<;>(intros;(conv=>whnf)))))
      all_goals exact⟨⟨_,_,_,_,_,_,rfl⟩,by exact Vc.xt⟩
     ·((conv=>whnf);repeat(any_goals((first|(refine IdxA.strv hr rfl 0 _ rfl rfl ?_;intro _ _ _ _ _)|(refine IdxA.strv hr rfl 1 _ rfl rfl ?_;intro _ _ _ _ _)|(refine IdxA.strv hr rfl 2 _ rfl rfl ?_;intro _ _ _ _ _)|(refine IdxA.strv hr rfl 3 _ rfl rfl ?_;intro _ _ _ _ _)|(refine BndH.nat 2 rfl (by omega) ?_)|(refine BndH.nat 1 rfl (by omega) ?_)|(refine(cp _ (by exact Vc.xt)).mono ?_;rintro _ _ ⟨rfl,rfl⟩)|(refine(cp2 _ (by exact Vc.xt)).mono ?_;rintro _ _ ⟨rfl,rfl⟩)|(refine(rquoted_any _ _).mono ?_;rintro _ _ ⟨rfl,rfl⟩)|(refine IdxH.nat i rfl (by omega) ?_;(conv=>whnf);rw[hcc])|(refine PureH.build0 (lineC 0 [] [] [] 0 false) (by kernel_rfl) ?_)|(refine PureH.build2 (lineC 8 [] [] [] (n:Int) false) (by kernel_rfl) ?_)|refine Vc.stp ?_|refine Vc.spl ?_ ?_)<;>(intros;(conv=>whnf)))))
      all_goals exact⟨⟨_,_,_,_,_,_,rfl⟩,by exact Vc.xt⟩
   ·rw[List.drop_of_length_le (by omega)]at hinv
    rw[hinv,show capN (numL n [])=if n≤1000 then some n else none from rfl]at hnf
    rw[hnf]
    by_cases h1:n≤1000
    ·rw[if_pos h1]
     ((conv=>whnf);repeat(any_goals((first|(refine IdxA.strv hr rfl 0 _ rfl rfl ?_;intro _ _ _ _ _)|(refine IdxA.strv hr rfl 1 _ rfl rfl ?_;intro _ _ _ _ _)|(refine IdxA.strv hr rfl 2 _ rfl rfl ?_;intro _ _ _ _ _)|(refine IdxA.strv hr rfl 3 _ rfl rfl ?_;intro _ _ _ _ _)|(refine BndH.nat 2 rfl (by omega) ?_)|(refine BndH.nat 1 rfl (by omega) ?_)|(refine(cp _ (by exact Vc.xt)).mono ?_;rintro _ _ ⟨rfl,rfl⟩)|(refine(cp2 _ (by exact Vc.xt)).mono ?_;rintro _ _ ⟨rfl,rfl⟩)|(refine(rquoted_any _ _).mono ?_;rintro _ _ ⟨rfl,rfl⟩)|(refine IdxH.nat i rfl (by omega) ?_;(conv=>whnf);rw[hcc])|(refine PureH.build0 (lineC 0 [] [] [] 0 false) (by kernel_rfl) ?_)|(refine PureH.build2 (lineC 8 [] [] [] (n:Int) false) (by kernel_rfl) ?_)|refine Vc.stp ?_|refine Vc.spl ?_ ?_)<;>(intros;(conv=>whnf)))))
     all_goals exact⟨by show Value.tuple #[_,.bool (decide ((n:Int)≤1000))]=_;rw[decide_eq_true (by omega)];rfl,by exact Vc.xt⟩
    ·rw[if_neg h1]
     ((conv=>whnf);repeat(any_goals((first|(refine IdxA.strv hr rfl 0 _ rfl rfl ?_;intro _ _ _ _ _)|(refine IdxA.strv hr rfl 1 _ rfl rfl ?_;intro _ _ _ _ _)|(refine IdxA.strv hr rfl 2 _ rfl rfl ?_;intro _ _ _ _ _)|(refine IdxA.strv hr rfl 3 _ rfl rfl ?_;intro _ _ _ _ _)|(refine BndH.nat 2 rfl (by omega) ?_)|(refine BndH.nat 1 rfl (by omega) ?_)|(refine(cp _ (by exact Vc.xt)).mono ?_;rintro _ _ ⟨rfl,rfl⟩)|(refine(cp2 _ (by exact Vc.xt)).mono ?_;rintro _ _ ⟨rfl,rfl⟩)|(refine(rquoted_any _ _).mono ?_;rintro _ _ ⟨rfl,rfl⟩)|(refine IdxH.nat i rfl (by omega) ?_;(conv=>whnf);rw[hcc])|(refine PureH.build0 (lineC 0 [] [] [] 0 false) (by kernel_rfl) ?_)|(refine PureH.build2 (lineC 8 [] [] [] (n:Int) false) (by kernel_rfl) ?_)|refine Vc.stp ?_|refine Vc.spl ?_ ?_)<;>(intros;(conv=>whnf)))))
     all_goals exact⟨⟨8,[],[],[],n,false,by show Value.tuple #[_,.bool (decide ((n:Int)≤1000))]=_;rw[decide_eq_false (by omega)]⟩,by exact Vc.xt⟩
 |x::y::t,hr,hc,hm,hwl=>
  have hlen:(w::(x::y::t:List Bs)).length=t.length+2+1:=by simp
  simp only[List.length_cons,List.length_nil]at hc hm
  have hlx:x.length≤1000000000:=hwl x (by simp)
  have hly:y.length≤1000000000:=hwl y (by simp)
  ((conv=>whnf);repeat(any_goals((first|(refine IdxA.strv hr rfl 0 _ rfl rfl ?_;intro _ _ _ _ _)|(refine IdxA.strv hr rfl 1 _ rfl rfl ?_;intro _ _ _ _ _)|(refine IdxA.strv hr rfl 2 _ rfl rfl ?_;intro _ _ _ _ _)|(refine IdxA.strv hr rfl 3 _ rfl rfl ?_;intro _ _ _ _ _)|(refine BndH.nat 2 rfl (by omega) ?_)|(refine BndH.nat 1 rfl (by omega) ?_)|(refine(cp _ (by exact Vc.xt)).mono ?_;rintro _ _ ⟨rfl,rfl⟩)|(refine(cp2 _ (by exact Vc.xt)).mono ?_;rintro _ _ ⟨rfl,rfl⟩)|(refine(rquoted_any _ _).mono ?_;rintro _ _ ⟨rfl,rfl⟩)|(refine PureH.build0 (lineC 0 [] [] [] 0 false) (by kernel_rfl) ?_)|refine Vc.stp ?_|refine Vc.spl ?_ ?_)<;>(intros;(conv=>whnf)))))
  all_goals exact⟨by rw[show lineF (w::(x::y::t))=none from by simp[lineF,hK,repeatF]];exact⟨_,_,_,_,_,_,rfl⟩,by exact Vc.xt⟩
set_option maxHeartbeats 4000000 in
theorem rline_9 (w:Bs) (ws:List Bs) (a:Option Addr) (cap:Nat) (H:Heap) (hr:Row H a (strs (w::ws))) (hc:(w::ws).length≤cap) (hm:(w::ws).length≤1000000000) (hwl: ∀ x∈w::ws,x.length≤1000000000) (hK:kindF w=9):CallH Tryz.prog 59 [.slice a (w::ws).length cap] H fun v H'=>readR v (lineF (w::ws))∧Ext H H':=by
 refine Vc.CallH.body Tryz.func59 Tryz.call59 rfl (by decide+kernel) rfl ?_
 have hw:w=kws.getD 9 []:=kind_eq hK (by decide)
 have e0:((mkS w).toList==(⟨#[99,111,112,121]⟩:ByteArray).toList)=false:=kw_f hK 0 (by decide) (by decide)
 have e1:((mkS w).toList==(⟨#[119,114,105,116,101]⟩:ByteArray).toList)=false:=kw_f hK 1 (by decide) (by decide)
 have e2:((mkS w).toList==(⟨#[97,112,112,101,110,100]⟩:ByteArray).toList)=false:=kw_f hK 2 (by decide) (by decide)
 have e3:((mkS w).toList==(⟨#[109,107,100,105,114]⟩:ByteArray).toList)=false:=kw_f hK 3 (by decide) (by decide)
 have e4:((mkS w).toList==(⟨#[114,101,109,111,118,101]⟩:ByteArray).toList)=false:=kw_f hK 4 (by decide) (by decide)
 have e5:((mkS w).toList==(⟨#[114,101,110,97,109,101]⟩:ByteArray).toList)=false:=kw_f hK 5 (by decide) (by decide)
 have e6:((mkS w).toList==(⟨#[115,101,116]⟩:ByteArray).toList)=false:=kw_f hK 6 (by decide) (by decide)
 have e7:((mkS w).toList==(⟨#[105,102]⟩:ByteArray).toList)=false:=kw_f hK 7 (by decide) (by decide)
 have e8:((mkS w).toList==(⟨#[114,101,112,101,97,116]⟩:ByteArray).toList)=false:=kw_f hK 8 (by decide) (by decide)
 have e9:((mkS w).toList==(⟨#[101,108,115,101]⟩:ByteArray).toList)=true:=kw_t hK 9 (by decide) rfl
 have e10:((mkS w).toList==(⟨#[101,110,100]⟩:ByteArray).toList)=false:=kw_f hK 10 (by decide) (by decide)
 have e11:((mkS w).toList==(⟨#[102,97,105,108]⟩:ByteArray).toList)=false:=kw_f hK 11 (by decide) (by decide)
 have hpw:plainW w=true:=by rw[hw];rfl
 match ws,hr,hc,hm,hwl with
 |[],hr,hc,hm,hwl=>
  have hlen:(w::([]:List Bs)).length=0+1:=by simp
  simp only[List.length_cons,List.length_nil]at hc hm
  ((conv=>whnf);repeat(any_goals((first|(refine IdxA.strv hr rfl 0 _ rfl rfl ?_;intro _ _ _ _ _)|(refine IdxA.strv hr rfl 1 _ rfl rfl ?_;intro _ _ _ _ _)|(refine IdxA.strv hr rfl 2 _ rfl rfl ?_;intro _ _ _ _ _)|(refine IdxA.strv hr rfl 3 _ rfl rfl ?_;intro _ _ _ _ _)|(refine BndH.nat 2 rfl (by omega) ?_)|(refine BndH.nat 1 rfl (by omega) ?_)|(refine(cp _ (by exact Vc.xt)).mono ?_;rintro _ _ ⟨rfl,rfl⟩)|(refine(cp2 _ (by exact Vc.xt)).mono ?_;rintro _ _ ⟨rfl,rfl⟩)|(refine(rquoted_any _ _).mono ?_;rintro _ _ ⟨rfl,rfl⟩)|(refine PureH.build1 (lineC 9 [] [] [] 0 false) (by kernel_rfl) ?_)|refine Vc.stp ?_|refine Vc.spl ?_ ?_)<;>(intros;(conv=>whnf)))))
  all_goals exact⟨by rw[show lineF (w::[])=some ⟨9,[],[],[],0,false⟩from by simp[lineF,hK,bareF]];rfl,by exact Vc.xt⟩
 |x::t,hr,hc,hm,hwl=>
  have hlen:(w::(x::t:List Bs)).length=t.length+1+1:=by simp
  simp only[List.length_cons,List.length_nil]at hc hm
  have hlx:x.length≤1000000000:=hwl x (by simp)
  ((conv=>whnf);repeat(any_goals((first|(refine IdxA.strv hr rfl 0 _ rfl rfl ?_;intro _ _ _ _ _)|(refine IdxA.strv hr rfl 1 _ rfl rfl ?_;intro _ _ _ _ _)|(refine IdxA.strv hr rfl 2 _ rfl rfl ?_;intro _ _ _ _ _)|(refine IdxA.strv hr rfl 3 _ rfl rfl ?_;intro _ _ _ _ _)|(refine BndH.nat 2 rfl (by omega) ?_)|(refine BndH.nat 1 rfl (by omega) ?_)|(refine(cp _ (by exact Vc.xt)).mono ?_;rintro _ _ ⟨rfl,rfl⟩)|(refine(cp2 _ (by exact Vc.xt)).mono ?_;rintro _ _ ⟨rfl,rfl⟩)|(refine(rquoted_any _ _).mono ?_;rintro _ _ ⟨rfl,rfl⟩)|(refine PureH.build1 (lineC 9 [] [] [] 0 false) (by kernel_rfl) ?_)|refine Vc.stp ?_|refine Vc.spl ?_ ?_)<;>(intros;(conv=>whnf)))))
  all_goals exact⟨by rw[show lineF (w::(x::t))=none from by simp[lineF,hK,bareF]];exact⟨_,_,_,_,_,_,rfl⟩,by exact Vc.xt⟩
set_option maxHeartbeats 4000000 in
theorem rline_10 (w:Bs) (ws:List Bs) (a:Option Addr) (cap:Nat) (H:Heap) (hr:Row H a (strs (w::ws))) (hc:(w::ws).length≤cap) (hm:(w::ws).length≤1000000000) (hwl: ∀ x∈w::ws,x.length≤1000000000) (hK:kindF w=10):CallH Tryz.prog 59 [.slice a (w::ws).length cap] H fun v H'=>readR v (lineF (w::ws))∧Ext H H':=by
 refine Vc.CallH.body Tryz.func59 Tryz.call59 rfl (by decide+kernel) rfl ?_
 have hw:w=kws.getD 10 []:=kind_eq hK (by decide)
 have e0:((mkS w).toList==(⟨#[99,111,112,121]⟩:ByteArray).toList)=false:=kw_f hK 0 (by decide) (by decide)
 have e1:((mkS w).toList==(⟨#[119,114,105,116,101]⟩:ByteArray).toList)=false:=kw_f hK 1 (by decide) (by decide)
 have e2:((mkS w).toList==(⟨#[97,112,112,101,110,100]⟩:ByteArray).toList)=false:=kw_f hK 2 (by decide) (by decide)
 have e3:((mkS w).toList==(⟨#[109,107,100,105,114]⟩:ByteArray).toList)=false:=kw_f hK 3 (by decide) (by decide)
 have e4:((mkS w).toList==(⟨#[114,101,109,111,118,101]⟩:ByteArray).toList)=false:=kw_f hK 4 (by decide) (by decide)
 have e5:((mkS w).toList==(⟨#[114,101,110,97,109,101]⟩:ByteArray).toList)=false:=kw_f hK 5 (by decide) (by decide)
 have e6:((mkS w).toList==(⟨#[115,101,116]⟩:ByteArray).toList)=false:=kw_f hK 6 (by decide) (by decide)
 have e7:((mkS w).toList==(⟨#[105,102]⟩:ByteArray).toList)=false:=kw_f hK 7 (by decide) (by decide)
 have e8:((mkS w).toList==(⟨#[114,101,112,101,97,116]⟩:ByteArray).toList)=false:=kw_f hK 8 (by decide) (by decide)
 have e9:((mkS w).toList==(⟨#[101,108,115,101]⟩:ByteArray).toList)=false:=kw_f hK 9 (by decide) (by decide)
 have e10:((mkS w).toList==(⟨#[101,110,100]⟩:ByteArray).toList)=true:=kw_t hK 10 (by decide) rfl
 have e11:((mkS w).toList==(⟨#[102,97,105,108]⟩:ByteArray).toList)=false:=kw_f hK 11 (by decide) (by decide)
 have hpw:plainW w=true:=by rw[hw];rfl
 match ws,hr,hc,hm,hwl with
 |[],hr,hc,hm,hwl=>
  have hlen:(w::([]:List Bs)).length=0+1:=by simp
  simp only[List.length_cons,List.length_nil]at hc hm
  ((conv=>whnf);repeat(any_goals((first|(refine IdxA.strv hr rfl 0 _ rfl rfl ?_;intro _ _ _ _ _)|(refine IdxA.strv hr rfl 1 _ rfl rfl ?_;intro _ _ _ _ _)|(refine IdxA.strv hr rfl 2 _ rfl rfl ?_;intro _ _ _ _ _)|(refine IdxA.strv hr rfl 3 _ rfl rfl ?_;intro _ _ _ _ _)|(refine BndH.nat 2 rfl (by omega) ?_)|(refine BndH.nat 1 rfl (by omega) ?_)|(refine(cp _ (by exact Vc.xt)).mono ?_;rintro _ _ ⟨rfl,rfl⟩)|(refine(cp2 _ (by exact Vc.xt)).mono ?_;rintro _ _ ⟨rfl,rfl⟩)|(refine(rquoted_any _ _).mono ?_;rintro _ _ ⟨rfl,rfl⟩)|(refine PureH.build1 (lineC 10 [] [] [] 0 false) (by kernel_rfl) ?_)|refine Vc.stp ?_|refine Vc.spl ?_ ?_)<;>(intros;(conv=>whnf)))))
  all_goals exact⟨by rw[show lineF (w::[])=some ⟨10,[],[],[],0,false⟩from by simp[lineF,hK,bareF]];rfl,by exact Vc.xt⟩
 |x::t,hr,hc,hm,hwl=>
  have hlen:(w::(x::t:List Bs)).length=t.length+1+1:=by simp
  simp only[List.length_cons,List.length_nil]at hc hm
  have hlx:x.length≤1000000000:=hwl x (by simp)
  ((conv=>whnf);repeat(any_goals((first|(refine IdxA.strv hr rfl 0 _ rfl rfl ?_;intro _ _ _ _ _)|(refine IdxA.strv hr rfl 1 _ rfl rfl ?_;intro _ _ _ _ _)|(refine IdxA.strv hr rfl 2 _ rfl rfl ?_;intro _ _ _ _ _)|(refine IdxA.strv hr rfl 3 _ rfl rfl ?_;intro _ _ _ _ _)|(refine BndH.nat 2 rfl (by omega) ?_)|(refine BndH.nat 1 rfl (by omega) ?_)|(refine(cp _ (by exact Vc.xt)).mono ?_;rintro _ _ ⟨rfl,rfl⟩)|(refine(cp2 _ (by exact Vc.xt)).mono ?_;rintro _ _ ⟨rfl,rfl⟩)|(refine(rquoted_any _ _).mono ?_;rintro _ _ ⟨rfl,rfl⟩)|(refine PureH.build1 (lineC 10 [] [] [] 0 false) (by kernel_rfl) ?_)|refine Vc.stp ?_|refine Vc.spl ?_ ?_)<;>(intros;(conv=>whnf)))))
  all_goals exact⟨by rw[show lineF (w::(x::t))=none from by simp[lineF,hK,bareF]];exact⟨_,_,_,_,_,_,rfl⟩,by exact Vc.xt⟩
set_option maxHeartbeats 4000000 in
theorem rline_11 (w:Bs) (ws:List Bs) (a:Option Addr) (cap:Nat) (H:Heap) (hr:Row H a (strs (w::ws))) (hc:(w::ws).length≤cap) (hm:(w::ws).length≤1000000000) (hwl: ∀ x∈w::ws,x.length≤1000000000) (hK:kindF w=11):CallH Tryz.prog 59 [.slice a (w::ws).length cap] H fun v H'=>readR v (lineF (w::ws))∧Ext H H':=by
 refine Vc.CallH.body Tryz.func59 Tryz.call59 rfl (by decide+kernel) rfl ?_
 have hw:w=kws.getD 11 []:=kind_eq hK (by decide)
 have e0:((mkS w).toList==(⟨#[99,111,112,121]⟩:ByteArray).toList)=false:=kw_f hK 0 (by decide) (by decide)
 have e1:((mkS w).toList==(⟨#[119,114,105,116,101]⟩:ByteArray).toList)=false:=kw_f hK 1 (by decide) (by decide)
 have e2:((mkS w).toList==(⟨#[97,112,112,101,110,100]⟩:ByteArray).toList)=false:=kw_f hK 2 (by decide) (by decide)
 have e3:((mkS w).toList==(⟨#[109,107,100,105,114]⟩:ByteArray).toList)=false:=kw_f hK 3 (by decide) (by decide)
 have e4:((mkS w).toList==(⟨#[114,101,109,111,118,101]⟩:ByteArray).toList)=false:=kw_f hK 4 (by decide) (by decide)
 have e5:((mkS w).toList==(⟨#[114,101,110,97,109,101]⟩:ByteArray).toList)=false:=kw_f hK 5 (by decide) (by decide)
 have e6:((mkS w).toList==(⟨#[115,101,116]⟩:ByteArray).toList)=false:=kw_f hK 6 (by decide) (by decide)
 have e7:((mkS w).toList==(⟨#[105,102]⟩:ByteArray).toList)=false:=kw_f hK 7 (by decide) (by decide)
 have e8:((mkS w).toList==(⟨#[114,101,112,101,97,116]⟩:ByteArray).toList)=false:=kw_f hK 8 (by decide) (by decide)
 have e9:((mkS w).toList==(⟨#[101,108,115,101]⟩:ByteArray).toList)=false:=kw_f hK 9 (by decide) (by decide)
 have e10:((mkS w).toList==(⟨#[101,110,100]⟩:ByteArray).toList)=false:=kw_f hK 10 (by decide) (by decide)
 have e11:((mkS w).toList==(⟨#[102,97,105,108]⟩:ByteArray).toList)=true:=kw_t hK 11 (by decide) rfl
 have hpw:plainW w=true:=by rw[hw];rfl
 match ws,hr,hc,hm,hwl with
 |[],hr,hc,hm,hwl=>
  have hlen:(w::([]:List Bs)).length=0+1:=by simp
  simp only[List.length_cons,List.length_nil]at hc hm
  ((conv=>whnf);repeat(any_goals((first|(refine IdxA.strv hr rfl 0 _ rfl rfl ?_;intro _ _ _ _ _)|(refine IdxA.strv hr rfl 1 _ rfl rfl ?_;intro _ _ _ _ _)|(refine IdxA.strv hr rfl 2 _ rfl rfl ?_;intro _ _ _ _ _)|(refine IdxA.strv hr rfl 3 _ rfl rfl ?_;intro _ _ _ _ _)|(refine BndH.nat 2 rfl (by omega) ?_)|(refine BndH.nat 1 rfl (by omega) ?_)|(refine(cp _ (by exact Vc.xt)).mono ?_;rintro _ _ ⟨rfl,rfl⟩)|(refine(cp2 _ (by exact Vc.xt)).mono ?_;rintro _ _ ⟨rfl,rfl⟩)|(refine(rquoted_any _ _).mono ?_;rintro _ _ ⟨rfl,rfl⟩)|(refine PureH.build0 (lineC 0 [] [] [] 0 false) (by kernel_rfl) ?_)|refine Vc.stp ?_|refine Vc.spl ?_ ?_)<;>(intros;(conv=>whnf)))))
  all_goals exact⟨by rw[show lineF (w::[])=none from by simp[lineF,hK,failF]];exact⟨_,_,_,_,_,_,rfl⟩,by exact Vc.xt⟩
 |[x],hr,hc,hm,hwl=>
  have hlen:(w::([x]:List Bs)).length=1+1:=by simp
  simp only[List.length_cons,List.length_nil]at hc hm
  have hlx:x.length≤1000000000:=hwl x (by simp)
  cases hpx:plainW x
  ·have hzx:1≤x.length:=plain_pos hpx
   have hszx:(mkS x).size=x.length:=rfl
   ((conv=>whnf);repeat(any_goals((first|(refine IdxA.strv hr rfl 0 _ rfl rfl ?_;intro _ _ _ _ _)|(refine IdxA.strv hr rfl 1 _ rfl rfl ?_;intro _ _ _ _ _)|(refine IdxA.strv hr rfl 2 _ rfl rfl ?_;intro _ _ _ _ _)|(refine IdxA.strv hr rfl 3 _ rfl rfl ?_;intro _ _ _ _ _)|(refine BndH.nat 2 rfl (by omega) ?_)|(refine BndH.nat 1 rfl (by omega) ?_)|(refine(cp _ (by exact Vc.xt)).mono ?_;rintro _ _ ⟨rfl,rfl⟩)|(refine(cp2 _ (by exact Vc.xt)).mono ?_;rintro _ _ ⟨rfl,rfl⟩)|(refine(rquoted_any _ _).mono ?_;rintro _ _ ⟨rfl,rfl⟩)|(refine PureH.build0 (lineC 0 [] [] [] 0 false) (by kernel_rfl) ?_)|(refine PureH.build2 #[.int .i64 11,.string (mkS []),.string (mkS []),.string ((mkS x).extract 1 (mkS x).size),.int .i64 0,.bool false] (by kernel_rfl) ?_)|refine Vc.stp ?_|refine Vc.spl ?_ ?_)<;>(intros;(conv=>whnf)))))
   all_goals exact⟨by rw[show lineF (w::[x])=some ⟨11,[],[],x.tail,0,false⟩from by simp[lineF,hK,failF,hpx]];show Value.tuple #[.agg #[.int .i64 11,.string (mkS []),.string (mkS []),.string ((mkS x).extract 1 (mkS x).size),.int .i64 0,.bool false],.bool true]=_;rw[mkS_drop,List.drop_one];rfl,by exact Vc.xt⟩
  ·((conv=>whnf);repeat(any_goals((first|(refine IdxA.strv hr rfl 0 _ rfl rfl ?_;intro _ _ _ _ _)|(refine IdxA.strv hr rfl 1 _ rfl rfl ?_;intro _ _ _ _ _)|(refine IdxA.strv hr rfl 2 _ rfl rfl ?_;intro _ _ _ _ _)|(refine IdxA.strv hr rfl 3 _ rfl rfl ?_;intro _ _ _ _ _)|(refine BndH.nat 2 rfl (by omega) ?_)|(refine BndH.nat 1 rfl (by omega) ?_)|(refine(cp _ (by exact Vc.xt)).mono ?_;rintro _ _ ⟨rfl,rfl⟩)|(refine(cp2 _ (by exact Vc.xt)).mono ?_;rintro _ _ ⟨rfl,rfl⟩)|(refine(rquoted_any _ _).mono ?_;rintro _ _ ⟨rfl,rfl⟩)|(refine PureH.build0 (lineC 0 [] [] [] 0 false) (by kernel_rfl) ?_)|(refine PureH.build2 #[.int .i64 11,.string (mkS []),.string (mkS []),.string ((mkS x).extract 1 (mkS x).size),.int .i64 0,.bool false] (by kernel_rfl) ?_)|refine Vc.stp ?_|refine Vc.spl ?_ ?_)<;>(intros;(conv=>whnf)))))
   all_goals exact⟨by rw[show lineF (w::[x])=none from by simp[lineF,hK,failF,hpx]];exact⟨_,_,_,_,_,_,rfl⟩,by exact Vc.xt⟩
 |x::y::t,hr,hc,hm,hwl=>
  have hlen:(w::(x::y::t:List Bs)).length=t.length+2+1:=by simp
  simp only[List.length_cons,List.length_nil]at hc hm
  have hlx:x.length≤1000000000:=hwl x (by simp)
  have hly:y.length≤1000000000:=hwl y (by simp)
  ((conv=>whnf);repeat(any_goals((first|(refine IdxA.strv hr rfl 0 _ rfl rfl ?_;intro _ _ _ _ _)|(refine IdxA.strv hr rfl 1 _ rfl rfl ?_;intro _ _ _ _ _)|(refine IdxA.strv hr rfl 2 _ rfl rfl ?_;intro _ _ _ _ _)|(refine IdxA.strv hr rfl 3 _ rfl rfl ?_;intro _ _ _ _ _)|(refine BndH.nat 2 rfl (by omega) ?_)|(refine BndH.nat 1 rfl (by omega) ?_)|(refine(cp _ (by exact Vc.xt)).mono ?_;rintro _ _ ⟨rfl,rfl⟩)|(refine(cp2 _ (by exact Vc.xt)).mono ?_;rintro _ _ ⟨rfl,rfl⟩)|(refine(rquoted_any _ _).mono ?_;rintro _ _ ⟨rfl,rfl⟩)|(refine PureH.build0 (lineC 0 [] [] [] 0 false) (by kernel_rfl) ?_)|refine Vc.stp ?_|refine Vc.spl ?_ ?_)<;>(intros;(conv=>whnf)))))
  all_goals exact⟨by rw[show lineF (w::(x::y::t))=none from by simp[lineF,hK,failF]];exact⟨_,_,_,_,_,_,rfl⟩,by exact Vc.xt⟩
set_option maxHeartbeats 4000000 in
theorem rline_12 (w:Bs) (ws:List Bs) (a:Option Addr) (cap:Nat) (H:Heap) (hr:Row H a (strs (w::ws))) (hc:(w::ws).length≤cap) (hm:(w::ws).length≤1000000000) (hwl: ∀ x∈w::ws,x.length≤1000000000) (hK:kindF w=12):CallH Tryz.prog 59 [.slice a (w::ws).length cap] H fun v H'=>readR v (lineF (w::ws))∧Ext H H':=by
 refine Vc.CallH.body Tryz.func59 Tryz.call59 rfl (by decide+kernel) rfl ?_
 have e0:((mkS w).toList==(⟨#[99,111,112,121]⟩:ByteArray).toList)=false:=kw_f hK 0 (by decide) (by decide)
 have e1:((mkS w).toList==(⟨#[119,114,105,116,101]⟩:ByteArray).toList)=false:=kw_f hK 1 (by decide) (by decide)
 have e2:((mkS w).toList==(⟨#[97,112,112,101,110,100]⟩:ByteArray).toList)=false:=kw_f hK 2 (by decide) (by decide)
 have e3:((mkS w).toList==(⟨#[109,107,100,105,114]⟩:ByteArray).toList)=false:=kw_f hK 3 (by decide) (by decide)
 have e4:((mkS w).toList==(⟨#[114,101,109,111,118,101]⟩:ByteArray).toList)=false:=kw_f hK 4 (by decide) (by decide)
 have e5:((mkS w).toList==(⟨#[114,101,110,97,109,101]⟩:ByteArray).toList)=false:=kw_f hK 5 (by decide) (by decide)
 have e6:((mkS w).toList==(⟨#[115,101,116]⟩:ByteArray).toList)=false:=kw_f hK 6 (by decide) (by decide)
 have e7:((mkS w).toList==(⟨#[105,102]⟩:ByteArray).toList)=false:=kw_f hK 7 (by decide) (by decide)
 have e8:((mkS w).toList==(⟨#[114,101,112,101,97,116]⟩:ByteArray).toList)=false:=kw_f hK 8 (by decide) (by decide)
 have e9:((mkS w).toList==(⟨#[101,108,115,101]⟩:ByteArray).toList)=false:=kw_f hK 9 (by decide) (by decide)
 have e10:((mkS w).toList==(⟨#[101,110,100]⟩:ByteArray).toList)=false:=kw_f hK 10 (by decide) (by decide)
 have e11:((mkS w).toList==(⟨#[102,97,105,108]⟩:ByteArray).toList)=false:=kw_f hK 11 (by decide) (by decide)
 have hlen:(w::ws).length=ws.length+1:=rfl
 ((conv=>whnf);repeat(any_goals((first|(refine IdxA.strv hr rfl 0 _ rfl rfl ?_;intro _ _ _ _ _)|(refine IdxA.strv hr rfl 1 _ rfl rfl ?_;intro _ _ _ _ _)|(refine IdxA.strv hr rfl 2 _ rfl rfl ?_;intro _ _ _ _ _)|(refine IdxA.strv hr rfl 3 _ rfl rfl ?_;intro _ _ _ _ _)|(refine BndH.nat 2 rfl (by omega) ?_)|(refine BndH.nat 1 rfl (by omega) ?_)|(refine(cp _ (by exact Vc.xt)).mono ?_;rintro _ _ ⟨rfl,rfl⟩)|(refine(cp2 _ (by exact Vc.xt)).mono ?_;rintro _ _ ⟨rfl,rfl⟩)|(refine(rquoted_any _ _).mono ?_;rintro _ _ ⟨rfl,rfl⟩)|(refine PureH.build0 (lineC 0 [] [] [] 0 false) (by kernel_rfl) ?_)|refine Vc.stp ?_|refine Vc.spl ?_ ?_)<;>(intros;(conv=>whnf)))))
 all_goals exact⟨by rw[show lineF (w::ws)=none from by show(match kindF w with|0=>_|1=>_|2=>_|3=>_|4=>_|5=>_|6=>_|7=>_|8=>_|9=>_|10=>_|11=>_|_=>_)=_;rw[hK];rfl];exact⟨_,_,_,_,_,_,rfl⟩,by exact Vc.xt⟩
theorem rline_any (w:Bs) (ws:List Bs) (a:Option Addr) (n cap:Nat) (H:Heap) (hr:Row H a (strs (w::ws))) (hn:(w::ws).length=n) (hc:n≤cap) (hm:n≤1000000000) (hwl: ∀ x∈w::ws,x.length≤1000000000):CallH Tryz.prog 59 [.slice a n cap] H fun v H'=>readR v (lineF (w::ws))∧Ext H H':=by
 subst hn
 obtain⟨K,hK⟩: ∃ K,kindF w=K:=⟨_,rfl⟩
 have hle:K≤12:=by rw[←hK];exact List.findIdx_le_length
 have cases13:K=0∨K=1∨K=2∨K=3∨K=4∨K=5∨K=6∨K=7∨K=8∨K=9∨K=10∨K=11∨K=12:=by omega
 rcases cases13 with rfl|rfl|rfl|rfl|rfl|rfl|rfl|rfl|rfl|rfl|rfl|rfl|rfl
 ·exact rline_0 w ws a cap H hr hc hm hwl hK
 ·exact rline_1 w ws a cap H hr hc hm hwl hK
 ·exact rline_2 w ws a cap H hr hc hm hwl hK
 ·exact rline_3 w ws a cap H hr hc hm hwl hK
 ·exact rline_4 w ws a cap H hr hc hm hwl hK
 ·exact rline_5 w ws a cap H hr hc hm hwl hK
 ·exact rline_6 w ws a cap H hr hc hm hwl hK
 ·exact rline_7 w ws a cap H hr hc hm hwl hK
 ·exact rline_8 w ws a cap H hr hc hm hwl hK
 ·exact rline_9 w ws a cap H hr hc hm hwl hK
 ·exact rline_10 w ws a cap H hr hc hm hwl hK
 ·exact rline_11 w ws a cap H hr hc hm hwl hK
 ·exact rline_12 w ws a cap H hr hc hm hwl hK
end Go.Proofs.YtphkaogbcfdllaaGreatDoor
namespace Go.Proofs.YtphkaogbcfdllaaGreatDoor
open Go Go.Vc Go.Scr
def opc (k:Nat):Nat:=if k=7 then 0 else if k=9 then 1 else 2
def opV (o:List Nat):List Value:=natV (o.map opc)
theorem opV_append (o m:List Nat):opV (o++m)=opV o++opV m:=by simp[opV,natV]
theorem opV_length (o:List Nat):(opV o).length=o.length:=by simp[opV,natV]
structure RInv (H H':Heap) (al:Option Addr) (cl:Nat) (L:List Bs) (out:List Ln) (ao:Option Addr) (co:Nat) (o:List Nat) (a:Option Addr) (cap:Nat):Prop where
 op:Own H' H.size 3 1 a o.length cap (opV o)
 lines:Own H' H.size 9 1 al L.length cl (strs L)
 own:Own H' H.size 43 6 ao out.length co (lnsV out)
 d1:Apart al a
 d2:Apart ao a
 d3:Apart al ao
 ext:Ext H H'
variable {H H' H'':Heap} {al:Option Addr} {cl:Nat} {L:List Bs} {out:List Ln} {x:Ln} {ao ao':Option Addr} {co co':Nat} {o o':List Nat} {a a':Option Addr} {cap cap':Nat}
theorem RInv.grow (h:RInv H H' al cl L out ao co o a cap) (k:Ext H' H''):RInv H H'' al cl L out ao co o a cap:=
 ⟨h.op.ext k,h.lines.ext k,h.own.ext k,h.d1,h.d2,h.d3,h.ext.trans k⟩
theorem RInv.open (h:RInv H H' al cl L out ao co o a cap) (ho:Own H'' H.size 3 1 a' o'.length cap' (opV o')) (k:Wr a H' H'') (hf: ∀ p,a'=some p→a'=a∨H'.size≤p.block):RInv H H'' al cl L out ao co o' a' cap':=by
 refine⟨ho,h.lines.keep k fun p hp ⟨q,hq,e⟩=>h.d1 p q hp hq e.symm,h.own.keep k fun p hp ⟨q,hq,e⟩=>h.d2 p q hp hq e.symm,fun p q hp hq e=> ?_,fun p q hp hq e=> ?_,h.d3,h.ext.wr h.op (Nat.le_refl _) k⟩
 ·rcases hf q hq with e1|e1
  ·exact h.d1 p q hp (e1▸hq) e
  ·have:=(h.lines.block p hp).2;omega
 ·rcases hf q hq with e1|e1
  ·exact h.d2 p q hp (e1▸hq) e
  ·have:=(h.own.block p hp).2;omega
theorem RInv.push (h:RInv H H' al cl L out ao co o a cap) (ho:Own H'' H.size 43 6 ao' (out.length+1) co' (lnsV out++(lnC x).toList)) (k:Wr ao H' H'') (hf: ∀ p,ao'=some p→ao'=ao∨H'.size≤p.block):RInv H H'' al cl L (out++[x]) ao' co' o a cap:=by
 have e:lnsV (out++[x])=lnsV out++(lnC x).toList:=by rw[lnsV_append];simp[lnsV]
 refine⟨h.op.keep k fun p hp ⟨q,hq,e⟩=>h.d2 q p hq hp e,h.lines.keep k fun p hp ⟨q,hq,e⟩=>h.d3 p q hp hq e.symm,by rw[e,List.length_append];exact ho,h.d1,fun p q hp hq e=> ?_,fun p q hp hq e=> ?_,h.ext.wr h.own (Nat.le_refl _) k⟩
 ·rcases hf p hp with e1|e1
  ·exact h.d2 p q (e1▸hp) hq e
  ·have:=(h.op.block q hq).2;omega
 ·rcases hf q hq with e1|e1
  ·exact h.d3 p q hp (e1▸hq) e
  ·have:=(h.lines.block p hp).2;omega
theorem commF_head {l:Bs} {c:UInt8} {t:Bs} (h:l.dropWhile isB=c::t):commF l=(c==35):=by unfold commF;rw[h]
set_option maxHeartbeats 8000000 in
theorem rparse_any (s:Bs) (hl:s.length≤10000000) (H:Heap):CallH Tryz.prog 16 [.string (mkS s)] H fun v H'=>parseR H' H.size v (parseF s)∧Ext H H':=by
 have hsz:(mkS s).size=s.length:=rfl
 refine Vc.CallH.body Tryz.func16 Tryz.call16 rfl (by decide+kernel) rfl ?_
 by_cases hbig:65536<s.length
 ·have e:parseF s=(none,0):=by unfold parseF;rw[if_pos hbig]
  ((conv=>whnf);repeat(any_goals((first|refine Vc.stp ?_|refine Vc.spl ?_ ?_)<;>(intros;(conv=>whnf)))))
  rw[e];exact⟨rfl,Ext.refl _⟩
 ·have e:parseF s=parseL (linesF s) 0 [] []:=by unfold parseF;rw[if_neg hbig]
  rw[e]
  have hls:=fun H=>rlines_any s (by omega) H
  obtain⟨hLn,hLl⟩:=linesF_len s
  generalize linesF s=L at*
  obtain⟨R,hR⟩: ∃ R,parseL L 0 [] []=R:=⟨_,rfl⟩
  rw[hR]
  ((conv=>whnf);repeat(any_goals((first|(refine(hls _).mono ?_;rintro _ H2 ⟨⟨al,cl,rfl,hol⟩,hx2⟩;have hz2:=hx2.size)|refine Vc.stp ?_|refine Vc.spl ?_ ?_)<;>(intros;(conv=>whnf)))))
  refine LoopH.intro (fun(x:PSt)=>[(8,.int .i64 x.i),(5,.slice x.ao x.out.length x.co),(6,.slice x.a x.o.length x.cap)]) (fun x H'=>x.i≤L.length∧x.out.length≤200∧x.o.length≤8∧R=parseL (L.drop x.i) x.i x.out x.o∧RInv H H' al cl L x.out x.ao x.co x.o x.a x.cap) (fun x=>L.length-x.i) ⟨0,[],none,0,[],none,0⟩ ⟨rfl,rfl,rfl,trivial⟩ ⟨Nat.zero_le _,Nat.zero_le _,Nat.zero_le _,hR.symm,⟨Own.nil _ _ _ _,hol,Own.nil _ _ _ _,fun p q _ hq=>(by cases hq),fun p q hp=>(by cases hp),fun p q _ hq=>(by cases hq),hx2⟩⟩ ?_
  rintro⟨i,out,ao,co,o,a,cap⟩ H3 ⟨hi,hout,ho8,hinv,hp3⟩
  dsimp only at hi hout ho8 hinv hp3 ⊢
  have hz3:=hp3.ext.size
  by_cases hlt:i<L.length
  ·have hd:L.drop i=L.getD i []::L.drop (i+1):=by
    rw[List.drop_eq_getElem_cons hlt,List.getD_eq_getElem?_getD,List.getElem?_eq_getElem hlt];rfl
   have hmem:L.getD i []∈L:=by
    rw[List.getD_eq_getElem?_getD,List.getElem?_eq_getElem hlt];exact List.getElem_mem hlt
   have hget:L[i]? =some (L.getD i []):=by rw[List.getD_eq_getElem?_getD,List.getElem?_eq_getElem hlt];rfl
   have hll:=hLl _ hmem
   generalize L.getD i []=l at*
   rw[hd,parseL_step]at hinv
   have hw:=fun H=>rwords_any l (by omega) H
   have hrow:=hp3.lines.row
   obtain⟨D,hD⟩: ∃ D,l.dropWhile isB=D:=⟨_,rfl⟩
   cases D with
   |nil=>
    rw[skipF_nil hD,if_pos rfl]at hinv
    rw[words_skip hD]at hw
    have hz0:([]:List Bs).length=0:=rfl
    ((conv=>whnf);repeat(any_goals((first|(refine IdxA.strv hrow rfl i l rfl hget ?_;intro _ _ _ _ _)|(refine(hw _).mono ?_;rintro _ H5 ⟨⟨aw,cw,rfl,how⟩,hx5⟩;have hz5:=hx5.size;have hrw:=how.row;have hcw:=how.cap_le)|(refine(hw _).mono ?_;rintro _ H5 ⟨rfl,hx5⟩;have hz5:=hx5.size)|(refine(rcomment_any _ (by omega) _).mono ?_;rintro _ _ ⟨rfl,rfl⟩;rw[hcm])|(refine IdxA.strv hrw rfl 0 (c::w) rfl rfl ?_;intro _ _ _ _ _)|(refine IdxH.nat 0 rfl (by omega) ?_;(conv=>whnf);rw[hc0])|refine Vc.stp ?_|refine Vc.spl ?_ ?_)<;>(intros;(conv=>whnf)))))
    exact⟨⟨i+1,out,ao,co,o,a,cap⟩,⟨rfl,rfl,rfl,trivial⟩,⟨by show i+1≤_;omega,hout,ho8,hinv,hp3.grow (by exact Vc.xt)⟩,by show L.length-(i+1)<L.length-i;omega⟩
   |cons c t=>
    rw[skipF_cons hD]at hinv
    have hcm:=commF_head hD
    by_cases h35:c=35
    ·subst h35
     rw[show((35:UInt8)==35)=true from rfl]at hinv hcm
     rw[if_pos rfl]at hinv
     rcases words_head hD with h0|⟨w,wt,h0⟩
     ·rw[h0]at hw
      ((conv=>whnf);repeat(any_goals((first|(refine IdxA.strv hrow rfl i l rfl hget ?_;intro _ _ _ _ _)|(refine(hw _).mono ?_;rintro _ H5 ⟨⟨aw,cw,rfl,how⟩,hx5⟩;have hz5:=hx5.size;have hrw:=how.row;have hcw:=how.cap_le)|(refine(hw _).mono ?_;rintro _ H5 ⟨rfl,hx5⟩;have hz5:=hx5.size)|(refine(rcomment_any _ (by omega) _).mono ?_;rintro _ _ ⟨rfl,rfl⟩;rw[hcm])|(refine IdxA.strv hrw rfl 0 (c::w) rfl rfl ?_;intro _ _ _ _ _)|(refine IdxH.nat 0 rfl (by omega) ?_;(conv=>whnf);rw[hc0])|refine Vc.stp ?_|refine Vc.spl ?_ ?_)<;>(intros;(conv=>whnf)))))
      exact⟨⟨i+1,out,ao,co,o,a,cap⟩,⟨rfl,rfl,rfl,trivial⟩,⟨by show i+1≤_;omega,hout,ho8,hinv,hp3.grow (by exact Vc.xt)⟩,by show L.length-(i+1)<L.length-i;omega⟩
     ·rw[h0]at hw
      have hz0:((35::w)::wt:List Bs).length=wt.length+1:=rfl
      have hc0:(mkS (35::w)).data.toList.getD 0 0=35:=rfl
      have hszD:(mkS (35::w)).size=w.length+1:=rfl
      obtain⟨c,hc⟩: ∃ c:UInt8,c=35:=⟨_,rfl⟩
      rw[←hc]at hw hz0 hc0 hszD
      have hcn:c.toNat=35:=by rw[hc];rfl
      ((conv=>whnf);repeat(any_goals((first|(refine IdxA.strv hrow rfl i l rfl hget ?_;intro _ _ _ _ _)|(refine(hw _).mono ?_;rintro _ H5 ⟨⟨aw,cw,rfl,how⟩,hx5⟩;have hz5:=hx5.size;have hrw:=how.row;have hcw:=how.cap_le)|(refine(hw _).mono ?_;rintro _ H5 ⟨rfl,hx5⟩;have hz5:=hx5.size)|(refine(rcomment_any _ (by omega) _).mono ?_;rintro _ _ ⟨rfl,rfl⟩;rw[hcm])|(refine IdxA.strv hrw rfl 0 (c::w) rfl rfl ?_;intro _ _ _ _ _)|(refine IdxH.nat 0 rfl (by omega) ?_;(conv=>whnf);rw[hc0])|refine Vc.stp ?_|refine Vc.spl ?_ ?_)<;>(intros;(conv=>whnf)))))
      exact⟨⟨i+1,out,ao,co,o,a,cap⟩,⟨rfl,rfl,rfl,trivial⟩,⟨by show i+1≤_;omega,hout,ho8,hinv,hp3.grow (by exact Vc.xt)⟩,by show L.length-(i+1)<L.length-i;omega⟩
    ·have n35:=ne_nat 35 (by decide) h35
     have e35:(c==35)=false:=by simpa using h35
     rw[e35]at hinv hcm
     rw[if_neg (by decide)]at hinv
     rcases words_head hD with h0|⟨w,wt,h0⟩
     ·rw[h0]at hw hinv
      dsimp only at hinv
      ((conv=>whnf);repeat(any_goals((first|(refine IdxA.strv hrow rfl i l rfl hget ?_;intro _ _ _ _ _)|(refine(hw _).mono ?_;rintro _ H5 ⟨⟨aw,cw,rfl,how⟩,hx5⟩;have hz5:=hx5.size;have hrw:=how.row;have hcw:=how.cap_le)|(refine(hw _).mono ?_;rintro _ H5 ⟨rfl,hx5⟩;have hz5:=hx5.size)|(refine(rcomment_any _ (by omega) _).mono ?_;rintro _ _ ⟨rfl,rfl⟩;rw[hcm])|(refine IdxA.strv hrw rfl 0 (c::w) rfl rfl ?_;intro _ _ _ _ _)|(refine IdxH.nat 0 rfl (by omega) ?_;(conv=>whnf);rw[hc0])|refine Vc.stp ?_|refine Vc.spl ?_ ?_)<;>(intros;(conv=>whnf)))))
      exact⟨by rw[hinv];rfl,hp3.ext.trans (by exact Vc.xt)⟩
     ·obtain⟨hw1,hw2⟩:=wordsF_all h0
      rw[h0]at hw hinv
      dsimp only at hinv
      have hz0:((c::w)::wt:List Bs).length=wt.length+1:=rfl
      have hc0:(mkS (c::w)).data.toList.getD 0 0=c:=rfl
      have hszD:(mkS (c::w)).size=w.length+1:=rfl
      have hrd:=fun H a cap (hr:Row H a (strs ((c::w)::wt))) (hc:((c::w)::wt).length≤cap)=>rline_any (c::w) wt a _ cap H hr rfl hc (by omega) (fun x hx=>by have:=(hw2 x hx).2;omega)
      cases hln:lineF ((c::w)::wt)with
      |none=>
       rw[hln]at hrd hinv
       dsimp only at hinv
       ((conv=>whnf);repeat(any_goals((first|(refine IdxA.strv hrow rfl i l rfl hget ?_;intro _ _ _ _ _)|(refine(hw _).mono ?_;rintro _ H5 ⟨⟨aw,cw,rfl,how⟩,hx5⟩;have hz5:=hx5.size;have hrw:=how.row;have hcw:=how.cap_le)|(refine(hw _).mono ?_;rintro _ H5 ⟨rfl,hx5⟩;have hz5:=hx5.size)|(refine(rcomment_any _ (by omega) _).mono ?_;rintro _ _ ⟨rfl,rfl⟩;rw[hcm])|(refine IdxA.strv hrw rfl 0 (c::w) rfl rfl ?_;intro _ _ _ _ _)|(refine IdxH.nat 0 rfl (by omega) ?_;(conv=>whnf);rw[hc0])|(refine(hrd _ _ _ hrw hcw).mono ?_;rintro _ H6 ⟨⟨k6,a6,b6,t6,n6,q6,rfl⟩,hx6⟩;have hz6:=hx6.size)|refine Vc.stp ?_|refine Vc.spl ?_ ?_)<;>(intros;(conv=>whnf)))))
       exact⟨by rw[hinv];rfl,hp3.ext.trans (by exact Vc.xt)⟩
      |some x=>
       rw[hln]at hrd hinv
       dsimp only at hinv
       by_cases h200:out.length=200
       ·rw[if_pos h200]at hinv
        ((conv=>whnf);repeat(any_goals((first|(refine IdxA.strv hrow rfl i l rfl hget ?_;intro _ _ _ _ _)|(refine(hw _).mono ?_;rintro _ H5 ⟨⟨aw,cw,rfl,how⟩,hx5⟩;have hz5:=hx5.size;have hrw:=how.row;have hcw:=how.cap_le)|(refine(hw _).mono ?_;rintro _ H5 ⟨rfl,hx5⟩;have hz5:=hx5.size)|(refine(rcomment_any _ (by omega) _).mono ?_;rintro _ _ ⟨rfl,rfl⟩;rw[hcm])|(refine IdxA.strv hrw rfl 0 (c::w) rfl rfl ?_;intro _ _ _ _ _)|(refine IdxH.nat 0 rfl (by omega) ?_;(conv=>whnf);rw[hc0])|(refine(hrd _ _ _ hrw hcw).mono ?_;rintro _ H6 ⟨rfl,hx6⟩;have hz6:=hx6.size)|refine Vc.stp ?_|refine Vc.spl ?_ ?_)<;>(intros;(conv=>whnf)))))
        exact⟨by rw[hinv];rfl,hp3.ext.trans (by exact Vc.xt)⟩
       ·rw[if_neg h200]at hinv
        have hnone:takeF o x.k=none→R=(none,i+1):=fun h=>by rw[hinv,h]
        have hsome: ∀ o9,takeF o x.k=some o9→R=parseL (L.drop (i+1)) (i+1) (out++[x]) o9:=fun o9 h=>by rw[hinv,h]
        have hna: ∀ b,H3.size≤b→ ¬ ∃ p,a=some p∧p.block=b:=fun b hb ⟨p,hp,e⟩=>by have:=(hp3.op.block p hp).2;omega
        have app: ∀ {H9 HA:Heap} {g:Nat} {ty:TypeId} {cb:Array Bool} {K:Value→Heap→Prop} {a9:Option Addr} {c9:Nat} {o9:List Nat},RInv H H9 al cl L out ao co o9 a9 c9→Ext H9 HA→Blk HA g (lnC x) 43→(∀ a8 c8 HB,RInv H HB al cl L (out++[x]) a8 c8 o9 a9 c9→K (.slice a8 (out.length+1) c8) HB)→NextH Tryz.prog (builtin .append #[24,24] ty cb #[.slice ao out.length co,.slice (some ⟨g,0,none⟩) 1 1]) HA K:=by
         intro H9 HA g ty cb K a9 c9 o9 hr9 hx9 hbA hk
         have hpA:=hr9.grow hx9
         refine NextH.append (i:=Tryz.t43) (z:= .agg (lineC 0 [] [] [] 0 false)) (base:=H.size) rfl ⟨_,rfl,fun _ h=>by cases h⟩ rfl rfl rfl hpA.own (Src.row (c:=1) (Blk.row (c:=(lnC x).toList) hbA) rfl (by simp[lnC,lineC,plainV])) (by unfold maxLen;omega) (by show(out.length+1)*72≤_;omega) hpA.ext.size ?_
         intro a8 c8 HB hoB hwB hnB
         exact hk a8 c8 HB (hpA.push hoB hwB hnB)
        have app2: ∀ {HA:Heap} {g v:Nat} {ty:TypeId} {cb:Array Bool} {K:Value→Heap→Prop} {o9:List Nat},opV o9=opV o++[.int .i64 (v:Int)]→o9.length=o.length+1→RInv H HA al cl L out ao co o a cap→Blk HA g #[.int .i64 (v:Int)] 3→(∀ a9 c9 HB,RInv H HB al cl L out ao co o9 a9 c9→Wr a HA HB→K (.slice a9 (o.length+1) c9) HB)→NextH Tryz.prog (builtin .append #[125,125] ty cb #[.slice a o.length cap,.slice (some ⟨g,0,none⟩) 1 1]) HA K:=by
         intro HA g v ty cb K o9 e1 e2 hpA hbA hk
         refine NextH.append (i:=Tryz.t3) (z:= .int .i64 0) (base:=H.size) rfl ⟨_,rfl,fun _ h=>by cases h⟩ rfl rfl rfl hpA.op (Src.row (c:=1) (Blk.row (c:=[.int .i64 (v:Int)]) hbA) rfl (by simp[plainV])) (by unfold maxLen;omega) (by show(o.length+1)*8≤_;omega) hpA.ext.size ?_
         intro a8 c8 HB hoB hwB hnB
         exact hk a8 c8 HB (hpA.open (by rw[e1,e2];exact hoB) hwB hnB) hwB
        ((conv=>whnf);repeat(any_goals((first|(refine IdxA.strv hrow rfl i l rfl hget ?_;intro _ _ _ _ _)|(refine(hw _).mono ?_;rintro _ H5 ⟨⟨aw,cw,rfl,how⟩,hx5⟩;have hz5:=hx5.size;have hrw:=how.row;have hcw:=how.cap_le)|(refine(hw _).mono ?_;rintro _ H5 ⟨rfl,hx5⟩;have hz5:=hx5.size)|(refine(rcomment_any _ (by omega) _).mono ?_;rintro _ _ ⟨rfl,rfl⟩;rw[hcm])|(refine IdxA.strv hrw rfl 0 (c::w) rfl rfl ?_;intro _ _ _ _ _)|(refine IdxH.nat 0 rfl (by omega) ?_;(conv=>whnf);rw[hc0])|(refine(hrd _ _ _ hrw hcw).mono ?_;rintro _ H6 ⟨rfl,hx6⟩;have hz6:=hx6.size)|refine Vc.stp ?_)<;>(intros;(conv=>whnf)))))
        rename_i H7 hs7 hb7 hx7 H8 hs8 hb8 hx8
        have hx38:Ext H3 H8:=by exact Vc.xt
        have hp8:=hp3.grow hx38
        have hz8:=hx38.size
        by_cases h78:x.k=7∨x.k=8
        ·by_cases h8:o.length=8
         ·have htk:takeF o x.k=none:=by unfold takeF;rw[if_pos h78,if_pos h8]
          rcases h78 with hk|hk
          ·((conv=>whnf);repeat(any_goals((first|refine Vc.stp ?_)<;>(intros;(conv=>whnf)))))
           exact⟨by rw[hnone htk];rfl,hp8.ext⟩
          ·((conv=>whnf);repeat(any_goals((first|refine Vc.stp ?_)<;>(intros;(conv=>whnf)))))
           exact⟨by rw[hnone htk];rfl,hp8.ext⟩
         ·rcases h78 with hk|hk
          ·skip
           ((conv=>whnf);repeat(any_goals((first|refine Vc.stp ?_)<;>(intros;(conv=>whnf)))))
           rename_i HC hsC hbC hxC
           have htk:takeF o x.k=some (o++[7]):=by unfold takeF;rw[if_pos (by omega),if_neg h8,hk]
           refine app2 (v:=0) (o9:=o++[7]) (by rw[opV_append];rfl) (by simp) (hp8.grow hxC) hbC ?_
           intro a9 c9 HD hrD hwD
           have hbD:=(hb8.ext hxC).keep hwD (hna _ (by omega))
           have hzD:=hrD.ext.size
           ((conv=>whnf);repeat(any_goals((first|refine Vc.stp ?_)<;>(intros;(conv=>whnf)))))
           rename_i HE hsE hbE hxE
           refine app hrD hxE hbE ?_
           intro a8 c8 HB hrB
           ((conv=>whnf);repeat(any_goals((first|refine Vc.stp ?_)<;>(intros;(conv=>whnf)))))
           exact⟨⟨i+1,out++[x],a8,c8,o++[7],a9,c9⟩,⟨rfl,by show Value.slice a8 (out.length+1) c8=Value.slice a8 (out++[x]).length c8;rw[List.length_append];rfl,by show Value.slice a9 (o.length+1) c9=Value.slice a9 (o++[7]).length c9;rw[List.length_append];rfl,trivial⟩,⟨by show i+1≤_;omega,by show(out++[x]).length≤200;rw[List.length_append];show out.length+1≤200;omega,takeF_len htk ho8,hsome _ htk,hrB⟩,by show L.length-(i+1)<L.length-i;omega⟩
          ·skip
           ((conv=>whnf);repeat(any_goals((first|refine Vc.stp ?_)<;>(intros;(conv=>whnf)))))
           rename_i HC hsC hbC hxC
           have htk:takeF o x.k=some (o++[8]):=by unfold takeF;rw[if_pos (by omega),if_neg h8,hk]
           refine app2 (v:=2) (o9:=o++[8]) (by rw[opV_append];rfl) (by simp) (hp8.grow hxC) hbC ?_
           intro a9 c9 HD hrD hwD
           have hbD:=(hb8.ext hxC).keep hwD (hna _ (by omega))
           have hzD:=hrD.ext.size
           ((conv=>whnf);repeat(any_goals((first|refine Vc.stp ?_)<;>(intros;(conv=>whnf)))))
           rename_i HE hsE hbE hxE
           refine app hrD hxE hbE ?_
           intro a8 c8 HB hrB
           ((conv=>whnf);repeat(any_goals((first|refine Vc.stp ?_)<;>(intros;(conv=>whnf)))))
           exact⟨⟨i+1,out++[x],a8,c8,o++[8],a9,c9⟩,⟨rfl,by show Value.slice a8 (out.length+1) c8=Value.slice a8 (out++[x]).length c8;rw[List.length_append];rfl,by show Value.slice a9 (o.length+1) c9=Value.slice a9 (o++[8]).length c9;rw[List.length_append];rfl,trivial⟩,⟨by show i+1≤_;omega,by show(out++[x]).length≤200;rw[List.length_append];show out.length+1≤200;omega,takeF_len htk ho8,hsome _ htk,hrB⟩,by show L.length-(i+1)<L.length-i;omega⟩
        ·have k7:x.k≠7:=fun e=>h78 (.inl e)
         have k8:x.k≠8:=fun e=>h78 (.inr e)
         by_cases k9:x.k=9
         ·have ht:takeF o x.k=if o.getLast? =some 7 then some (o.dropLast++[9])else none:=by unfold takeF;rw[if_neg h78,if_pos k9]
          rcases List.eq_nil_or_concat o with h0|⟨q,m,h0⟩
          ·subst h0
           have hz:([]:List Nat).length=0:=rfl
           ((conv=>whnf);repeat(any_goals((first|refine Vc.stp ?_)<;>(intros;(conv=>whnf)))))
           exact⟨by rw[hnone (by rw[ht];rfl)];rfl,hp8.ext⟩
          ·rw[List.concat_eq_append]at h0
           subst h0
           have hqn:(q++[m]).length=q.length+1:=by simp
           rw[List.getLast?_concat,List.dropLast_concat]at ht
           obtain⟨gb,ha⟩: ∃ gb,a=some ⟨gb,0,none⟩:=by
            rcases hp3.op.out with ⟨_,h0,_⟩|⟨gb,cur,ha,_⟩
            ·omega
            ·exact⟨gb,ha⟩
           subst ha
           have hop8:=hp8.op
           have hcl:=Own.hcell hop8 (i:=q.length) (v:= .int .i64 (opc m:Int)) (by rw[opV_append,List.getElem?_append_right (by rw[opV_length];omega),opV_length];simp[opV,natV])
           by_cases hm:m=7
           ·have hc0:opc m=0:=by rw[hm];rfl
            rw[if_pos (by rw[hm])]at ht
            ((conv=>whnf);repeat(any_goals((first|(refine IdxA.at1 q.length (by omega) (by omega) ?_)|refine Vc.stp ?_)<;>(intros;(conv=>whnf)))))
            refine DoH.store_own (o:=0+q.length) hop8 rfl rfl rfl (by omega) ?_
            intro HD hsD hoD hwD
            have e9:(opV (q++[m])).set (0+q.length) (.int .i64 1)=opV (q++[9]):=by rw[Nat.zero_add,opV_append,opV_append,List.set_append_right _ _ (by rw[opV_length];exact Nat.le_refl _),opV_length,Nat.sub_self];rfl
            have hln9:(q++[9]).length=(q++[m]).length:=by simp
            have hrD:RInv H HD al cl L out ao co (q++[9]) (some ⟨gb,0,none⟩) cap:=hp8.open (by rw[hln9,←e9];exact hoD) (Wr.of_but hwD) fun p hp=> .inl rfl
            have hbD:=hb8.but hwD fun e=>hna H6.size (by omega) ⟨_,rfl,e.symm⟩
            have hzD:=hrD.ext.size
            ((conv=>whnf);repeat(any_goals((first|refine Vc.stp ?_)<;>(intros;(conv=>whnf)))))
            rename_i HE hsE hbE hxE
            refine app hrD hxE hbE ?_
            intro a8 c8 HB hrB
            ((conv=>whnf);repeat(any_goals((first|refine Vc.stp ?_)<;>(intros;(conv=>whnf)))))
            exact⟨⟨i+1,out++[x],a8,c8,q++[9],some ⟨gb,0,none⟩,cap⟩,⟨rfl,by show Value.slice a8 (out.length+1) c8=Value.slice a8 (out++[x]).length c8;rw[List.length_append];rfl,by show Value.slice _ (q++[m]).length cap=Value.slice _ (q++[9]).length cap;rw[hln9],trivial⟩,⟨by show i+1≤_;omega,by show(out++[x]).length≤200;rw[List.length_append];show out.length+1≤200;omega,takeF_len ht ho8,hsome _ ht,hrB⟩,by show L.length-(i+1)<L.length-i;omega⟩
           ·have hc0:opc m=1∨opc m=2:=by unfold opc;rw[if_neg hm];split<;>simp
            rw[if_neg (by intro e;cases e;exact hm rfl)]at ht
            ((conv=>whnf);repeat(any_goals((first|(refine IdxA.at1 q.length (by omega) (by omega) ?_)|refine Vc.stp ?_)<;>(intros;(conv=>whnf)))))
            exact⟨by rw[hnone ht];rfl,hp8.ext⟩
         ·by_cases k10:x.k=10
          ·have ht:takeF o x.k=if o=[]then none else some o.dropLast:=by unfold takeF;rw[if_neg h78,if_neg k9,if_pos k10]
           by_cases h0:o=[]
           ·rw[if_pos h0]at ht
            have hz:o.length=0:=by rw[h0];rfl
            ((conv=>whnf);repeat(any_goals((first|refine Vc.stp ?_)<;>(intros;(conv=>whnf)))))
            exact⟨by rw[hnone ht];rfl,hp8.ext⟩
           ·rw[if_neg h0]at ht
            have hpos:=List.length_pos_iff.2 h0
            have hcap:=hp8.op.cap_le
            have hrD:RInv H H8 al cl L out ao co o.dropLast a cap:=by
             have hc:=hp8.op.cut (o.length-1) (by omega)
             have e:opV o.dropLast=(opV o).take ((o.length-1)*1):=by rw[Nat.mul_one,List.dropLast_eq_take];simp[opV,natV,List.map_take]
             rw[←e]at hc
             exact hp8.open (by rw[List.length_dropLast];exact hc) (Only.refl _ _) fun p hp=> .inl rfl
            ((conv=>whnf);repeat(any_goals((first|(refine BndH.nat (o.length-1) (by omega) (by omega) ?_)|refine Vc.stp ?_)<;>(intros;(conv=>whnf)))))
            rename_i HE hsE hbE hxE
            refine app hrD hxE hbE ?_
            intro a8 c8 HB hrB
            ((conv=>whnf);repeat(any_goals((first|refine Vc.stp ?_)<;>(intros;(conv=>whnf)))))
            exact⟨⟨i+1,out++[x],a8,c8,o.dropLast,a,cap⟩,⟨rfl,by show Value.slice a8 (out.length+1) c8=Value.slice a8 (out++[x]).length c8;rw[List.length_append];rfl,by show Value.slice a (o.length-1) cap=Value.slice a o.dropLast.length cap;rw[List.length_dropLast],trivial⟩,⟨by show i+1≤_;omega,by show(out++[x]).length≤200;rw[List.length_append];show out.length+1≤200;omega,takeF_len ht ho8,hsome _ ht,hrB⟩,by show L.length-(i+1)<L.length-i;omega⟩
          ·have ht:takeF o x.k=some o:=by unfold takeF;rw[if_neg h78,if_neg k9,if_neg k10]
           ((conv=>whnf);repeat(any_goals((first|refine Vc.stp ?_)<;>(intros;(conv=>whnf)))))
           rename_i HE hsE hbE hxE
           refine app hp8 hxE hbE ?_
           intro a8 c8 HB hrB
           ((conv=>whnf);repeat(any_goals((first|refine Vc.stp ?_)<;>(intros;(conv=>whnf)))))
           exact⟨⟨i+1,out++[x],a8,c8,o,a,cap⟩,⟨rfl,by show Value.slice a8 (out.length+1) c8=Value.slice a8 (out++[x]).length c8;rw[List.length_append];rfl,rfl,trivial⟩,⟨by show i+1≤_;omega,by show(out++[x]).length≤200;rw[List.length_append];show out.length+1≤200;omega,takeF_len ht ho8,hsome _ ht,hrB⟩,by show L.length-(i+1)<L.length-i;omega⟩
  ·rw[List.drop_of_length_le (by omega)]at hinv
   rw[parseL]at hinv
   cases o with
   |nil=>
    rw[if_pos rfl]at hinv
    have hz0:([]:List Nat).length=0:=rfl
    ((conv=>whnf);repeat(any_goals((first|refine Vc.stp ?_|refine Vc.spl ?_ ?_)<;>(intros;(conv=>whnf)))))
    rw[hinv]
    exact⟨⟨ao,co,rfl,hp3.own⟩,hp3.ext⟩
   |cons k o=>
    rw[if_neg (by simp)]at hinv
    have hz0:(k::o).length=o.length+1:=rfl
    ((conv=>whnf);repeat(any_goals((first|refine Vc.stp ?_|refine Vc.spl ?_ ?_)<;>(intros;(conv=>whnf)))))
    rw[hinv]
    exact⟨rfl,hp3.ext⟩
end Go.Proofs.YtphkaogbcfdllaaGreatDoor
namespace Go.Scr
theorem quotedF_len2: ∀ (n:Nat) (l:Txt),l.length≤n→ ∀ {w r:Txt},quotedF l=some (w,r)→w.length+r.length<l.length
 |_,[],_,_,_,h=>by simp[quotedF]at h
 |0,c::t,hn,_,_,_=>by simp at hn
 |n+1,c::t,hn,w,r,h=>by
  simp only[List.length_cons]at hn ⊢
  unfold quotedF at h
  split at h
  ·cases h;simp
  ·split at h
   ·split at h
    ·cases h
    ·rename_i d u
     simp only[List.length_cons]at hn ⊢
     split at h
     ·cases hq:quotedF u with
      |none=>rw[hq]at h;cases h
      |some p=>rw[hq]at h;cases h;have:=quotedF_len2 n u (by omega) (w:=p.1) (r:=p.2) hq;simp only[List.length_cons];omega
     ·split at h
      ·cases hq:quotedF u with
       |none=>rw[hq]at h;cases h
       |some p=>rw[hq]at h;cases h;have:=quotedF_len2 n u (by omega) (w:=p.1) (r:=p.2) hq;simp only[List.length_cons];omega
      ·cases h
   ·cases hq:quotedF t with
    |none=>rw[hq]at h;cases h
    |some p=>rw[hq]at h;cases h;have:=quotedF_len2 n t (by omega) (w:=p.1) (r:=p.2) hq;simp only[List.length_cons];omega
theorem takeWhile_len {p:UInt8→Bool}: ∀ l:Txt,(l.takeWhile p).length≤l.length
 |[]=>Nat.le_refl _
 |c::t=>by
  rw[List.takeWhile_cons]
  split
  ·have:=takeWhile_len (p:=p) t;simp only[List.length_cons];omega
  ·simp
theorem words_len: ∀ (n:Nat) (l:Txt) (ws:List Txt),wordsN n l=some ws→ ∀ w∈ws,w.length≤l.length
 |n,[],ws,h,w,hw=>by
  cases n<;>(simp only[wordsN,Option.some.injEq]at h;subst h;cases hw)
 |0,c::t,ws,h,w,hw=>by simp[wordsN]at h
 |n+1,c::t,ws,h,w,hw=>by
  unfold wordsN at h
  have hd:=dropWhile_len (p:=fun x=> !isB x) t
  have ht:=takeWhile_len (p:=fun x=> !isB x) t
  rw[List.length_cons]
  split at h
  ·have:=words_len n t ws h w hw;omega
  ·split at h
   ·cases hq:quotedF t with
    |none=>rw[hq]at h;cases h
    |some p=>
     obtain⟨q,r⟩:=p
     have hl:=quotedF_len2 _ t (Nat.le_refl _) hq
     rw[hq]at h
     dsimp only at h
     split at h
     ·cases h
     ·cases hr:wordsN n r with
      |none=>rw[hr]at h;cases h
      |some l=>
       rw[hr]at h
       cases h
       rcases List.mem_cons.1 hw with rfl|hw
       ·rw[List.length_cons];omega
       ·have:=words_len n r l hr w hw;omega
   ·cases hr:wordsN n (t.dropWhile fun x=> !isB x)with
    |none=>rw[hr]at h;cases h
    |some l=>
     rw[hr]at h
     cases h
     rcases List.mem_cons.1 hw with rfl|hw
     ·rw[List.length_cons];omega
     ·have:=words_len n _ l hr w hw;omega
structure LnB (N:Nat) (x:Ln):Prop where
 a:x.a.length≤N
 b:x.b.length≤N
 tx:x.tx.length≤N
 n:x.n≤1000
theorem two_len {N k:Nat} {ws:List Txt} {x:Ln} (hw: ∀ w∈ws,w.length≤N) (h:twoF k ws=some x):LnB N x:=by
 unfold twoF at h
 split at h
 ·split at h
  ·cases h
   exact⟨hw _ (by simp),hw _ (by simp),Nat.zero_le _,Nat.zero_le _⟩
  ·cases h
 ·cases h
theorem text_len {N k:Nat} {ws:List Txt} {x:Ln} (hw: ∀ w∈ws,w.length≤N) (h:textF k ws=some x):LnB N x:=by
 unfold textF at h
 split at h
 ·rename_i a b
  split at h
  ·cases h
   have hb:=hw b (by simp)
   exact⟨hw _ (by simp),Nat.zero_le _,by show b.tail.length≤N;rw[List.length_tail];omega,Nat.zero_le _⟩
  ·cases h
 ·cases h
theorem one_len {N k:Nat} {ws:List Txt} {x:Ln} (hw: ∀ w∈ws,w.length≤N) (h:oneF k ws=some x):LnB N x:=by
 unfold oneF at h
 split at h
 ·split at h
  ·cases h
   exact⟨hw _ (by simp),Nat.zero_le _,Nat.zero_le _,Nat.zero_le _⟩
  ·cases h
 ·cases h
theorem asked_len {N:Nat} {ws:List Txt} {x:Ln} (hw: ∀ w∈ws,w.length≤N) (h:askedF ws=some x):LnB N x:=by
 unfold askedF at h
 split at h
 ·split at h
  ·cases h
   exact⟨hw _ (by simp),Nat.zero_le _,Nat.zero_le _,Nat.zero_le _⟩
  ·cases h
 ·split at h
  ·cases h
   exact⟨hw _ (by simp),Nat.zero_le _,Nat.zero_le _,Nat.zero_le _⟩
  ·cases h
 ·cases h
theorem repeat_len {N:Nat} {ws:List Txt} {x:Ln} (h:repeatF ws=some x):LnB N x:=by
 unfold repeatF at h
 split at h
 ·rename_i w
  cases hn:numberF w with
  |none=>rw[hn]at h;cases h
  |some n=>
   rw[hn]at h
   cases h
   refine⟨Nat.zero_le _,Nat.zero_le _,Nat.zero_le _,?_⟩
   show n≤1000
   unfold numberF at hn
   split at hn
   ·cases hn
   ·split at hn
    ·cases hn
    ·split at hn
     ·cases hn;assumption
     ·cases hn
 ·cases h
theorem bare_len {N k:Nat} {ws:List Txt} {x:Ln} (h:bareF k ws=some x):LnB N x:=by
 unfold bareF at h
 split at h
 ·cases h
  exact⟨Nat.zero_le _,Nat.zero_le _,Nat.zero_le _,Nat.zero_le _⟩
 ·cases h
theorem fail_len {N:Nat} {ws:List Txt} {x:Ln} (hw: ∀ w∈ws,w.length≤N) (h:failF ws=some x):LnB N x:=by
 unfold failF at h
 split at h
 ·rename_i b
  split at h
  ·cases h
   have hb:=hw b (by simp)
   exact⟨Nat.zero_le _,Nat.zero_le _,by show b.tail.length≤N;rw[List.length_tail];omega,Nat.zero_le _⟩
  ·cases h
 ·cases h
theorem line_len {N:Nat} {ws:List Txt} {x:Ln} (hw: ∀ w∈ws,w.length≤N) (h:lineF ws=some x):LnB N x:=by
 unfold lineF at h
 split at h
 ·cases h
 ·rename_i w ws
  have hws: ∀ w∈ws,w.length≤N:=fun v hv=>hw v (List.mem_cons_of_mem _ hv)
  split at h<;>first|exact two_len hws h|exact text_len hws h|exact one_len hws h|exact asked_len hws h|exact repeat_len h|exact bare_len h|exact fail_len hws h|cases h
theorem split_len (c:UInt8): ∀ (s:Txt),∀ l∈splitF c s,l.length≤s.length
 |[],l,h=>by simp[splitF]at h;subst h;simp
 |x::t,l,h=>by
  have ih:=split_len c t
  unfold splitF at h
  rw[List.length_cons]
  split at h
  ·rcases List.mem_cons.1 h with rfl|h
   ·simp
   ·have:=ih l h;omega
  ·split at h
   ·rw[List.mem_singleton]at h;subst h;simp
   ·rename_i w ls he
    rw[he]at ih
    rcases List.mem_cons.1 h with rfl|h
    ·have:=ih w (by simp);rw[List.length_cons];omega
    ·have:=ih l (List.mem_cons_of_mem _ h);omega
theorem lines_len (s:Txt): ∀ l∈linesF s,l.length≤s.length:=fun l h=>by
 unfold linesF at h
 dsimp only at h
 split at h
 ·exact split_len 10 s l (List.dropLast_subset _ h)
 ·exact split_len 10 s l h
theorem parseL_len {N:Nat}: ∀ (ls:List Txt) (i:Nat) (out:List Ln) (o:List Nat) (l:List Ln),(∀ w∈ls,w.length≤N)→(∀ x∈out,LnB N x)→out.length≤200→(parseL ls i out o).1=some l→(∀ x∈l,LnB N x)∧l.length≤200
 |[],i,out,o,l,_,hn,h200,h=>by
  rw[parseL]at h
  split at h
  ·cases h;exact⟨hn,h200⟩
  ·cases h
 |x::ls,i,out,o,l,hw,hn,h200,h=>by
  have hls: ∀ w∈ls,w.length≤N:=fun v hv=>hw v (List.mem_cons_of_mem _ hv)
  rw[parseL]at h
  split at h
  ·exact parseL_len ls _ _ _ _ hls hn h200 h
  ·split at h
   ·cases h
   ·rename_i ws hws
    split at h
    ·cases h
    ·rename_i y hy
     split at h
     ·cases h
     ·split at h
      ·cases h
      ·rename_i o' ho
       refine parseL_len ls _ _ _ _ hls ?_ (by rw[List.length_append];simp;omega) h
       intro z hz
       rcases List.mem_append.1 hz with hz|hz
       ·exact hn z hz
       ·rw[List.mem_singleton.1 hz]
        exact line_len (fun w hw'=>Nat.le_trans (words_len _ _ _ hws w hw') (hw x (by simp))) hy
theorem parse_len {s:Txt} {l:List Ln} {i:Nat} (h:parseF s=(some l,i)):(∀ x∈l,LnB s.length x)∧l.length≤200:=by
 unfold parseF at h
 split at h
 ·cases h
 ·exact parseL_len (linesF s) 0 [] [] l (lines_len s) (fun x hx=>by cases hx) (by simp) (by rw[h])
end Go.Scr
