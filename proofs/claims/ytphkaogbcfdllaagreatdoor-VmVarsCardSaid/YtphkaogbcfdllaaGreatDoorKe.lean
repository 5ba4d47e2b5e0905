import Derived.Test.YtphkaogbcfdllaaGreatDoorKc
import Derived.Test.YtphkaogbcfdllaaGreatDoorKb
import Derived.Shelf.Sort.Plain
import Derived.Test.YtphkaogbcfdllaaGreatDoorProg
set_option linter.unusedVariables false
set_option linter.unusedSimpArgs false
set_option maxRecDepth 100000
/- Trees of files, the code: what stands at a path and above it; room. -/
namespace Go.Proofs.YtphkaogbcfdllaaGreatDoor
open Go Go.Vc Go.Scr Go.Pth Go.Tre
variable {Z:Nat→Prop}
theorem NodeO.dir {H:Heap} {g:Nat} (h:Blk H g #[.bool true,.slice none 0 0] 148):NodeO Z H (.pointer (some ⟨g,0,none⟩)) (true,[]):= .mk1 h (Row.nil _ _) fun e=>absurd rfl e
theorem eq_empty (p:Bs):((mkS p).toList==(⟨#[]⟩:ByteArray).toList)=decide (p=[]):=by rw[show(⟨#[]⟩:ByteArray)=mkS []from rfl,str_beq];simp[mkS_inj]
theorem newZ_any {H:Heap} (hZ: ∀ x,Z x→x<H.size):CallH Tryz.prog 17 [] H fun v H'=>(∃ b mb,v= .pointer (some ⟨b,0,none⟩)∧TreeO Z H' b mb []∧H.size≤b∧H.size≤mb)∧Ext H H':=by
 refine Vc.CallH.body Tryz.func17 Tryz.call17 rfl (by decide+kernel) rfl ?_
 ((conv=>whnf);repeat(any_goals((first|((with_reducible apply SemH.makeMap0);(focus((intro H1 z1 m1 x1;(conv=>whnf)))))|(refine PureH.build #[.map (some H.size),.int .i64 0] (by kernel_rfl) ?_)|refine Vc.stp ?_|refine Vc.spl ?_ ?_)<;>(intros;(conv=>whnf)))))
 rename_i H2 z2 b2 x2
 exact⟨⟨H1.size,H.size,rfl,⟨⟨[],m1.ext x2,fun _ _=>rfl,fun k n h=>by simp[mget]at h⟩,b2,fun x hx=>by have:=hZ x hx;omega⟩,by omega,Nat.le_refl _⟩,x1.trans x2⟩
theorem new_any (H:Heap):CallH Tryz.prog 17 [] H fun v H'=>(∃ b mb,v= .pointer (some ⟨b,0,none⟩)∧TreeO no H' b mb []∧H.size≤b∧H.size≤mb)∧Ext H H':=newZ_any fun _ h=>h.elim
theorem at_any {b mb:Nat} {A:Tr} {H:Heap} (h:TreeO Z H b mb A) (p:Bs):CallH Tryz.prog 65 [.pointer (some ⟨b,0,none⟩),.string (mkS p)] H fun v H'=>AtV Z H' v (nodeAt A p)∧Ext H H':=by
 have hb:=h.blk
 have hm:=h.map
 have e0:=eq_empty p
 refine Vc.CallH.body Tryz.func65 Tryz.call65 rfl (by decide+kernel) rfl ?_
 unfold nodeAt
 by_cases hp:p=[]
 ·rw[decide_eq_true hp]at e0
  rw[if_pos hp]
  ((conv=>whnf);repeat(any_goals((first|(refine PureH.build #[.bool true,.slice none 0 0] (by kernel_rfl) ?_)|refine Vc.stp ?_|refine Vc.spl ?_ ?_)<;>(intros;(conv=>whnf)))))
  rename_i H1 z1 b1 x1
  exact⟨NodeO.dir b1,x1⟩
 ·rw[decide_eq_false hp]at e0
  rw[if_neg hp]
  cases hA:mget A p with
  |none=>
   ((conv=>whnf);repeat(any_goals((first|((with_reducible apply treeGet0 hm hA);(focus(rfl));(focus(rfl));(focus(rfl));(focus(rfl));(focus((conv=>whnf))))|refine Vc.stp ?_|refine Vc.spl ?_ ?_)<;>(intros;(conv=>whnf)))))
   exact⟨rfl,Ext.refl _⟩
  |some n=>
   ((conv=>whnf);repeat(any_goals((first|((with_reducible apply treeGetN hm hA);(focus(rfl));(focus(rfl));(focus(rfl));(focus(rfl));(focus((intro v hv;(conv=>whnf)))))|refine Vc.stp ?_|refine Vc.spl ?_ ?_)<;>(intros;(conv=>whnf)))))
   exact⟨hv,Ext.refl _⟩
theorem room_any {b mb:Nat} {A:Tr} {H:Heap} (h:TreeO Z H b mb A) (hA:Sorted A) (hl:A.length≤100000) (hs:sizeT A≤100000000) (m:Nat) (k:Int) (hm:m≤100000) (hk: -100000000≤k∧k≤10000000000):
  CallH Tryz.prog 122 [.pointer (some ⟨b,0,none⟩),.int .i64 m,.int .i64 k] H fun v H'=>v= .bool (decide (m+A.length≤500∧k+sizeT A≤1048576))∧H=H':=by
 have hb:=h.blk
 have hmm:=h.map
 refine Vc.CallH.body Tryz.func122 Tryz.call122 rfl (by decide+kernel) rfl ?_
 by_cases h1:m+A.length≤500
 ·by_cases h2:k+sizeT A≤1048576
  ·rw[decide_eq_true ⟨h1,h2⟩]
   ((conv=>whnf);repeat(any_goals((first|((with_reducible apply treeLen hmm hA);(focus(rfl));(focus(rfl));(focus((conv=>whnf))))|refine Vc.stp ?_|refine Vc.spl ?_ ?_)<;>(intros;(conv=>whnf)))))
   exact⟨by(show Value.bool (decide _)=_);rw[decide_eq_true (by omega)],rfl⟩
  ·rw[decide_eq_false (fun e=>h2 e.2)]
   ((conv=>whnf);repeat(any_goals((first|((with_reducible apply treeLen hmm hA);(focus(rfl));(focus(rfl));(focus((conv=>whnf))))|refine Vc.stp ?_|refine Vc.spl ?_ ?_)<;>(intros;(conv=>whnf)))))
   exact⟨by(show Value.bool (decide _)=_);rw[decide_eq_false (by omega)],rfl⟩
 ·rw[decide_eq_false (fun e=>h1 e.1)]
  ((conv=>whnf);repeat(any_goals((first|((with_reducible apply treeLen hmm hA);(focus(rfl));(focus(rfl));(focus((conv=>whnf))))|refine Vc.stp ?_|refine Vc.spl ?_ ?_)<;>(intros;(conv=>whnf)))))
  exact⟨rfl,rfl⟩
def AheadV (H':Heap) (base:Nat) (v:Value) (A:Tr) (p:Txt):Prop:=
 if fileF A p=true then v= .tuple #[.slice none 0 0,.int .i64 54]
 else ∃ a cap,v= .tuple #[.slice a (lackF A p).length cap,.int .i64 0]∧Own H' base 9 1 a (lackF A p).length cap (strs (lackF A p).reverse)
structure AhS where
 m:Nat
 out:List Bs
 a:Option Addr
 cap:Nat
theorem ahead_any {b mb:Nat} {A:Tr} {H:Heap} (h:TreeO Z H b mb A) {p:Bs} (hp:CleanP p):CallH Tryz.prog 66 [.pointer (some ⟨b,0,none⟩),.string (mkS p)] H fun v H'=>AheadV H' H.size v A p∧Ext H H':=by
 obtain⟨l,rfl,hl⟩:=hp
 have hlong:=hl.long
 have hdeep:=hl.deep
 have hpar: ∀ m H,m≤l.length→CallH Tryz.prog 120 [.string (mkS (glue (l.take m)))] H fun v H'=>v= .string (mkS (glue (l.take (m-1))))∧H=H':=fun m H hm=>by
  have:=parent_any (glue (l.take m)) (by have:=(hl.take m).long;omega) H
  rw[parent_glue (hl.take m).good,List.dropLast_eq_take,List.take_take,List.length_take]at this
  rwa[show min (min m l.length-1) m=m-1 by omega]at this
 have hpar0:=fun H=>hpar l.length H (Nat.le_refl _)
 rw[List.take_length]at hpar0
 obtain⟨ps,hps⟩: ∃ ps,pars (glue l)=ps:=⟨_,rfl⟩
 have hpl:ps.length=l.length-1:=by rw[←hps,pars_len,parts_glue hl.good]
 have hpg: ∀ m,m<l.length-1→ps[m]? =some (glue (l.take (m+1))):=fun m hm=>by rw[←hps,pars_get _ (by rw[parts_glue hl.good];exact hm),parts_glue hl.good]
 refine Vc.CallH.body Tryz.func66 Tryz.call66 rfl (by decide+kernel) rfl ?_
 have hd0:ps.drop (l.length-1)=[]:=List.drop_of_length_le (by omega)
 ((conv=>whnf);repeat(any_goals((first|(refine(hpar0 _).mono ?_;rintro _ _ ⟨rfl,rfl⟩)|refine Vc.stp ?_|refine Vc.spl ?_ ?_)<;>(intros;(conv=>whnf)))))
 refine LoopH.intro (fun(x:AhS)=>[(7,.string (mkS (glue (l.take x.m)))),(6,.slice x.a x.out.length x.cap)])
  (fun x H'=>x.m≤l.length-1∧x.out=((ps.drop x.m).filter fun d=>(mget A d).isNone).reverse∧(∀ d∈ps.drop x.m,∀ n,mget A d=some n→n.1=true)∧Own H' H.size 9 1 x.a x.out.length x.cap (strs x.out)∧Ext H H') (fun x=>x.m) ⟨l.length-1,[],none,0⟩ ⟨rfl,rfl,trivial⟩
  ⟨Nat.le_refl _,by(show []=((ps.drop (l.length-1)).filter _).reverse;rw[hd0];rfl),by(show ∀ d∈ps.drop (l.length-1),_;rw[hd0];intro d hd;cases hd),Own.nil _ _ _ _,Ext.refl _⟩ ?_
 rintro⟨m,out,a,cap⟩ H2 ⟨hm,hout,hdir,ho2,hx2⟩
 dsimp only at hm hout hdir ho2 ⊢
 have hb:=h.blk.ext hx2
 have hmm:=h.map.ext hx2
 have hz2:=hx2.size
 have e0:=eq_empty (glue (l.take m))
 have hol:out.length≤12:=by
  rw[hout,List.length_reverse]
  refine Nat.le_trans (List.length_filter_le _ _) ?_
  rw[List.length_drop];omega
 have hpm:=fun H=>hpar m H (by omega)
 by_cases hm0:m=0
 ·subst hm0
  have hff:fileF A (glue l)=false:=by
   unfold fileF
   rw[List.any_eq_false,hps]
   intro d hd
   have:=hdir d (by simpa using hd)
   cases hg:mget A d with
   |none=>simp
   |some n=>simp[this n hg]
  have hlk:out=(lackF A (glue l)).reverse:=by rw[hout];unfold lackF;rw[hps];rfl
  have hll:out.length=(lackF A (glue l)).length:=by rw[hlk,List.length_reverse]
  rw[decide_eq_true (show glue (l.take 0)=[]from rfl)]at e0
  ((conv=>whnf);repeat(any_goals((first|refine Vc.stp ?_|refine Vc.spl ?_ ?_)<;>(intros;(conv=>whnf)))))
  refine⟨?_,hx2⟩
  unfold AheadV
  rw[hff,if_neg (by simp)]
  rw[←hlk,←hll]
  exact⟨a,cap,rfl,ho2⟩
 ·have hne:glue (l.take m)≠ []:=glue_nil (hl.take m).good (fun e=>by have:=congrArg List.length e;rw[List.length_take,List.length_nil]at this;omega)
  rw[decide_eq_false hne]at e0
  have hget:=hpg (m-1) (by omega)
  rw[show m-1+1=m by omega]at hget
  have hdm:ps.drop (m-1)=glue (l.take m)::ps.drop m:=by
   have hlt:m-1<ps.length:=by omega
   rw[List.drop_eq_getElem_cons hlt,show m-1+1=m by omega]
   rw[List.getElem?_eq_getElem hlt]at hget
   rw[Option.some.inj hget]
  cases hg:mget A (glue (l.take m))with
  |none=>
   ((conv=>whnf);repeat(any_goals((first|((with_reducible apply treeGet0 hmm hg);(focus(rfl));(focus(rfl));(focus(rfl));(focus(rfl));(focus((conv=>whnf))))|(refine(hpm _).mono ?_;rintro _ _ ⟨rfl,rfl⟩)|refine Vc.stp ?_|refine Vc.spl ?_ ?_)<;>(intros;(conv=>whnf)))))
   rename_i H5 hs5 hb5 hx5 a6 c6 H6 ho6 hx6
   refine⟨⟨m-1,out++[glue (l.take m)],a6,c6⟩,⟨rfl,sl_snocS _ _ _ _,trivial⟩,⟨by show m-1≤_;omega,?_,?_,own_snocS rfl ho6,hx6⟩,by show m-1<m;omega⟩
   ·show out++_=_
    rw[hdm,List.filter_cons,if_pos (by rw[hg];rfl),List.reverse_cons,hout]
   ·show ∀ d∈ps.drop (m-1),_
    rw[hdm]
    intro d hd n hn
    rcases List.mem_cons.1 hd with rfl|hd
    ·rw[hg]at hn;cases hn
    ·exact hdir d hd n hn
  |some n=>
   obtain⟨dir,t⟩:=n
   cases dir with
   |true=>
    ((conv=>whnf);repeat(any_goals((first|((with_reducible apply treeGet1 hmm hg);(focus(rfl));(focus(rfl));(focus(rfl));(focus(rfl));(focus((intro g1 a1 c1 k1 k2;(conv=>whnf)))))|(refine(hpm _).mono ?_;rintro _ _ ⟨rfl,rfl⟩)|refine Vc.stp ?_|refine Vc.spl ?_ ?_)<;>(intros;(conv=>whnf)))))
    refine⟨⟨m-1,out,a,cap⟩,⟨rfl,rfl,trivial⟩,⟨by show m-1≤_;omega,?_,?_,ho2,hx2⟩,by show m-1<m;omega⟩
    ·show out=_
     rw[hdm,List.filter_cons,if_neg (by rw[hg];simp),hout]
    ·show ∀ d∈ps.drop (m-1),_
     rw[hdm]
     intro d hd n hn
     rcases List.mem_cons.1 hd with rfl|hd
     ·rw[hg]at hn;cases hn;rfl
     ·exact hdir d hd n hn
   |false=>
    ((conv=>whnf);repeat(any_goals((first|((with_reducible apply treeGet1 hmm hg);(focus(rfl));(focus(rfl));(focus(rfl));(focus(rfl));(focus((intro g1 a1 c1 k1 k2;(conv=>whnf)))))|(refine(hpm _).mono ?_;rintro _ _ ⟨rfl,rfl⟩)|refine Vc.stp ?_|refine Vc.spl ?_ ?_)<;>(intros;(conv=>whnf)))))
    have hff:fileF A (glue l)=true:=by
     unfold fileF
     rw[List.any_eq_true,hps]
     exact⟨_,List.mem_of_getElem? hget,by rw[hg];rfl⟩
    refine⟨?_,hx2⟩
    unfold AheadV
    rw[if_pos hff];rfl
end Go.Proofs.YtphkaogbcfdllaaGreatDoor
namespace Go.Vc
theorem NextH.capS {P:Program} {H:Heap} {t e:TypeId} {ty:TypeId} {cb:Array Bool} {a:Option Addr} {n cap:Nat} {K:Value→Heap→Prop} (ht:P.underlying t=some (.slice e)) (h:K (.int .i64 cap) H):NextH P (builtin .cap #[t] ty cb #[.slice a n cap]) H K:=by
 refine⟨fun w hw=> ?_⟩
 have hr:(builtin .cap #[t] ty cb #[.slice a n cap]).run P w= .ok (.value (.int .i64 cap)) w:=by simp[builtin,Builtin.cap_,Sem.run_bind,underlying_of ht,goInt]
 rw[hr]
 exact⟨Same.refl w,by rw[hw];exact h⟩
theorem NextH.appendZ {P:Program} {H:Heap} {t u e ty:TypeId} {k:IntKind} {i:TypeInfo} {z:Value} {m:Nat} {cb:Array Bool} {K:Value→Heap→Prop}
  (ht:P.underlying t=some (.slice e)) (hu:P.underlying u=some (.int k)) (hi:P.info? e=some i) (hz:i.zero=some z) (hzs:z.cells.size=i.size) (h0:0<m)
  (h63:m≤maxLen) (hbytes:m*i.bytes≤140737488355328) (hs1:0<i.size)
  (hk: ∀ cap' H',Own H' H.size e i.size (some ⟨H.size,0,none⟩) 0 cap' []→Ext H H'→m≤cap'→K (.slice (some ⟨H.size,0,none⟩) m cap') H'):
  NextH P (builtin .append #[t,u] ty cb #[.slice none 0 0,.int .i64 m]) H K:=by
 refine⟨fun w hw=> ?_⟩
 have hsmall:m≤9223372036854775807:=by have:=h63;simp only[maxLen]at this;omega
 have goal: ∀ {v w'},(Builtin.append_ #[t,u] ty #[.slice none 0 0,.int .i64 m]).run P w= .ok v w'→Same w w'→K v w'.heap→Nexts P w K ((builtin .append #[t,u] ty cb #[.slice none 0 0,.int .i64 m]).run P w):=by
  intro v w' hr hs hk
  simp only[builtin,Sem.run_bind,hr,Result.andThen_ok]
  exact⟨hs,hk⟩
 have hgrow:0<0+m:=by omega
 have h63': ¬(9223372036854775807<((0:Int)+(m:Int))):=by omega
 have hfit:=growslice_fits hgrow (show(0+m)*i.bytes≤_ by rw[Nat.zero_add];exact hbytes)
 have h48: ¬(281474976710656<Builtin.nextslicecap (0+m) 0*i.bytes):=by omega
 have hge:0+m≤grownCap w (0+m) 0 e:=grownCap_ge w (0+m) 0 e
 have hcm:grownCap w (0+m) 0 e≤maxLen:=grownCap_le_maxLen w (0+m) 0 e (by omega)
 have hold: ∀ w':World,w'.heap=H→(Builtin.firstCells i.size 0 (.slice none 0 0)).run P w'= .ok #[] w':=fun w' hw'=>run_firstRow (Row.nil _ _) (by simp) w' hw'
 have hwrap:IntKind.i64.wrap (m:Int)=m:=by simp[IntKind.wrap,IntKind.bits,IntKind.signed];omega
 have hng: ¬((m:Int)<0):=by omega
 have hbm: ¬(281474976710656<(m:Int)*(i.bytes:Int)):=by
  have:((m*i.bytes:Nat):Int)≤140737488355328:=by omega
  rw[Int.natCast_mul]at this;omega
 have hms: ¬(m*i.size=0):=by have:=Nat.mul_pos h0 hs1;omega
 refine goal (v:= .slice (some ⟨w.heap.size,0,none⟩) (0+m) (grownCap w (0+m) 0 e))
  (w':=w.drew.alloc (.cells (#[]++Builtin.zeroCells z.cells m++Builtin.zeroCells z.cells (grownCap w (0+m) 0 e-(0+m))) e)) ?_ ⟨rfl,rfl,rfl⟩ ?_
 ·have e1:=hold w.drew hw
  have hm0: ¬(m=0):=by omega
  have hsz:i.size≠0:=by omega
  simp[Builtin.append_,underlying_of ht,underlying_of hu,sizeOf_of hi,typeInfo_of hi,asInt,asIntOf,hwrap,hng,hbm,hm0,hsz,hms,Question.forced,e1,zeroValue,hz,newRow,grownCap]at h63' h48 ⊢
  simp[Int.not_lt.2 h63',Nat.not_lt.2 h48,e1]
 ·subst hw
  rw[Nat.zero_add]at*
  refine hk _ _ ⟨by simp,.inr ⟨w.heap.size,_,rfl,Nat.le_refl _,Blk.new (push_last _ _),Nat.zero_le _,hcm,?_,by simp⟩⟩ (Only.push _ _ _) hge
  simp only[Array.size_append,size_zeroCells,hzs,←Nat.add_mul]
  simp
  rw[←Nat.add_mul];congr 1;omega
end Go.Vc
namespace Go.Proofs.YtphkaogbcfdllaaGreatDoor
open Go Go.Vc Go.Scr Go.Pth Go.Tre
theorem row_nil {H:Heap} {l:List UInt8} (hr:Row H none (strV l)):l=[]:=by
 cases l with
 |nil=>rfl
 |cons c t=>obtain⟨b,o,h,_⟩:=hr.at (by simp[strV]);cases h
theorem clone_any (l:List UInt8) (a:Option Addr) (n cap:Nat) (H:Heap) (hr:Row H a (strV l)) (hn:l.length=n) (hm:n≤140737488355328):
  CallH Tryz.prog 67 [.slice a n cap] H fun v H'=>(∃ a' cap',v= .slice a' n cap'∧Own H' H.size 5 1 a' n cap' (strV l))∧Ext H H':=by
 refine Vc.CallH.body Tryz.func67 Tryz.call67 rfl (by decide+kernel) rfl ?_
 cases a with
 |none=>
  obtain rfl:=row_nil hr
  obtain rfl:0=n:=hn
  ((conv=>whnf);repeat(any_goals(first|((refine CondH.pos rfl ?_);(conv=>whnf))|(refine Vc.sts ?_;(conv=>whnf)))))
  exact⟨⟨none,0,rfl,Own.nil _ _ _ _⟩,Ext.refl _⟩
 |some p=>
  ((conv=>whnf);repeat(any_goals(first|((refine CondH.neg rfl ?_);(conv=>whnf))|(refine Vc.sts ?_;(conv=>whnf)))))
  refine SemH.lit (vs:=[]) rfl rfl rfl rfl rfl rfl rfl ?_
  intro H1 hs1 hb1 hx1
  ((conv=>whnf);repeat(any_goals(first|(refine Vc.sts ?_;(conv=>whnf)))))
  refine NextH.append (i:=Tryz.t5) (z:= .int .u8 0) (base:=H.size) rfl ⟨_,rfl,fun _ h=>by cases h⟩ rfl rfl rfl (own_new hb1 (Nat.le_refl _)) (Src.row (hr.ext hx1) (by rw[strV_length,hn];exact(Nat.mul_one _).symm) (strV_plain _)) (by unfold maxLen;omega) (by show(0+n)*1≤_;omega) (by omega) ?_
  intro a3 cap3 H3 ho3 hw3 hn3
  ((conv=>whnf);repeat(any_goals(first|(refine Vc.sts ?_;(conv=>whnf)))))
  rw[Nat.zero_add,List.nil_append]at*
  exact⟨⟨a3,cap3,rfl,ho3⟩,hx1.but hw3.toBut (Nat.le_refl _)⟩
theorem grow0_any (n:Nat) (H:Heap) (hm:n≤1000000000000):CallH Tryz.prog 174 [.slice none 0 0,.int .i64 n] H fun v H'=>(∃ a' cap',v= .slice a' 0 cap'∧Own H' H.size 5 1 a' 0 cap' [])∧Ext H H':=by
 refine Vc.CallH.body Tryz.func174 Tryz.call174 rfl (by decide+kernel) rfl ?_
 by_cases h0:n=0
 ·subst h0
  ((conv=>whnf);repeat(any_goals((first|((with_reducible apply NextH.capS);(focus(rfl));(focus((conv=>whnf))))|refine Vc.stp ?_|refine Vc.spl ?_ ?_)<;>(intros;(conv=>whnf)))))
  exact⟨⟨none,0,rfl,Own.nil _ _ _ _⟩,Ext.refl _⟩
 ·((conv=>whnf);repeat(any_goals((first|((with_reducible apply NextH.capS);(focus(rfl));(focus((conv=>whnf))))|(refine BndH.nat 0 rfl (by omega) ?_)|((with_reducible apply NextH.appendZ);(focus(rfl));(focus(rfl));(focus(rfl));(focus(rfl));(focus(rfl));(focus(omega));(focus((unfold maxLen;omega)));(focus((show n*1≤_;omega)));(focus(decide));(focus((intro c5 H5 ho5 hx5 hc5;(conv=>whnf)))))|(rw[show((n:Int)-(((0:Nat):Int)-((0:Nat):Int)))=(n:Int)by omega])|refine Vc.stp ?_|refine Vc.spl ?_ ?_)<;>(intros;(conv=>whnf)))))
  exact⟨⟨_,c5,rfl,ho5⟩,hx5⟩
theorem IdxA.cell {H:Heap} {a:Option Addr} {vs:List Value} {n:Nat} {i:Int} {K:Addr→Prop} (h:Row H a vs) (hn:vs.length=n) (j:Nat) (v:Value) (hi:i=j) (hv:vs[j]? =some v)
  (hk: ∀ b o,hcell H ⟨b,o+j,none⟩=some v→K ⟨b,o+j,none⟩):IdxA a n 1 i K:=by
 have hj:=(List.getElem?_eq_some_iff.1 hv).1
 refine(Go.Vc.IdxA.row (size:=1) h (by rw[hn,Nat.mul_one]) (by decide) j hi (by omega) fun b o h1 h2 h3=> ?_)
 have h3:=h3 0 v (by rw[Nat.mul_one,Nat.add_zero];exact hv)
 rw[Nat.mul_one]
 rw[Nat.mul_one]at h3
 exact hk b o (by simpa using h3)
theorem row_two {H:Heap} {g:Nat} {e:TypeId} {u v:Value} (h:Blk H g #[u,v] e):Row H (some ⟨g,0,none⟩) [u,v]:=Blk.row (c:=[u,v]) h
structure CcS where
 i:Nat
 a:Option Addr
 cap:Nat
theorem concat_any (x y:List UInt8) (a b:Option Addr) (n m ca cb g:Nat) (H:Heap) (hx:Row H a (strV x)) (hy:Row H b (strV y)) (hn:x.length=n) (hm:y.length=m) (hm1:n≤100000000000) (hm2:m≤100000000000) (hg:Blk H g #[.slice a n ca,.slice b m cb] 33):
  CallH Tryz.prog 121 [.slice (some ⟨g,0,none⟩) 2 2] H fun v H'=>(∃ a' cap',v= .slice a' (n+m) cap'∧Own H' H.size 5 1 a' (n+m) cap' (strV (x++y)))∧Ext H H':=by
 have hr:=row_two hg
 refine Vc.CallH.body Tryz.func121 Tryz.call121 rfl (by decide+kernel) rfl ?_
 ((conv=>whnf);repeat(any_goals((first|refine Vc.stp ?_|refine Vc.spl ?_ ?_)<;>(intros;(conv=>whnf)))))
 obtain⟨L,l0,l1,l2⟩: ∃ L:Nat→Nat,L 0=0∧L 1=n∧L 2=n+m:=⟨fun i=>if i=0 then 0 else if i=1 then n else n+m,rfl,rfl,rfl⟩
 obtain⟨M,m0,m1,m2⟩: ∃ M:Nat→List UInt8,M 0=[]∧M 1=x∧M 2=x++y:=⟨fun i=>if i=0 then []else if i=1 then x else x++y,rfl,rfl,rfl⟩
 refine LoopH.intro (fun(i:Nat)=>[(11,.int .i64 i),(3,.int .i64 (L i))]) (fun i H'=>H=H'∧i≤2) (fun i=>2-i) 0 ⟨rfl,by rw[l0];rfl,trivial⟩ ⟨rfl,Nat.zero_le _⟩ ?_
 rintro i _ ⟨rfl,hi⟩
 dsimp only
 by_cases h0:i=0
 ·subst h0
  ((conv=>whnf);repeat(any_goals((first|(refine IdxA.cell hr rfl 0 _ rfl rfl ?_;intro _ _ _)|refine Vc.stp ?_|refine Vc.spl ?_ ?_)<;>(intros;(conv=>whnf)))))
  exact⟨1,⟨rfl,by(show Value.int .i64 (((L 0:Nat):Int)+n)=Value.int .i64 (L 1:Int);rw[l0,l1];congr 1;omega),trivial⟩,⟨rfl,by omega⟩,by omega⟩
 by_cases h1:i=1
 ·subst h1
  ((conv=>whnf);repeat(any_goals((first|(refine IdxA.cell hr rfl 1 _ rfl rfl ?_;intro _ _ _)|refine Vc.stp ?_|refine Vc.spl ?_ ?_)<;>(intros;(conv=>whnf)))))
  exact⟨2,⟨rfl,by(show Value.int .i64 ((L 1:Int)+m)=Value.int .i64 (L 2:Int);rw[l1,l2];congr 1),trivial⟩,⟨rfl,by omega⟩,by omega⟩
 obtain rfl:i=2:=by omega
 rw[l2]
 have hgr:=fun H=>grow0_any (n+m) H (by omega)
 ((conv=>whnf);repeat(any_goals((first|(refine(hgr _).mono ?_;rintro _ H1 ⟨⟨a1,c1,rfl,ho1⟩,hx1⟩;have hz1:=hx1.size)|refine Vc.stp ?_|refine Vc.spl ?_ ?_)<;>(intros;(conv=>whnf)))))
 refine LoopH.intro (fun(x:CcS)=>[(27,.int .i64 x.i),(6,.slice x.a (L x.i) x.cap)]) (fun z H'=>z.i≤2∧Own H' H.size 5 1 z.a (L z.i) z.cap (strV (M z.i))∧Ext H H') (fun z=>2-z.i) ⟨0,a1,c1⟩ ⟨rfl,by(show Value.slice a1 0 c1= .slice a1 (L 0) c1;rw[l0]),trivial⟩ ⟨Nat.zero_le _,by(show Own H1 H.size _ 1 a1 (L 0) c1 (strV (M 0));rw[l0,m0];exact ho1),hx1⟩ ?_
 rintro⟨i,a2,c2⟩ H2 ⟨hi,ho2,hx2⟩
 dsimp only at hi ho2 ⊢
 have hz2:=hx2.size
 have hr2:=hr.ext hx2
 have hx':=hx.ext hx2
 have hy':=hy.ext hx2
 by_cases h0:i=0
 ·subst h0
  ((conv=>whnf);repeat(any_goals((first|(refine IdxA.cell hr2 rfl 0 _ rfl rfl ?_;intro _ _ _)|(refine NextH.append (m:=n) (i:=Tryz.t5) (z:= .int .u8 0) (base:=H.size) rfl ⟨_,rfl,fun _ h=>by cases h⟩ rfl rfl rfl ho2 (Src.row hx' (by rw[strV_length,hn];exact(Nat.mul_one _).symm) (strV_plain _)) (by unfold maxLen;omega) (by show(L 0+n)*1≤_;omega) (by omega) ?_;intro a3 c3 H3 ho3 hw3 hn3)|refine Vc.stp ?_|refine Vc.spl ?_ ?_)<;>(intros;(conv=>whnf)))))
  have e1:L 0+n=L 1:=by omega
  have e2:strV (M 0)++strV x=strV (M 1):=by rw[m0,m1];rfl
  rw[e1,e2]at ho3
  exact⟨⟨1,a3,c3⟩,⟨rfl,by rw[e1];rfl,trivial⟩,⟨by show 1≤2;omega,ho3,hx2.wr ho2 (Nat.le_refl _) hw3⟩,by show 2-1<2-0;omega⟩
 by_cases h1:i=1
 ·subst h1
  ((conv=>whnf);repeat(any_goals((first|(refine IdxA.cell hr2 rfl 1 _ rfl rfl ?_;intro _ _ _)|(refine NextH.append (m:=m) (i:=Tryz.t5) (z:= .int .u8 0) (base:=H.size) rfl ⟨_,rfl,fun _ h=>by cases h⟩ rfl rfl rfl ho2 (Src.row hy' (by rw[strV_length,hm];exact(Nat.mul_one _).symm) (strV_plain _)) (by unfold maxLen;omega) (by show(L 1+m)*1≤_;omega) (by omega) ?_;intro a3 c3 H3 ho3 hw3 hn3)|refine Vc.stp ?_|refine Vc.spl ?_ ?_)<;>(intros;(conv=>whnf)))))
  have e1:L 1+m=L 2:=by omega
  have e2:strV (M 1)++strV y=strV (M 2):=by rw[m1,m2,strV_append]
  rw[e1,e2]at ho3
  exact⟨⟨2,a3,c3⟩,⟨rfl,by rw[e1];rfl,trivial⟩,⟨Nat.le_refl _,ho3,hx2.wr ho2 (Nat.le_refl _) hw3⟩,by show 2-2<2-1;omega⟩
 obtain rfl:i=2:=by omega
 rw[l2,m2]at*
 ((conv=>whnf);repeat(any_goals((first|refine Vc.stp ?_|refine Vc.spl ?_ ?_)<;>(intros;(conv=>whnf)))))
 exact⟨⟨a2,c2,rfl,ho2⟩,hx2⟩
end Go.Proofs.YtphkaogbcfdllaaGreatDoor
namespace Go.Tre
open Go.Pth Go.Scr
open Go.Vc (mget mput mdel mget_put mget_mem mget_of_mem mget_none)
theorem makeF_snoc (A:Tr) (l:List Txt) (d:Txt):makeF A (l++[d])=putF (makeF A l) d (true,[]):=by unfold makeF;rw[List.foldl_append];rfl
theorem makeF_rev {A:Tr} (h:Sorted A) (l:List Txt):makeF A l.reverse=makeF A l:=makeF_same h fun x=>by simp
theorem write_size {A:Tr} (hA:Okay A) {q:Txt} (hq:CleanP q) (b:Txt):sizeT (putF (makeF A (lackF A q)) q (false,b))+oldF A q=sizeT A+b.length:=by
 have h1:=putF_size (makeF_sorted (lackF A q) hA.sorted) q (false,b)
 rw[old_makeF hA.sorted (lack_np hq),makeF_size hA.sorted fun d hd=>(lack_none hd).2]at h1
 exact h1
theorem old_le: ∀ (A:Tr) (p:Txt),oldF A p≤sizeT A
 |[],p=>Nat.zero_le _
 |x::l,p=>by
  have e1:sizeT (x::l)=x.2.2.length+sizeT l:=by simp[sizeT]
  have:=old_le l p
  unfold oldF at this ⊢
  simp only[mget]
  by_cases h:p=x.1
  ·rw[if_pos h,e1];exact Nat.le_add_right _ _
  ·rw[if_neg h,e1]
   exact Nat.le_trans this (Nat.le_add_left _ _)
end Go.Tre
namespace Go.Proofs.YtphkaogbcfdllaaGreatDoor
open Go Go.Vc Go.Scr Go.Pth Go.Tre
variable {Z:Nat→Prop}
theorem make_any {b mb:Nat} {A:Tr} {H:Heap} {s:Int} (hb:Blk H b #[.map (some mb),.int .i64 s] 133) (hm:MapT Z H mb A) (ds:List Bs) (a:Option Addr) (n cap:Nat) (hr:Row H a (strs ds)) (hn:ds.length=n) (hn1:n≤1000000):
  CallH Tryz.prog 123 [.pointer (some ⟨b,0,none⟩),.slice a n cap] H fun v H'=>v= .tuple #[]∧MapT Z H' mb (makeF A ds)∧But mb H H':=by
 refine Vc.CallH.body Tryz.func123 Tryz.call123 rfl (by decide+kernel) rfl ?_
 have hmb:=hm.ne hb
 ((conv=>whnf);repeat(any_goals((first|refine Vc.stp ?_|refine Vc.spl ?_ ?_)<;>(intros;(conv=>whnf)))))
 refine LoopH.intro (fun(i:Nat)=>[(8,.int .i64 i)]) (fun i H'=>i≤n∧MapT Z H' mb (makeF A (ds.take i))∧But mb H H') (fun i=>n-i) 0 ⟨rfl,trivial⟩ ⟨Nat.zero_le _,hm,Only.refl _ _⟩ ?_
 rintro i H2 ⟨hi,hm2,hx2⟩
 have hz2:=hx2.size
 have hb2:=hb.but hx2 hmb.symm
 have hr2:=hr.texts hx2 fun x e _=>by subst e;exact hm.oth.dumb
 by_cases hlt:i<n
 ·obtain⟨d,hd⟩: ∃ d,ds[i]? =some d:=⟨_,List.getElem?_eq_getElem (by omega)⟩
  ((conv=>whnf);repeat(any_goals((first|(refine IdxA.strv hr2 hn i d (by omega) hd ?_;intro _ _ _ _ _)|(refine PureH.build #[.bool true,.slice none 0 0] (by kernel_rfl) ?_)|((with_reducible apply treePut);(focus((exact hm2.ext (by assumption))));(focus((exact NodeO.dir (by assumption))));(focus(rfl));(focus(rfl));(focus((intro H5 z5 m5 x5;(conv=>whnf)))))|refine Vc.stp ?_|refine Vc.spl ?_ ?_)<;>(intros;(conv=>whnf)))))
  rename_i H4 z4 b4 x4
  refine⟨i+1,⟨rfl,trivial⟩,⟨by omega,?_,(hx2.ext x4).trans x5 fun _ _ h=>h⟩,by omega⟩
  rw[List.take_add_one,hd]
  show MapT Z H5 mb (makeF A (ds.take i++[d]))
  rw[makeF_snoc];exact m5
 ·obtain rfl:i=n:=by omega
  ((conv=>whnf);repeat(any_goals((first|refine Vc.stp ?_|refine Vc.spl ?_ ?_)<;>(intros;(conv=>whnf)))))
  refine⟨rfl,?_,hx2⟩
  rw[List.take_of_length_le (by omega)]at hm2;exact hm2
structure Did (Z:Nat→Prop) (H H':Heap) (b mb:Nat) (v:Value) (r:Tr×Nat):Prop where
 code:v= .int .i64 r.2
 tree:TreeO Z H' b mb r.1
 only:ButT b mb H H'
theorem Did.none {H H':Heap} {b mb:Nat} {A:Tr} (h:TreeO Z H b mb A) (k:Ext H H') (n:Nat):Did Z H H' b mb (.int .i64 n) (A,n):=⟨rfl,h.ext k,k.only⟩
theorem node_none {A:Tr} {q:Txt} (h:mget A q=none) (hq:q≠ []):nodeAt A q=none:=by unfold nodeAt;rw[if_neg hq,h]
theorem node_some {A:Tr} {q:Txt} {n:Tre.Node} (h:mget A q=some n) (hq:q≠ []):nodeAt A q=some n:=by unfold nodeAt;rw[if_neg hq,h]
theorem dir_node (A:Tr) (q:Txt):dirF A q=true↔ ∃ t,nodeAt A q=some (true,t):=by
 unfold dirF nodeAt
 by_cases h:q=[]
 ·subst h;simp
 ·rw[if_neg h]
  cases hg:mget A q with
  |none=>simp[h]
  |some n=>obtain⟨x,t⟩:=n;simp[h]
def newB (A:Tr) (q bs:Bs) (more:Bool):Bs:=if more=true then bytesF A q++bs else bs
def putR (A:Tr) (p bs:Bs) (more:Bool):Tr×Nat:=if(cleanF p).2=0 then writeP A (cleanF p).1 (newB A (cleanF p).1 bs more)else(A,(cleanF p).2)
theorem putR_write (A:Tr) (p bs:Bs):putR A p bs false=writeF A p bs:=rfl
theorem putR_append (A:Tr) (p bs:Bs):putR A p bs true=appendF A p bs:=rfl
set_option maxHeartbeats 4000000 in
theorem put_any {b mb:Nat} {A:Tr} {H:Heap} (h:TreeO Z H b mb A) (hA:Okay A) (p BB:Bs) (a:Option Addr) (n cap:Nat) (more:Bool) (hr:Row H a (strV BB)) (hn:BB.length=n) (hm:n≤10000000000):
  CallH Tryz.prog 68 [.pointer (some ⟨b,0,none⟩),.string (mkS p),.slice a n cap,.bool more] H fun v H'=>Did Z H H' b mb v (putR A p BB more):=by
 subst hn
 have hmb:=h.map.ne h.blk
 have hcl:=fun H=>clean_any p H
 obtain⟨hcode,hcn⟩:=clean_code p
 unfold putR
 by_cases h0: ¬(cleanF p).2=0
 ·rw[if_neg h0]
  generalize cleanF p=c at*
  refine Vc.CallH.body Tryz.func68 Tryz.call68 rfl (by decide+kernel) rfl ?_
  ((conv=>whnf);repeat(any_goals((first|(refine(hcl _).mono ?_;rintro _ H1 ⟨rfl,hx1⟩;have hz1:=hx1.size)|refine Vc.stp ?_|refine Vc.spl ?_ ?_)<;>(intros;(conv=>whnf)))))
  exact Did.none h hx1 _
 have h0:(cleanF p).2=0:=by omega
 rw[if_pos h0]
 have hq:=clean_of h0
 obtain⟨q,hqe⟩: ∃ q,(cleanF p).1=q:=⟨_,rfl⟩
 rw[h0,hqe]at hcl
 rw[hqe]at hq ⊢
 have hat:=fun H' (k:Ext H H')=>at_any (h.ext k) q
 by_cases hd:dirF A q=true
 ·obtain⟨t,ht⟩:=(dir_node A q).1 hd
  rw[ht]at hat
  have hw:writeP A q (newB A q BB more)=(A,54):=by unfold writeP;rw[if_pos (.inl hd)]
  rw[hw]
  refine Vc.CallH.body Tryz.func68 Tryz.call68 rfl (by decide+kernel) rfl ?_
  ((conv=>whnf);repeat(any_goals((first|(refine(hcl _).mono ?_;rintro _ H1 ⟨rfl,hx1⟩;have hz1:=hx1.size)|(refine(hat _ (by exact Vc.xt)).mono ?_;rintro v2 H2 ⟨hv2,hx2⟩;have hz2:=hx2.size;obtain⟨g2,a2,c2,rfl,hb2,hr2⟩:=NodeO.out hv2)|refine Vc.stp ?_|refine Vc.spl ?_ ?_)<;>(intros;(conv=>whnf)))))
  exact Did.none h (by exact Vc.xt) _
 have hqn:q≠ []:=by rintro rfl;exact hd rfl
 have hah:=fun H' (k:Ext H H')=>ahead_any (h.ext k) hq
 cases hg:mget A q with
 |none=>
  rw[node_none hg hqn]at hat
  have hnb:newB A q BB more=BB:=by unfold newB bytesF;rw[hg];cases more<;>rfl
  rw[hnb]
  unfold AheadV at hah
  by_cases hf:fileF A q=true
  ·simp only[if_pos hf]at hah
   have hw:writeP A q BB=(A,54):=by unfold writeP;rw[if_pos (.inr hf)]
   rw[hw]
   refine Vc.CallH.body Tryz.func68 Tryz.call68 rfl (by decide+kernel) rfl ?_
   ((conv=>whnf);repeat(any_goals((first|(refine(hcl _).mono ?_;rintro _ H1 ⟨rfl,hx1⟩;have hz1:=hx1.size)|(refine(hat _ (by exact Vc.xt)).mono ?_;rintro v2 H2 ⟨hv2,hx2⟩;have hz2:=hx2.size;obtain rfl:=hv2)|(refine(hah _ (by exact Vc.xt)).mono ?_;rintro _ H3 ⟨rfl,hx3⟩;have hz3:=hx3.size)|refine Vc.stp ?_|refine Vc.spl ?_ ?_)<;>(intros;(conv=>whnf)))))
   exact Did.none h (by exact Vc.xt) _
  ·simp only[if_neg hf]at hah
   have hlk:(lackF A q).length≤12:=by
    have h1:(lackF A q).length≤(pars q).length:=List.length_filter_le _ _
    have h2:=hq.parts.deep
    rw[pars_len]at h1;omega
   have hoF:oldF A q=0:=by unfold oldF;rw[hg]
   have hmF:moreF A q=(lackF A q).length+1:=by unfold moreF;rw[hg];simp
   by_cases hbig:65536<BB.length
   ·have hw:writeP A q BB=(A,55):=by unfold writeP;rw[if_neg (by rw[not_or];exact⟨hd,hf⟩),if_pos (.inl hbig)]
    rw[hw]
    refine Vc.CallH.body Tryz.func68 Tryz.call68 rfl (by decide+kernel) rfl ?_
    ((conv=>whnf);repeat(any_goals((first|(refine(hcl _).mono ?_;rintro _ H1 ⟨rfl,hx1⟩;have hz1:=hx1.size)|(refine(hat _ (by exact Vc.xt)).mono ?_;rintro v2 H2 ⟨hv2,hx2⟩;have hz2:=hx2.size;obtain rfl:=hv2)|(refine(hah _ (by exact Vc.xt)).mono ?_;rintro _ H3 ⟨⟨a3,c3,rfl,ho3⟩,hx3⟩;have hz3:=hx3.size)|refine Vc.stp ?_|refine Vc.spl ?_ ?_)<;>(intros;(conv=>whnf)))))
    exact Did.none h (by exact Vc.xt) _
   have hroom:=fun H' (k:Ext H H')=>room_any (h.ext k) hA.sorted (by have:=hA.count;omega) (by have:=hA.size;omega) ((lackF A q).length+1) ((BB.length:Int)-0) (by omega) (by omega)
   rw[show(((lackF A q).length+1:Nat):Int)=((lackF A q).length:Int)+1 by omega]at hroom
   by_cases hrm:(lackF A q).length+1+A.length≤500∧(BB.length:Int)-0+sizeT A≤1048576
   ·rw[decide_eq_true hrm]at hroom
    have hw:writeP A q BB=(putF (makeF A (lackF A q)) q (false,BB),0):=by
     unfold writeP
     rw[if_neg (by rw[not_or];exact⟨hd,hf⟩),if_neg (by rw[not_or,not_or];omega)]
    rw[hw]
    have hws:=write_size hA hq BB
    refine Vc.CallH.body Tryz.func68 Tryz.call68 rfl (by decide+kernel) rfl ?_
    ((conv=>whnf);repeat(any_goals((first|(refine(hcl _).mono ?_;rintro _ H1 ⟨rfl,hx1⟩;have hz1:=hx1.size)|(refine(hat _ (by exact Vc.xt)).mono ?_;rintro v2 H2 ⟨hv2,hx2⟩;have hz2:=hx2.size;obtain rfl:=hv2)|(refine(hah _ (by exact Vc.xt)).mono ?_;rintro _ H3 ⟨⟨a3,c3,rfl,ho3⟩,hx3⟩;have hz3:=hx3.size)|(refine(hroom _ (by exact Vc.xt)).mono ?_;rintro _ _ ⟨rfl,rfl⟩)|(refine(make_any (h.blk.ext (by exact Vc.xt)) (h.map.ext (by exact Vc.xt)) (lackF A q).reverse a3 _ c3 (ho3.row.ext (by exact Vc.xt)) (by simp) (by omega)).mono ?_;rintro _ H5 ⟨rfl,hm5,hx5⟩;have hz5:=hx5.size;have hx03:=(show Ext H H3 by exact Vc.xt);have hb5:=(h.blk.ext hx03).but hx5 hmb.symm;have hr5:=(hr.ext hx03).bytes hx5 (fun x e _=>by subst e;exact(h.map.ext hx03).oth.dumb))|(refine(clone_any _ _ _ _ _ (hr5.ext (by exact Vc.xt)) rfl (by omega)).mono ?_;rintro _ H6 ⟨⟨a6,c6,rfl,ho6⟩,hx6⟩;have hz6:=hx6.size)|(refine PureH.build #[.bool false,.slice a6 BB.length c6] (by kernel_rfl) ?_)|((with_reducible apply treePut (n:=(false,BB)));(focus((exact hm5.ext (by exact Vc.xt))));(focus((exact .mk1 (by assumption) (ho6.row.ext (by assumption)) fun _ p hp hz=>absurd (ho6.block p hp).1 (by have:=h.low _ hz;omega))));(focus(rfl));(focus(rfl));(focus((intro H8 z8 m8 x8;(conv=>whnf)))))|((with_reducible refine Vc.DrawH.held [0,1,2,3,4,5,6,7,8,9] [(6,[3]),(8,[3])] mixed (by decide+kernel) ?_))|refine Vc.stp ?_|refine Vc.spl ?_ ?_)<;>(intros;(conv=>whnf)))))
    (rename_i H7 z7 b7 x7 H9 z9 b9 x9;have o9:ButT b mb H H9:=(((hx03.only.trans hx5 fun _ _ e=> .inr e).ext (show Ext H5 H7 by exact Vc.xt)).trans x8 fun _ _ e=> .inr e).trans x9 fun _ _ e=> .inl e;rw[makeF_rev hA.sorted]at m8;have b8:=(hb5.ext (show Ext H5 H7 by exact Vc.xt)).but x8 hmb.symm;have b9:Blk H9 b #[.map (some mb),.int .i64 ((sizeT A:Int)+((BB.length:Int)-(oldF A q:Int)))] 133:=(by rw[hoF];exact b9);rw[show(sizeT A:Int)+((BB.length:Int)-(oldF A q:Int))=(sizeT (putF (makeF A (lackF A q)) q (false,BB)):Nat)by omega]at b9;exact⟨rfl,⟨m8.keep x9 hmb (fun x e _=>by subst e;exact .inl (oth_tree b8)),b9,fun x hx=>Nat.lt_of_lt_of_le (h.low x hx) o9.size⟩,o9⟩)
   ·rw[decide_eq_false hrm]at hroom
    have hw:writeP A q BB=(A,55):=by
     unfold writeP
     rw[if_neg (by rw[not_or];exact⟨hd,hf⟩),if_pos (by omega)]
    rw[hw]
    refine Vc.CallH.body Tryz.func68 Tryz.call68 rfl (by decide+kernel) rfl ?_
    ((conv=>whnf);repeat(any_goals((first|(refine(hcl _).mono ?_;rintro _ H1 ⟨rfl,hx1⟩;have hz1:=hx1.size)|(refine(hat _ (by exact Vc.xt)).mono ?_;rintro v2 H2 ⟨hv2,hx2⟩;have hz2:=hx2.size;obtain rfl:=hv2)|(refine(hah _ (by exact Vc.xt)).mono ?_;rintro _ H3 ⟨⟨a3,c3,rfl,ho3⟩,hx3⟩;have hz3:=hx3.size)|(refine(hroom _ (by exact Vc.xt)).mono ?_;rintro _ _ ⟨rfl,rfl⟩)|refine Vc.stp ?_|refine Vc.spl ?_ ?_)<;>(intros;(conv=>whnf)))))
    exact Did.none h (by exact Vc.xt) _
 |some nd=>
  obtain⟨dir,old⟩:=nd
  have hdir:dir=false:=by
   cases dir with
   |false=>rfl
   |true=>exact absurd ((dir_node A q).2 ⟨old,node_some hg hqn⟩) hd
  subst hdir
  rw[node_some hg hqn]at hat
  obtain⟨hl0,hf0⟩:=lack_nil hA hg
  have hf: ¬fileF A q=true:=by rw[hf0];simp
  unfold AheadV at hah
  simp only[if_neg hf]at hah
  rw[hl0]at hah
  have hoF:oldF A q=old.length:=by unfold oldF;rw[hg]
  have hmF:moreF A q=0:=by unfold moreF;rw[hg];simp
  have hol:=(hA.file q _ hg).1
  have hos:=old_le A q
  dsimp only at hol
  have hAc:=hA.count
  have e00:([]:List Txt).length=0:=rfl
  have hAs:=hA.size
  cases more with
  |false=>
   have hnb:newB A q BB false=BB:=rfl
   rw[hnb]
   by_cases hbig:65536<BB.length
   ·have hw:writeP A q BB=(A,55):=by unfold writeP;rw[if_neg (by rw[not_or];exact⟨hd,hf⟩),if_pos (.inl hbig)]
    rw[hw]
    refine Vc.CallH.body Tryz.func68 Tryz.call68 rfl (by decide+kernel) rfl ?_
    ((conv=>whnf);repeat(any_goals((first|(refine(hcl _).mono ?_;rintro _ H1 ⟨rfl,hx1⟩;have hz1:=hx1.size)|(refine(hat _ (by exact Vc.xt)).mono ?_;rintro v2 H2 ⟨hv2,hx2⟩;have hz2:=hx2.size;obtain⟨g2,a2,c2,rfl,hb2,hr2⟩:=NodeO.out hv2;dsimp only at hb2 hr2)|(refine(hah _ (by exact Vc.xt)).mono ?_;rintro _ H3 ⟨⟨a3,c3,rfl,ho3⟩,hx3⟩;have hz3:=hx3.size)|refine Vc.stp ?_|refine Vc.spl ?_ ?_)<;>(intros;(conv=>whnf)))))
    exact Did.none h (by exact Vc.xt) _
   have hroom:=fun H' (k:Ext H H')=>room_any (h.ext k) hA.sorted (by omega) (by omega) 0 ((BB.length:Int)-old.length) (by omega) (by omega)
   by_cases hrm:0+A.length≤500∧(BB.length:Int)-old.length+sizeT A≤1048576
   ·rw[decide_eq_true hrm]at hroom
    have hw:writeP A q BB=(putF (makeF A (lackF A q)) q (false,BB),0):=by
     unfold writeP
     rw[if_neg (by rw[not_or];exact⟨hd,hf⟩),if_neg (by rw[not_or,not_or];omega)]
    rw[hw]
    have hws:=write_size hA hq BB
    rw[hl0]at hws ⊢
    refine Vc.CallH.body Tryz.func68 Tryz.call68 rfl (by decide+kernel) rfl ?_
    ((conv=>whnf);repeat(any_goals((first|(refine(hcl _).mono ?_;rintro _ H1 ⟨rfl,hx1⟩;have hz1:=hx1.size)|(refine(hat _ (by exact Vc.xt)).mono ?_;rintro v2 H2 ⟨hv2,hx2⟩;have hz2:=hx2.size;obtain⟨g2,a2,c2,rfl,hb2,hr2⟩:=NodeO.out hv2;dsimp only at hb2 hr2)|(refine(hah _ (by exact Vc.xt)).mono ?_;rintro _ H3 ⟨⟨a3,c3,rfl,ho3⟩,hx3⟩;have hz3:=hx3.size)|(refine(hroom _ (by exact Vc.xt)).mono ?_;rintro _ _ ⟨rfl,rfl⟩)|(refine(make_any (h.blk.ext (by exact Vc.xt)) (h.map.ext (by exact Vc.xt)) [] a3 0 c3 (Row.nil _ _) rfl (by omega)).mono ?_;rintro _ H5 ⟨rfl,hm5,hx5⟩;have hz5:=hx5.size;have hx03:=(show Ext H H3 by exact Vc.xt);have hb5:=(h.blk.ext hx03).but hx5 hmb.symm;have hr5:=(hr.ext hx03).bytes hx5 (fun x e _=>by subst e;exact(h.map.ext hx03).oth.dumb))|(refine(clone_any _ _ _ _ _ (hr5.ext (by exact Vc.xt)) rfl (by omega)).mono ?_;rintro _ H6 ⟨⟨a6,c6,rfl,ho6⟩,hx6⟩;have hz6:=hx6.size)|(refine PureH.build #[.bool false,.slice a6 BB.length c6] (by kernel_rfl) ?_)|((with_reducible apply treePut (n:=(false,BB)));(focus((exact hm5.ext (by exact Vc.xt))));(focus((exact .mk1 (by assumption) (ho6.row.ext (by assumption)) fun _ p hp hz=>absurd (ho6.block p hp).1 (by have:=h.low _ hz;omega))));(focus(rfl));(focus(rfl));(focus((intro H8 z8 m8 x8;(conv=>whnf)))))|((with_reducible refine Vc.DrawH.held [0,1,2,3,4,5,6,7,8,9] [(6,[3]),(8,[3])] mixed (by decide+kernel) ?_))|refine Vc.stp ?_|refine Vc.spl ?_ ?_)<;>(intros;(conv=>whnf)))))
    (rename_i H7 z7 b7 x7 H9 z9 b9 x9;have o9:ButT b mb H H9:=(((hx03.only.trans hx5 fun _ _ e=> .inr e).ext (show Ext H5 H7 by exact Vc.xt)).trans x8 fun _ _ e=> .inr e).trans x9 fun _ _ e=> .inl e;have b8:=(hb5.ext (show Ext H5 H7 by exact Vc.xt)).but x8 hmb.symm;have b9:Blk H9 b #[.map (some mb),.int .i64 ((sizeT A:Int)+((BB.length:Int)-(oldF A q:Int)))] 133:=(by rw[hoF];exact b9);rw[show(sizeT A:Int)+((BB.length:Int)-(oldF A q:Int))=(sizeT (putF (makeF A []) q (false,BB)):Nat)by omega]at b9;exact⟨rfl,⟨m8.keep x9 hmb (fun x e _=>by subst e;exact .inl (oth_tree b8)),b9,fun x hx=>Nat.lt_of_lt_of_le (h.low x hx) o9.size⟩,o9⟩)
   ·rw[decide_eq_false hrm]at hroom
    have hw:writeP A q BB=(A,55):=by
     unfold writeP
     rw[if_neg (by rw[not_or];exact⟨hd,hf⟩),if_pos (by omega)]
    rw[hw]
    refine Vc.CallH.body Tryz.func68 Tryz.call68 rfl (by decide+kernel) rfl ?_
    ((conv=>whnf);repeat(any_goals((first|(refine(hcl _).mono ?_;rintro _ H1 ⟨rfl,hx1⟩;have hz1:=hx1.size)|(refine(hat _ (by exact Vc.xt)).mono ?_;rintro v2 H2 ⟨hv2,hx2⟩;have hz2:=hx2.size;obtain⟨g2,a2,c2,rfl,hb2,hr2⟩:=NodeO.out hv2;dsimp only at hb2 hr2)|(refine(hah _ (by exact Vc.xt)).mono ?_;rintro _ H3 ⟨⟨a3,c3,rfl,ho3⟩,hx3⟩;have hz3:=hx3.size)|(refine(hroom _ (by exact Vc.xt)).mono ?_;rintro _ _ ⟨rfl,rfl⟩)|refine Vc.stp ?_|refine Vc.spl ?_ ?_)<;>(intros;(conv=>whnf)))))
    exact Did.none h (by exact Vc.xt) _
  |true=>
   have hnb:newB A q BB true=old++BB:=by unfold newB bytesF;rw[hg];rfl
   have hcat:=fun H' a2 c2 g4 (hr2:Row H' a2 (strV old)) (hr:Row H' a (strV BB)) (hb:Blk H' g4 #[.slice a2 old.length c2,.slice a BB.length cap] _)=>concat_any old BB a2 a old.length BB.length c2 cap g4 H' hr2 hr rfl rfl (by omega) (by omega) hb
   rw[hnb]
   obtain⟨CC,hCC⟩: ∃ C,old++BB=C:=⟨_,rfl⟩
   have hCl:CC.length=old.length+BB.length:=by rw[←hCC,List.length_append]
   rw[hCC]at hnb hcat ⊢
   rw[←hCl]at hcat
   by_cases hbig:65536<CC.length
   ·have hw:writeP A q CC=(A,55):=by unfold writeP;rw[if_neg (by rw[not_or];exact⟨hd,hf⟩),if_pos (.inl hbig)]
    rw[hw]
    refine Vc.CallH.body Tryz.func68 Tryz.call68 rfl (by decide+kernel) rfl ?_
    ((conv=>whnf);repeat(any_goals((first|(refine(hcl _).mono ?_;rintro _ H1 ⟨rfl,hx1⟩;have hz1:=hx1.size)|(refine(hat _ (by exact Vc.xt)).mono ?_;rintro v2 H2 ⟨hv2,hx2⟩;have hz2:=hx2.size;obtain⟨g2,a2,c2,rfl,hb2,hr2⟩:=NodeO.out hv2;dsimp only at hb2 hr2)|(refine(hah _ (by exact Vc.xt)).mono ?_;rintro _ H3 ⟨⟨a3,c3,rfl,ho3⟩,hx3⟩;have hz3:=hx3.size)|(refine(hcat _ a2 c2 _ (hr2.ext (by exact Vc.xt)) (hr.ext (by exact Vc.xt)) (by assumption)).mono ?_;rintro _ H4 ⟨⟨a4,c4,rfl,ho4⟩,hx4⟩;have hz4:=hx4.size)|refine Vc.stp ?_|refine Vc.spl ?_ ?_)<;>(intros;(conv=>whnf)))))
    exact Did.none h (by exact Vc.xt) _
   have hroom:=fun H' (k:Ext H H')=>room_any (h.ext k) hA.sorted (by omega) (by omega) 0 ((CC.length:Int)-old.length) (by omega) (by omega)
   by_cases hrm:0+A.length≤500∧(CC.length:Int)-old.length+sizeT A≤1048576
   ·rw[decide_eq_true hrm]at hroom
    have hw:writeP A q CC=(putF (makeF A (lackF A q)) q (false,CC),0):=by
     unfold writeP
     rw[if_neg (by rw[not_or];exact⟨hd,hf⟩),if_neg (by rw[not_or,not_or];omega)]
    rw[hw]
    have hws:=write_size hA hq CC
    rw[hl0]at hws ⊢
    refine Vc.CallH.body Tryz.func68 Tryz.call68 rfl (by decide+kernel) rfl ?_
    ((conv=>whnf);repeat(any_goals((first|(refine(hcl _).mono ?_;rintro _ H1 ⟨rfl,hx1⟩;have hz1:=hx1.size)|(refine(hat _ (by exact Vc.xt)).mono ?_;rintro v2 H2 ⟨hv2,hx2⟩;have hz2:=hx2.size;obtain⟨g2,a2,c2,rfl,hb2,hr2⟩:=NodeO.out hv2;dsimp only at hb2 hr2)|(refine(hah _ (by exact Vc.xt)).mono ?_;rintro _ H3 ⟨⟨a3,c3,rfl,ho3⟩,hx3⟩;have hz3:=hx3.size)|(refine(hcat _ a2 c2 _ (hr2.ext (by exact Vc.xt)) (hr.ext (by exact Vc.xt)) (by assumption)).mono ?_;rintro _ H4 ⟨⟨a4,c4,rfl,ho4⟩,hx4⟩;have hz4:=hx4.size)|(refine(hroom _ (by exact Vc.xt)).mono ?_;rintro _ _ ⟨rfl,rfl⟩)|(refine(make_any (h.blk.ext (by exact Vc.xt)) (h.map.ext (by exact Vc.xt)) [] a3 0 c3 (Row.nil _ _) rfl (by omega)).mono ?_;rintro _ H5 ⟨rfl,hm5,hx5⟩;have hz5:=hx5.size;have hx03:=(show Ext H H4 by exact Vc.xt);have hb5:=(h.blk.ext hx03).but hx5 hmb.symm;have hr5:=ho4.row.bytes hx5 (fun x e _=>by subst e;exact(h.map.ext hx03).oth.dumb))|(refine(clone_any _ _ _ _ _ (hr5.ext (by exact Vc.xt)) rfl (by omega)).mono ?_;rintro _ H6 ⟨⟨a6,c6,rfl,ho6⟩,hx6⟩;have hz6:=hx6.size)|(refine PureH.build #[.bool false,.slice a6 CC.length c6] (by kernel_rfl) ?_)|((with_reducible apply treePut (n:=(false,CC)));(focus((exact hm5.ext (by exact Vc.xt))));(focus((exact .mk1 (by assumption) (ho6.row.ext (by assumption)) fun _ p hp hz=>absurd (ho6.block p hp).1 (by have:=h.low _ hz;omega))));(focus(rfl));(focus(rfl));(focus((intro H8 z8 m8 x8;(conv=>whnf)))))|((with_reducible refine Vc.DrawH.held [0,1,2,3,4,5,6,7,8,9] [(6,[3]),(8,[3])] mixed (by decide+kernel) ?_))|refine Vc.stp ?_|refine Vc.spl ?_ ?_)<;>(intros;(conv=>whnf)))))
    (rename_i H7 z7 b7 x7 H9 z9 b9 x9;have o9:ButT b mb H H9:=(((hx03.only.trans hx5 fun _ _ e=> .inr e).ext (show Ext H5 H7 by exact Vc.xt)).trans x8 fun _ _ e=> .inr e).trans x9 fun _ _ e=> .inl e;have b8:=(hb5.ext (show Ext H5 H7 by exact Vc.xt)).but x8 hmb.symm;have b9:Blk H9 b #[.map (some mb),.int .i64 ((sizeT A:Int)+((CC.length:Int)-(oldF A q:Int)))] 133:=(by rw[hoF];exact b9);rw[show(sizeT A:Int)+((CC.length:Int)-(oldF A q:Int))=(sizeT (putF (makeF A []) q (false,CC)):Nat)by omega]at b9;exact⟨rfl,⟨m8.keep x9 hmb (fun x e _=>by subst e;exact .inl (oth_tree b8)),b9,fun x hx=>Nat.lt_of_lt_of_le (h.low x hx) o9.size⟩,o9⟩)
   ·rw[decide_eq_false hrm]at hroom
    have hw:writeP A q CC=(A,55):=by
     unfold writeP
     rw[if_neg (by rw[not_or];exact⟨hd,hf⟩),if_pos (by omega)]
    rw[hw]
    refine Vc.CallH.body Tryz.func68 Tryz.call68 rfl (by decide+kernel) rfl ?_
    ((conv=>whnf);repeat(any_goals((first|(refine(hcl _).mono ?_;rintro _ H1 ⟨rfl,hx1⟩;have hz1:=hx1.size)|(refine(hat _ (by exact Vc.xt)).mono ?_;rintro v2 H2 ⟨hv2,hx2⟩;have hz2:=hx2.size;obtain⟨g2,a2,c2,rfl,hb2,hr2⟩:=NodeO.out hv2;dsimp only at hb2 hr2)|(refine(hah _ (by exact Vc.xt)).mono ?_;rintro _ H3 ⟨⟨a3,c3,rfl,ho3⟩,hx3⟩;have hz3:=hx3.size)|(refine(hcat _ a2 c2 _ (hr2.ext (by exact Vc.xt)) (hr.ext (by exact Vc.xt)) (by assumption)).mono ?_;rintro _ H4 ⟨⟨a4,c4,rfl,ho4⟩,hx4⟩;have hz4:=hx4.size)|(refine(hroom _ (by exact Vc.xt)).mono ?_;rintro _ _ ⟨rfl,rfl⟩)|refine Vc.stp ?_|refine Vc.spl ?_ ?_)<;>(intros;(conv=>whnf)))))
    exact Did.none h (by exact Vc.xt) _
end Go.Proofs.YtphkaogbcfdllaaGreatDoor
namespace Go.Tre
open Go.Pth Go.Scr
open Go.Vc (mget mput mdel mget_put mget_mem mget_of_mem mget_none)
theorem append_cut (A:Tr) (s b:Txt) (h:65536<b.length):appendF A s (b.take 65537)=appendF A s b:=by
 have hl:(b.take 65537).length=65537:=by rw[List.length_take];omega
 have key: ∀ q x c,65536<c.length→writeP A q (x++c)=if dirF A q=true∨fileF A q=true then(A,54)else(A,55):=by
  intro q x c hc
  unfold writeP
  split
  ·rfl
  ·rw[if_pos (.inl (by rw[List.length_append];omega))]
 unfold appendF
 rw[key _ _ _ (by omega),key _ _ _ h]
end Go.Tre
namespace Go.Proofs.YtphkaogbcfdllaaGreatDoor
open Go Go.Vc Go.Scr Go.Pth Go.Tre
variable {Z:Nat→Prop}
theorem write_any {b mb:Nat} {A:Tr} {H:Heap} (h:TreeO Z H b mb A) (hA:Okay A) (p bs:Bs) (a:Option Addr) (n cap:Nat) (hr:Row H a (strV bs)) (hn:bs.length=n) (hm:n≤10000000000):
  CallH Tryz.prog 20 [.pointer (some ⟨b,0,none⟩),.string (mkS p),.slice a n cap] H fun v H'=>Did Z H H' b mb v (writeF A p bs):=by
 have hp:=put_any h hA p bs a n cap false hr hn hm
 rw[putR_write]at hp
 refine Vc.CallH.body Tryz.func20 Tryz.call20 rfl (by decide+kernel) rfl ?_
 ((conv=>whnf);repeat(any_goals((first|(refine hp.mono ?_;rintro v2 H2 hd;obtain rfl:=hd.code)|refine Vc.stp ?_|refine Vc.spl ?_ ?_)<;>(intros;(conv=>whnf)))))
 exact hd
theorem append_any {b mb:Nat} {A:Tr} {H:Heap} (h:TreeO Z H b mb A) (hA:Okay A) (p bs:Bs) (a:Option Addr) (n cap:Nat) (hr:Row H a (strV bs)) (hn:bs.length=n) (hc:n≤cap) (hm:n≤10000000000):
  CallH Tryz.prog 113 [.pointer (some ⟨b,0,none⟩),.string (mkS p),.slice a n cap] H fun v H'=>Did Z H H' b mb v (appendF A p bs):=by
 by_cases hb:65536<n
 ·have hp:=put_any h hA p (bs.take 65537) a 65537 cap true (by rw[←strV_take];exact hr.take _) (by rw[List.length_take];omega) (by omega)
  rw[putR_append,append_cut A p bs (by omega)]at hp
  refine Vc.CallH.body Tryz.func113 Tryz.call113 rfl (by decide+kernel) rfl ?_
  ((conv=>whnf);repeat(any_goals((first|(refine BndH.nat 65537 rfl (by omega) ?_)|(refine hp.mono ?_;rintro v2 H2 hd;obtain rfl:=hd.code)|refine Vc.stp ?_|refine Vc.spl ?_ ?_)<;>(intros;(conv=>whnf)))))
  exact hd
 ·have hp:=put_any h hA p bs a n cap true hr hn hm
  rw[putR_append]at hp
  refine Vc.CallH.body Tryz.func113 Tryz.call113 rfl (by decide+kernel) rfl ?_
  ((conv=>whnf);repeat(any_goals((first|(refine hp.mono ?_;rintro v2 H2 hd;obtain rfl:=hd.code)|refine Vc.stp ?_|refine Vc.spl ?_ ?_)<;>(intros;(conv=>whnf)))))
  exact hd
theorem exists_any {b mb:Nat} {A:Tr} {H:Heap} (h:TreeO Z H b mb A) (p:Bs):CallH Tryz.prog 21 [.pointer (some ⟨b,0,none⟩),.string (mkS p)] H fun v H'=>v= .bool (existsF A p)∧Ext H H':=by
 have hcl:=fun H=>clean_any p H
 have hat:=fun H' (k:Ext H H')=>at_any (h.ext k) (cleanF p).1
 unfold existsF
 by_cases h0:(cleanF p).2=0
 ·rw[h0]at hcl ⊢
  cases hn:nodeAt A (cleanF p).1 with
  |none=>
   rw[hn]at hat
   have e:((cleanF p).1== [] || (mget A (cleanF p).1).isSome)=false:=by
    unfold nodeAt at hn
    split at hn
    ·cases hn
    ·rename_i hne;rw[hn];simpa using hne
   rw[e]
   refine Vc.CallH.body Tryz.func21 Tryz.call21 rfl (by decide+kernel) rfl ?_
   ((conv=>whnf);repeat(any_goals((first|(refine(hcl _).mono ?_;rintro _ H1 ⟨rfl,hx1⟩;have hz1:=hx1.size)|(refine(hat _ (by exact Vc.xt)).mono ?_;rintro v2 H2 ⟨hv2,hx2⟩;have hz2:=hx2.size;obtain rfl:=hv2)|refine Vc.stp ?_|refine Vc.spl ?_ ?_)<;>(intros;(conv=>whnf)))))
   exact⟨rfl,by exact Vc.xt⟩
  |some n=>
   rw[hn]at hat
   have e:((cleanF p).1== [] || (mget A (cleanF p).1).isSome)=true:=by
    unfold nodeAt at hn
    split at hn
    ·rename_i h;simp[h]
    ·rw[hn];simp
   rw[e]
   refine Vc.CallH.body Tryz.func21 Tryz.call21 rfl (by decide+kernel) rfl ?_
   ((conv=>whnf);repeat(any_goals((first|(refine(hcl _).mono ?_;rintro _ H1 ⟨rfl,hx1⟩;have hz1:=hx1.size)|(refine(hat _ (by exact Vc.xt)).mono ?_;rintro v2 H2 ⟨hv2,hx2⟩;have hz2:=hx2.size;obtain⟨g2,a2,c2,rfl,hb2,hr2⟩:=NodeO.out hv2;try dsimp only at hb2 hr2)|refine Vc.stp ?_|refine Vc.spl ?_ ?_)<;>(intros;(conv=>whnf)))))
   exact⟨rfl,by exact Vc.xt⟩
 ·have e:((cleanF p).2==0)=false:=by simpa using h0
  rw[e,Bool.false_and]
  have h0': ¬((cleanF p).2:Int)=0:=by omega
  generalize cleanF p=c at*
  refine Vc.CallH.body Tryz.func21 Tryz.call21 rfl (by decide+kernel) rfl ?_
  ((conv=>whnf);repeat(any_goals((first|(refine(hcl _).mono ?_;rintro _ H1 ⟨rfl,hx1⟩;have hz1:=hx1.size)|refine Vc.stp ?_|refine Vc.spl ?_ ?_)<;>(intros;(conv=>whnf)))))
  exact⟨rfl,hx1⟩
theorem read_any {b mb:Nat} {A:Tr} {H:Heap} (h:TreeO Z H b mb A) (hA:Okay A) (p:Bs):CallH Tryz.prog 19 [.pointer (some ⟨b,0,none⟩),.string (mkS p)] H fun v H'=>
  (∃ a cap,v= .tuple #[.slice a (readF A p).1.length cap,.int .i64 (readF A p).2]∧Own H' H.size 5 1 a (readF A p).1.length cap (strV (readF A p).1))∧Ext H H':=by
 have hcl:=fun H=>clean_any p H
 obtain⟨hcode,hcn⟩:=clean_code p
 unfold readF
 by_cases h0: ¬(cleanF p).2=0
 ·rw[if_neg h0]
  have h0': ¬((cleanF p).2:Int)=0:=by omega
  generalize cleanF p=c at*
  refine Vc.CallH.body Tryz.func19 Tryz.call19 rfl (by decide+kernel) rfl ?_
  ((conv=>whnf);repeat(any_goals((first|(refine(hcl _).mono ?_;rintro _ H1 ⟨rfl,hx1⟩;have hz1:=hx1.size)|refine Vc.stp ?_|refine Vc.spl ?_ ?_)<;>(intros;(conv=>whnf)))))
  exact⟨⟨none,0,rfl,Own.nil _ _ _ _⟩,hx1⟩
 have h0:(cleanF p).2=0:=by omega
 rw[if_pos h0]
 have hq:=clean_of h0
 obtain⟨q,hqe⟩: ∃ q,(cleanF p).1=q:=⟨_,rfl⟩
 rw[h0,hqe]at hcl
 rw[hqe]at hq ⊢
 have hat:=fun H' (k:Ext H H')=>at_any (h.ext k) q
 by_cases hd:dirF A q=true
 ·obtain⟨t,ht⟩:=(dir_node A q).1 hd
  rw[ht]at hat
  rw[if_pos (.inl hd)]
  refine Vc.CallH.body Tryz.func19 Tryz.call19 rfl (by decide+kernel) rfl ?_
  ((conv=>whnf);repeat(any_goals((first|(refine(hcl _).mono ?_;rintro _ H1 ⟨rfl,hx1⟩;have hz1:=hx1.size)|(refine(hat _ (by exact Vc.xt)).mono ?_;rintro v2 H2 ⟨hv2,hx2⟩;have hz2:=hx2.size;obtain⟨g2,a2,c2,rfl,hb2,hr2⟩:=NodeO.out hv2;try dsimp only at hb2 hr2)|refine Vc.stp ?_|refine Vc.spl ?_ ?_)<;>(intros;(conv=>whnf)))))
  exact⟨⟨none,0,rfl,Own.nil _ _ _ _⟩,by exact Vc.xt⟩
 have hqn:q≠ []:=by rintro rfl;exact hd rfl
 have hah:=fun H' (k:Ext H H')=>ahead_any (h.ext k) hq
 unfold AheadV at hah
 cases hg:mget A q with
 |none=>
  rw[node_none hg hqn]at hat
  by_cases hf:fileF A q=true
  ·simp only[if_pos hf]at hah
   rw[if_pos (.inr hf)]
   refine Vc.CallH.body Tryz.func19 Tryz.call19 rfl (by decide+kernel) rfl ?_
   ((conv=>whnf);repeat(any_goals((first|(refine(hcl _).mono ?_;rintro _ H1 ⟨rfl,hx1⟩;have hz1:=hx1.size)|(refine(hat _ (by exact Vc.xt)).mono ?_;rintro v2 H2 ⟨hv2,hx2⟩;have hz2:=hx2.size;obtain rfl:=hv2)|(refine(hah _ (by exact Vc.xt)).mono ?_;rintro _ H3 ⟨rfl,hx3⟩;have hz3:=hx3.size)|refine Vc.stp ?_|refine Vc.spl ?_ ?_)<;>(intros;(conv=>whnf)))))
   exact⟨⟨none,0,rfl,Own.nil _ _ _ _⟩,by exact Vc.xt⟩
  ·simp only[if_neg hf]at hah
   rw[if_neg (by rw[not_or];exact⟨hd,hf⟩)]
   refine Vc.CallH.body Tryz.func19 Tryz.call19 rfl (by decide+kernel) rfl ?_
   ((conv=>whnf);repeat(any_goals((first|(refine(hcl _).mono ?_;rintro _ H1 ⟨rfl,hx1⟩;have hz1:=hx1.size)|(refine(hat _ (by exact Vc.xt)).mono ?_;rintro v2 H2 ⟨hv2,hx2⟩;have hz2:=hx2.size;obtain rfl:=hv2)|(refine(hah _ (by exact Vc.xt)).mono ?_;rintro _ H3 ⟨⟨a3,c3,rfl,ho3⟩,hx3⟩;have hz3:=hx3.size)|refine Vc.stp ?_|refine Vc.spl ?_ ?_)<;>(intros;(conv=>whnf)))))
   exact⟨⟨none,0,rfl,Own.nil _ _ _ _⟩,by exact Vc.xt⟩
 |some nd=>
  obtain⟨dir,old⟩:=nd
  have hdir:dir=false:=by
   cases dir with
   |false=>rfl
   |true=>exact absurd ((dir_node A q).2 ⟨old,node_some hg hqn⟩) hd
  subst hdir
  rw[node_some hg hqn]at hat
  obtain⟨hl0,hf0⟩:=lack_nil hA hg
  have hf: ¬fileF A q=true:=by rw[hf0];simp
  simp only[if_neg hf]at hah
  have hol:=(hA.file q _ hg).1
  dsimp only at hol
  rw[if_neg (by rw[not_or];exact⟨hd,hf⟩)]
  dsimp only
  refine Vc.CallH.body Tryz.func19 Tryz.call19 rfl (by decide+kernel) rfl ?_
  ((conv=>whnf);repeat(any_goals((first|(refine(hcl _).mono ?_;rintro _ H1 ⟨rfl,hx1⟩;have hz1:=hx1.size)|(refine(hat _ (by exact Vc.xt)).mono ?_;rintro v2 H2 ⟨hv2,hx2⟩;have hz2:=hx2.size;obtain⟨g2,a2,c2,rfl,hb2,hr2⟩:=NodeO.out hv2;try dsimp only at hb2 hr2)|(refine(hah _ (by exact Vc.xt)).mono ?_;rintro _ H3 ⟨⟨a3,c3,rfl,ho3⟩,hx3⟩;have hz3:=hx3.size)|(refine(clone_any old _ _ _ _ (hr2.ext (by exact Vc.xt)) rfl (by omega)).mono ?_;rintro _ H4 ⟨⟨a4,c4,rfl,ho4⟩,hx4⟩;have hz4:=hx4.size)|refine Vc.stp ?_|refine Vc.spl ?_ ?_)<;>(intros;(conv=>whnf)))))
  exact⟨⟨a4,c4,rfl,ho4.base (by omega)⟩,by exact Vc.xt⟩
end Go.Proofs.YtphkaogbcfdllaaGreatDoor
namespace Go.Proofs
open Go.Shelf
def Tryz.lays190_ren:Go.Shelf.Ren:=⟨fun|190=>207|125=>135|258=>244|128=>190|129=>191|302=>262|303=>263|304=>264|305=>265|306=>266|307=>267|308=>268|309=>269|310=>270|333=>281|329=>223|330=>224|334=>282|335=>283|336=>136|344=>290|n=>n,fun|31=>38|9=>9|3=>3|46=>226|0=>0|51=>234|53=>187|4=>4|183=>283|182=>282|131=>190|5=>5|218=>330|222=>334|228=>357|229=>157|n=>n,fun|n=>n⟩
theorem Tryz.lays190:Go.Proofs.Lays.n190 Tryz.prog Tryz.lays190_ren:={
 mixed:=by kernel_rfl
 f125:=Tryz.func135.trans (congrArg some (by kernel_rfl))
 f128:=Tryz.func190.trans (congrArg some (by kernel_rfl))
 f129:=Tryz.func191.trans (congrArg some (by kernel_rfl))
 f190:=Tryz.func207.trans (congrArg some (by kernel_rfl))
 f258:=Tryz.func244.trans (congrArg some (by kernel_rfl))
 f302:=Tryz.func262.trans (congrArg some (by kernel_rfl))
 f303:=Tryz.func263.trans (congrArg some (by kernel_rfl))
 f304:=Tryz.func264.trans (congrArg some (by kernel_rfl))
 f305:=Tryz.func265.trans (congrArg some (by kernel_rfl))
 f306:=Tryz.func266.trans (congrArg some (by kernel_rfl))
 f307:=Tryz.func267.trans (congrArg some (by kernel_rfl))
 f308:=Tryz.func268.trans (congrArg some (by kernel_rfl))
 f309:=Tryz.func269.trans (congrArg some (by kernel_rfl))
 f310:=Tryz.func270.trans (congrArg some (by kernel_rfl))
 f329:=Tryz.func223.trans (congrArg some (by kernel_rfl))
 f330:=Tryz.func224.trans (congrArg some (by kernel_rfl))
 f333:=Tryz.func281.trans (congrArg some (by kernel_rfl))
 f334:=Tryz.func282.trans (congrArg some (by kernel_rfl))
 f335:=Tryz.func283.trans (congrArg some (by kernel_rfl))
 f336:=Tryz.func136.trans (congrArg some (by kernel_rfl))
 f344:=Tryz.func290.trans (congrArg some (by kernel_rfl))
 t0:=Tryz.underlying0
 a0:=Tryz.isAgg0
 z0:=Tryz.sizeOf0
 v0:=Tryz.zeroValue0
 t3:=Tryz.underlying3
 a3:=Tryz.isAgg3
 z3:=Tryz.sizeOf3
 v3:=Tryz.zeroValue3
 t4:=Tryz.underlying4
 a4:=Tryz.isAgg4
 z4:=Tryz.sizeOf4
 v4:=Tryz.zeroValue4
 t5:=Tryz.underlying5
 a5:=Tryz.isAgg5
 z5:=Tryz.sizeOf5
 v5:=Tryz.zeroValue5
 t9:=Tryz.underlying9
 a9:=Tryz.isAgg9
 z9:=Tryz.sizeOf9
 v9:=Tryz.zeroValue9
 t31:=Tryz.underlying38
 a31:=Tryz.isAgg38
 z31:=Tryz.sizeOf38
 v31:=Tryz.zeroValue38
 t46:=Tryz.underlying226
 a46:=Tryz.isAgg226
 z46:=Tryz.sizeOf226
 v46:=Tryz.zeroValue226
 t51:=Tryz.underlying234
 a51:=Tryz.isAgg234
 z51:=Tryz.sizeOf234
 v51:=Tryz.zeroValue234
 t53:=Tryz.underlying187
 a53:=Tryz.isAgg187
 z53:=Tryz.sizeOf187
 v53:=Tryz.zeroValue187
 t131:=Tryz.underlying190
 a131:=Tryz.isAgg190
 z131:=Tryz.sizeOf190
 v131:=Tryz.zeroValue190
 t182:=Tryz.underlying282
 a182:=Tryz.isAgg282
 z182:=Tryz.sizeOf282
 v182:=Tryz.zeroValue282
 t183:=Tryz.underlying283
 a183:=Tryz.isAgg283
 z183:=Tryz.sizeOf283
 v183:=Tryz.zeroValue283
 t218:=Tryz.underlying330
 a218:=Tryz.isAgg330
 z218:=Tryz.sizeOf330
 v218:=Tryz.zeroValue330
 t222:=Tryz.underlying334
 a222:=Tryz.isAgg334
 z222:=Tryz.sizeOf334
 v222:=Tryz.zeroValue334
 t228:=Tryz.underlying357
 a228:=Tryz.isAgg357
 z228:=Tryz.sizeOf357
 v228:=Tryz.zeroValue357
 t229:=Tryz.underlying157
 a229:=Tryz.isAgg157
 z229:=Tryz.sizeOf157
 v229:=Tryz.zeroValue157}
open Go.Sort Go.RowKit in
theorem Tryz.slices_Sort_string (blk off cap:Nat) (ss:List (List UInt8)) (w:World) (hH:Holds encStr w blk off ss.toArray) (hblk:blk<w.heap.size) (hsz:ss.length<4611686018427387904):
  Calls Tryz.prog 207 #[.slice (some ⟨blk,off,none⟩) ss.length cap] w fun e w'=>
   e= .returned (.tuple #[])∧ ∃ n os,w'=grow (putRow encStr (Sort.ahead w n) blk off (ss.mergeSort fun x y=>decide (x≤y)).toArray) os:=Any.slices_Sort_string Tryz.lays190 blk off cap ss w hH hblk hsz
end Go.Proofs
namespace Go.Vc
theorem own_holds {w:World} {base g n cap k:Nat} {e:TypeId} {xs:List Value} (h:Own w.heap base e k (some ⟨g,0,none⟩) n cap xs):Go.Sort.Holds id w g 0 xs.toArray:=by
 intro j hj
 have hj':j<xs.length:=by simpa using hj
 have hlen:=h.len
 rcases h.out with ⟨h1,_⟩|⟨g',cur,h1,hb,hg,hnc,hmc,hcs,htake⟩
 ·cases h1
 ·cases h1
  obtain⟨fr,hg1,hg2⟩:=hg.out
  have hjc:j<cur.size:=by rw[hcs];have:=Nat.mul_le_mul_right k hnc;omega
  have hget:cur[j]? =some xs[j]:=by
   have:=congrArg (·[j]?) htake
   simp only[List.getElem?_take,if_pos (show j<n*k by omega),Array.getElem?_toList]at this
   rw[this,List.getElem?_eq_getElem hj']
  have hid:xs.toArray[j]! =xs[j]:=by simp[hj']
  rw[Nat.zero_add]
  constructor
  ·rw[hid];simp[World.cell?,hg1,hget]
  ·obtain⟨lo,hi⟩:=fr
   simp only[World.frozen?,hg1]
   rcases hg2 with h2|h2
   ·simp only[Bool.and_eq_false_iff,decide_eq_false_iff_not];dsimp only at h2 ⊢;omega
   ·simp only[Bool.and_eq_false_iff,decide_eq_false_iff_not];dsimp only at h2 ⊢;omega
theorem put_cells (ys:List Value) (cur:Array Value) (j:Nat):(Go.Sort.putCells id 0 ys.toArray cur)[j]? =if j<cur.size then(if j<ys.length then ys[j]? else cur[j]?)else none:=by
 unfold Go.Sort.putCells
 rw[Array.getElem?_mapIdx]
 by_cases hj:j<cur.size
 ·rw[if_pos hj,Array.getElem?_eq_getElem hj,Option.map_some]
  by_cases h2:j<ys.length
  ·rw[if_pos ⟨Nat.zero_le _,by simpa using h2⟩,if_pos h2,List.getElem?_eq_getElem h2];simp[h2]
  ·rw[if_neg (by simp;omega),if_neg h2]
 ·rw[if_neg hj,Array.getElem?_eq_none (by omega)];rfl
theorem own_put {w:World} {base g n cap k:Nat} {e:TypeId} {xs ys:List Value} (h:Own w.heap base e k (some ⟨g,0,none⟩) n cap xs) (hl:ys.length=xs.length) (m:Nat) (os:Array Obj):
  Own (Go.Sort.grow (Go.Sort.putRow id (Go.Sort.ahead w m) g 0 ys.toArray) os).heap base e k (some ⟨g,0,none⟩) n cap ys∧Wr (some ⟨g,0,none⟩) w.heap (Go.Sort.grow (Go.Sort.putRow id (Go.Sort.ahead w m) g 0 ys.toArray) os).heap:=by
 have hlen:=h.len
 obtain⟨W,hW⟩: ∃ W:Heap,(Go.Sort.grow (Go.Sort.putRow id (Go.Sort.ahead w m) g 0 ys.toArray) os).heap=W:=⟨_,rfl⟩
 have hWd:W=w.heap.modify g (Go.Sort.onCells (Go.Sort.putCells id 0 ys.toArray))++os:=hW.symm
 rw[hW]
 have hsz:w.heap.size≤W.size:=by rw[hWd];simp
 have hsame: ∀ b,b<w.heap.size→W[b]? =if g=b then(w.heap[b]?).map (Go.Sort.onCells (Go.Sort.putCells id 0 ys.toArray))else w.heap[b]? :=fun b hb=>by
  rw[hWd,Array.getElem?_append_left (by simpa using hb),Array.getElem?_modify]
 rcases h.out with ⟨h1,_⟩|⟨g',cur,h1,hb,hg,hnc,hmc,hcs,htake⟩
 ·cases h1
 ·cases h1
  obtain⟨fr,hg1,hg2⟩:=hg.out
  have hlt:=hg.lt
  refine⟨⟨by rw[hl];exact hlen,.inr ⟨g,Go.Sort.putCells id 0 ys.toArray cur,rfl,hb,⟨fr,?_,?_⟩,hnc,hmc,?_,?_⟩⟩,hsz,fun b hb hF=> ?_⟩
  ·rw[hsame g hlt,if_pos rfl,hg1];rfl
  ·have:(Go.Sort.putCells id 0 ys.toArray cur).size=cur.size:=by simp[Go.Sort.putCells]
   rw[this];exact hg2
  ·have:(Go.Sort.putCells id 0 ys.toArray cur).size=cur.size:=by simp[Go.Sort.putCells]
   rw[this];exact hcs
  ·apply List.ext_getElem?
   intro j
   rw[List.getElem?_take,Array.getElem?_toList,put_cells]
   have hnk:=Nat.mul_le_mul_right k hnc
   by_cases hj:j<n*k
   ·rw[if_pos hj,if_pos (by omega),if_pos (by omega)]
   ·rw[if_neg hj,List.getElem?_eq_none (by omega)]
  ·rw[hsame b hb,if_neg fun e=>hF ⟨_,rfl,e⟩]
end Go.Vc
namespace Go.Proofs.YtphkaogbcfdllaaGreatDoor
open Go Go.Vc Go.Scr
theorem put_map {α:Type} [Inhabited α] (enc:α→Value) (w:World) (g:Nat) (d:List α):Go.Sort.putRow enc w g 0 d.toArray=Go.Sort.putRow id w g 0 (d.map enc).toArray:=by
 unfold Go.Sort.putRow
 refine Go.Sort.mapBlock_congr w g _ _ fun c _ _ _=> ?_
 unfold Go.Sort.putCells
 congr 1
 funext k x
 by_cases h:k<d.length
 ·rw[if_pos (by simpa using h),if_pos (by simpa using h)];simp[h]
 ·rw[if_neg (by simpa using h),if_neg (by simpa using h)]
theorem holds_map {α:Type} [Inhabited α] (enc:α→Value) (w:World) (g:Nat) (d:List α) (h:Go.Sort.Holds id w g 0 (d.map enc).toArray):Go.Sort.Holds enc w g 0 d.toArray:=by
 intro j hj
 have hj':j<d.length:=by simpa using hj
 have:=h j (by simpa using hj')
 have e:enc d.toArray[j]! =id (d.map enc).toArray[j]! :=by simp[hj']
 rw[e];exact this
theorem sort_any (l:List Bs) (g n cap base:Nat) (H:Heap) (ho:Own H base 9 1 (some ⟨g,0,none⟩) n cap (strs l)) (hn:l.length=n) (hm:n≤1000000000):
  CallH Tryz.prog 207 [.slice (some ⟨g,0,none⟩) n cap] H fun v H'=>v= .tuple #[]∧(∃ l':List Bs,l'.Perm l∧Own H' base 9 1 (some ⟨g,0,none⟩) n cap (strs l'))∧Wr (some ⟨g,0,none⟩) H H':=by
 subst hn
 refine CallH.calls Tryz.call207 fun w hw=> ?_
 subst hw
 have hb:=(ho.block _ rfl).2
 have hs:strs l=l.map Go.Proofs.encStr:=rfl
 refine Calls.mono (Tryz.slices_Sort_string g 0 cap l w (holds_map _ w g l (own_holds (hs▸ho))) hb (by omega)) ?_
 rintro e w' ⟨h1,m,os,rfl⟩
 have hp:=List.mergeSort_perm l (fun x y=>decide (x≤y))
 obtain⟨g1,g2⟩:=own_put (ys:=strs (l.mergeSort fun x y=>decide (x≤y))) ho (by simp[strs,hp.length_eq]) m os
 rw[put_map Go.Proofs.encStr]
 exact⟨_,h1,⟨rfl,rfl,rfl⟩,rfl,⟨_,hp,g1⟩,g2⟩
end Go.Proofs.YtphkaogbcfdllaaGreatDoor
namespace Go.Tre
open Go.Pth Go.Scr
open Go.Vc (mget mput mdel mget_put mget_mem mget_of_mem mget_none)
theorem makeF_rev1 {A:Tr} (h:Sorted A) (l:List Txt) (p:Txt):makeF A (l.reverse++[p])=makeF A (l++[p]):=makeF_same h fun x=>by simp
def dropT (A:Tr) (l:List Txt):Tr:=A.filter fun x=> !(l.any fun k=>k==x.1)
theorem dropT_nil (A:Tr):dropT A []=A:=by simp[dropT]
theorem dropT_snoc (A:Tr) (l:List Txt) (k:Txt):(dropT A l).filter (fun x=> !(x.1==k))=dropT A (l++[k]):=by
 unfold dropT
 rw[List.filter_filter]
 congr 1;funext x
 rw[List.any_append,Bool.not_or,List.any_cons,List.any_nil,Bool.or_false]
 have:(x.1==k)=(k==x.1):=by rw[Bool.eq_iff_iff,beq_iff_eq,beq_iff_eq];exact eq_comm
 rw[this,Bool.and_comm]
theorem mget_dropT (A:Tr) (l:List Txt) (k:Txt):mget (dropT A l) k=if k∈l then none else mget A k:=by
 unfold dropT
 rw[mget_filter (fun x=> !(l.any fun k=>k==x))]
 by_cases h:k∈l
 ·rw[if_pos h,if_neg]
  simp;exact h
 ·rw[if_neg h,if_pos]
  simp;exact fun x hx e=>h (e▸hx)
theorem dropT_sorted {A:Tr} (h:Sorted A) (l:List Txt):Sorted (dropT A l):=List.Pairwise.sublist List.filter_sublist h
theorem del_size {A:Tr} (h:Sorted A) (k:Txt):sizeT (A.filter fun x=> !(x.1==k))+oldF A k=sizeT A:=by
 induction A with
 |nil=>simp[sizeT,oldF,mget]
 |cons x l ih=>
  have ih:=ih (List.pairwise_cons.1 h).2
  have e1: ∀ (y:Txt×Node) (m:Tr),sizeT (y::m)=y.2.2.length+sizeT m:=fun y m=>by simp[sizeT]
  rw[List.filter_cons]
  by_cases hx:x.1=k
  ·rw[if_neg (by simp[hx]),e1]
   have e2:oldF (x::l) k=x.2.2.length:=by unfold oldF;simp only[mget];rw[if_pos hx.symm]
   have e3:l.filter (fun x=> !(x.1==k))=l:=by
    rw[List.filter_eq_self]
    intro y hy
    have:=lt_ne ((List.pairwise_cons.1 h).1 y hy)
    rw[hx]at this
    simp;exact fun e=>this e.symm
   rw[e2,e3];omega
  ·rw[if_pos (by simpa using hx),e1,e1]
   have e2:oldF (x::l) k=oldF l k:=by unfold oldF;simp only[mget];rw[if_neg (fun e=>hx e.symm)]
   rw[e2];omega
theorem drop_all {A:Tr} {l:List Txt} {p:Txt} (h: ∀ k,k∈l↔k∈A.map (·.1)∧withinF k p=true):dropT A l=A.filter fun x=> !withinF x.1 p:=by
 unfold dropT
 refine List.filter_congr fun x hx=> ?_
 congr 1
 rw[Bool.eq_iff_iff,List.any_eq_true]
 constructor
 ·rintro⟨k,hk,e⟩
  rw[beq_iff_eq]at e;subst e
  exact((h _).1 hk).2
 ·intro hw
  exact⟨x.1,(h _).2 ⟨List.mem_map_of_mem hx,hw⟩,by simp⟩
end Go.Tre
namespace Go.Proofs.YtphkaogbcfdllaaGreatDoor
open Go Go.Vc Go.Scr Go.Pth Go.Tre
variable {Z:Nat→Prop}
theorem mkdir_any {b mb:Nat} {A:Tr} {H:Heap} (h:TreeO Z H b mb A) (hA:Okay A) (p:Bs):CallH Tryz.prog 73 [.pointer (some ⟨b,0,none⟩),.string (mkS p)] H fun v H'=>Did Z H H' b mb v (mkdirF A p):=by
 have hcl:=fun H=>clean_any p H
 have hmb:=h.map.ne h.blk
 obtain⟨hcode,hcn⟩:=clean_code p
 unfold mkdirF
 by_cases h0: ¬(cleanF p).2=0
 ·rw[if_neg h0]
  have h0': ¬((cleanF p).2:Int)=0:=by omega
  generalize cleanF p=c at*
  refine Vc.CallH.body Tryz.func73 Tryz.call73 rfl (by decide+kernel) rfl ?_
  ((conv=>whnf);repeat(any_goals((first|(refine(hcl _).mono ?_;rintro _ H1 ⟨rfl,hx1⟩;have hz1:=hx1.size)|refine Vc.stp ?_|refine Vc.spl ?_ ?_)<;>(intros;(conv=>whnf)))))
  exact Did.none h hx1 _
 have h0:(cleanF p).2=0:=by omega
 rw[if_pos h0]
 have hq:=clean_of h0
 obtain⟨q,hqe⟩: ∃ q,(cleanF p).1=q:=⟨_,rfl⟩
 rw[h0,hqe]at hcl
 rw[hqe]at hq ⊢
 have hat:=fun H' (k:Ext H H')=>at_any (h.ext k) q
 unfold mkdirP
 by_cases hd:dirF A q=true
 ·obtain⟨t,ht⟩:=(dir_node A q).1 hd
  rw[ht]at hat
  rw[if_pos hd]
  refine Vc.CallH.body Tryz.func73 Tryz.call73 rfl (by decide+kernel) rfl ?_
  ((conv=>whnf);repeat(any_goals((first|(refine(hcl _).mono ?_;rintro _ H1 ⟨rfl,hx1⟩;have hz1:=hx1.size)|(refine(hat _ (by exact Vc.xt)).mono ?_;rintro v2 H2 ⟨hv2,hx2⟩;have hz2:=hx2.size;obtain⟨g2,a2,c2,rfl,hb2,hr2⟩:=NodeO.out hv2;try dsimp only at hb2 hr2)|refine Vc.stp ?_|refine Vc.spl ?_ ?_)<;>(intros;(conv=>whnf)))))
  exact Did.none h (by exact Vc.xt) _
 rw[if_neg hd]
 have hqn:q≠ []:=by rintro rfl;exact hd rfl
 have hah:=fun H' (k:Ext H H')=>ahead_any (h.ext k) hq
 unfold AheadV at hah
 cases hg:mget A q with
 |some nd=>
  obtain⟨dir,old⟩:=nd
  have hdir:dir=false:=by
   cases dir with
   |false=>rfl
   |true=>exact absurd ((dir_node A q).2 ⟨old,node_some hg hqn⟩) hd
  subst hdir
  rw[node_some hg hqn]at hat
  rw[if_pos (.inl rfl)]
  refine Vc.CallH.body Tryz.func73 Tryz.call73 rfl (by decide+kernel) rfl ?_
  ((conv=>whnf);repeat(any_goals((first|(refine(hcl _).mono ?_;rintro _ H1 ⟨rfl,hx1⟩;have hz1:=hx1.size)|(refine(hat _ (by exact Vc.xt)).mono ?_;rintro v2 H2 ⟨hv2,hx2⟩;have hz2:=hx2.size;obtain⟨g2,a2,c2,rfl,hb2,hr2⟩:=NodeO.out hv2;try dsimp only at hb2 hr2)|refine Vc.stp ?_|refine Vc.spl ?_ ?_)<;>(intros;(conv=>whnf)))))
  exact Did.none h (by exact Vc.xt) _
 |none=>
  rw[node_none hg hqn]at hat
  by_cases hf:fileF A q=true
  ·simp only[if_pos hf]at hah
   rw[if_pos (.inr hf)]
   refine Vc.CallH.body Tryz.func73 Tryz.call73 rfl (by decide+kernel) rfl ?_
   ((conv=>whnf);repeat(any_goals((first|(refine(hcl _).mono ?_;rintro _ H1 ⟨rfl,hx1⟩;have hz1:=hx1.size)|(refine(hat _ (by exact Vc.xt)).mono ?_;rintro v2 H2 ⟨hv2,hx2⟩;have hz2:=hx2.size;obtain rfl:=hv2)|(refine(hah _ (by exact Vc.xt)).mono ?_;rintro _ H3 ⟨rfl,hx3⟩;have hz3:=hx3.size)|refine Vc.stp ?_|refine Vc.spl ?_ ?_)<;>(intros;(conv=>whnf)))))
   exact Did.none h (by exact Vc.xt) _
  simp only[if_neg hf]at hah
  rw[if_neg (by rw[not_or];exact⟨by simp,hf⟩)]
  have hlk:(lackF A q).length≤12:=by
   have h1:(lackF A q).length≤(pars q).length:=List.length_filter_le _ _
   have h2:=hq.parts.deep
   rw[pars_len]at h1;omega
  have hAc:=hA.count
  have hAs:=hA.size
  have hroom:=fun H' (k:Ext H H')=>room_any (h.ext k) hA.sorted (by omega) (by omega) ((lackF A q).length+1) 0 (by omega) (by omega)
  rw[show(((lackF A q).length+1:Nat):Int)=((lackF A q).length:Int)+1 by omega]at hroom
  by_cases hrm:(lackF A q).length+1+A.length≤500
  ·rw[decide_eq_true ⟨hrm,by omega⟩]at hroom
   rw[if_neg (by omega)]
   refine Vc.CallH.body Tryz.func73 Tryz.call73 rfl (by decide+kernel) rfl ?_
   ((conv=>whnf);repeat(any_goals((first|(refine(hcl _).mono ?_;rintro _ H1 ⟨rfl,hx1⟩;have hz1:=hx1.size)|(refine(hat _ (by exact Vc.xt)).mono ?_;rintro v2 H2 ⟨hv2,hx2⟩;have hz2:=hx2.size;obtain rfl:=hv2)|(refine(hah _ (by exact Vc.xt)).mono ?_;rintro _ H3 ⟨⟨a3,c3,rfl,ho3⟩,hx3⟩;have hz3:=hx3.size)|(refine(hroom _ (by exact Vc.xt)).mono ?_;rintro _ _ ⟨rfl,rfl⟩)|(refine NextH.push1b (by assumption) (ho3.ext (by assumption)) (by omega) (by omega) rfl ⟨_,rfl,fun _ h=>by cases h⟩ rfl rfl rfl rfl rfl rfl rfl ?_;intro a6 c6 H6 ho6 hz6 hw6;have hx26:=(show Ext H2 H6 from(hx3.trans (by assumption)).wr (ho3.ext (by assumption)) (Nat.le_refl _) hw6))|(refine(make_any (h.blk.ext (by exact Vc.xt)) (h.map.ext (by exact Vc.xt)) ((lackF A q).reverse++[q]) a6 _ c6 (by(have:=ho6.row);rw[strs_append];exact this) (by simp) (by omega)).mono ?_;rintro _ H7 ⟨rfl,hm7,hx7⟩;have hz7:=hx7.size)|refine Vc.stp ?_|refine Vc.spl ?_ ?_)<;>(intros;(conv=>whnf)))))
   have hx06:=(show Ext H H6 by exact Vc.xt)
   rw[makeF_rev1 hA.sorted]at hm7
   have hsz:sizeT (makeF A (lackF A q++[q]))=sizeT A:=makeF_size hA.sorted fun d hd=>by
    rcases List.mem_append.1 hd with hd|hd
    ·exact(lack_none hd).2
    ·rw[List.mem_singleton]at hd;subst hd;exact hg
   exact⟨rfl,⟨hm7,by rw[hsz];exact(h.blk.ext hx06).but hx7 hmb.symm,fun x hx=>Nat.lt_of_lt_of_le (h.low x hx) (Nat.le_trans hx06.size hx7.size)⟩,hx06.only.trans hx7 fun _ _ e=> .inr e⟩
  ·rw[decide_eq_false (fun e=>hrm e.1)]at hroom
   rw[if_pos (by omega)]
   refine Vc.CallH.body Tryz.func73 Tryz.call73 rfl (by decide+kernel) rfl ?_
   ((conv=>whnf);repeat(any_goals((first|(refine(hcl _).mono ?_;rintro _ H1 ⟨rfl,hx1⟩;have hz1:=hx1.size)|(refine(hat _ (by exact Vc.xt)).mono ?_;rintro v2 H2 ⟨hv2,hx2⟩;have hz2:=hx2.size;obtain rfl:=hv2)|(refine(hah _ (by exact Vc.xt)).mono ?_;rintro _ H3 ⟨⟨a3,c3,rfl,ho3⟩,hx3⟩;have hz3:=hx3.size)|(refine(hroom _ (by exact Vc.xt)).mono ?_;rintro _ _ ⟨rfl,rfl⟩)|refine Vc.stp ?_|refine Vc.spl ?_ ?_)<;>(intros;(conv=>whnf)))))
   exact Did.none h (by exact Vc.xt) _
end Go.Proofs.YtphkaogbcfdllaaGreatDoor
namespace Go.Proofs.YtphkaogbcfdllaaGreatDoor
open Go Go.Vc Go.Scr Go.Pth Go.Tre
variable {Z:Nat→Prop}
theorem sort_own (l:List Bs) (a:Option Addr) (n cap base:Nat) (H:Heap) (ho:Own H base 9 1 a n cap (strs l)) (hn:l.length=n) (hne:l≠ []) (hm:n≤1000000000):
  CallH Tryz.prog 207 [.slice a n cap] H fun v H'=>v= .tuple #[]∧(∃ l':List Bs,l'.Perm l∧Own H' base 9 1 a n cap (strs l'))∧Wr a H H':=by
 rcases ho.out with ⟨_,h0,_⟩|⟨g,cur,rfl,_⟩
 ·exact absurd (List.eq_nil_of_length_eq_zero (by omega)) hne
 ·exact sort_any l g n cap base H ho hn hm
structure BlS where
 vis:List Bs
 a:Option Addr
 cap:Nat
theorem maps_keys {H:Heap} {A:Tr} {lm:List (Bs×Value)} (h2: ∀ k,mget A k=none→mget lm k=none) (h3: ∀ k n,mget A k=some n→ ∃ v,mget lm k=some v∧NodeO Z H v n) (k:Bs):k∈lm.map (·.1)↔k∈A.map (·.1):=by
 have e1:=mget_none (l:=lm) (k:=k)
 have e2:=mget_none (l:=A) (k:=k)
 constructor
 ·intro h
  apply Classical.byContradiction
  intro hn
  exact e1.1 (h2 k (e2.2 hn)) h
 ·intro h
  apply Classical.byContradiction
  intro hn
  cases hg:mget A k with
  |none=>exact e2.1 hg h
  |some n=>obtain⟨v,hv,_⟩:=h3 k n hg;rw[e1.2 hn]at hv;cases hv
structure BelowV (H':Heap) (base:Nat) (v:Value) (A:Tr) (p:Txt) (l:List Bs) (a:Option Addr) (cap:Nat):Prop where
 val:v= .slice a l.length cap
 own:Own H' base 9 1 a l.length cap (strs l)
 nodup:l.Nodup
 mem: ∀ k,k∈l↔k∈A.map (·.1)∧withinF k p=true
 len:l.length≤A.length
set_option maxHeartbeats 1000000 in
theorem below_any {b mb:Nat} {A:Tr} {H:Heap} (h:TreeO Z H b mb A) (hA:Okay A) (p:Bs) (hp:p.length≤100000000) (hne:mget A p≠none):CallH Tryz.prog 168 [.pointer (some ⟨b,0,none⟩),.string (mkS p)] H fun v H'=>(∃ l a cap,BelowV H' H.size v A p l a cap)∧Ext H H':=by
 have hb:=h.blk
 obtain⟨lm,hm,h2,h3⟩:=h.map.out
 have hkeys:=maps_keys h2 h3
 have hlen:=MapT.len hA.sorted.nodup hm h2 h3
 have hAc:=hA.count
 refine Vc.CallH.body Tryz.func168 Tryz.call168 rfl (by decide+kernel) rfl ?_
 ((conv=>whnf);repeat(any_goals((first|((with_reducible apply SemH.rangeMap hm);(focus(rfl));(focus((intro H1 z1 it1 x1;(conv=>whnf)))))|refine Vc.stp ?_|refine Vc.spl ?_ ?_)<;>(intros;(conv=>whnf)))))
 refine LoopH.intro (fun(x:BlS)=>[(5,.slice x.a (x.vis.filter fun k=>withinF k p).length x.cap)])
  (fun x H'=>IterO H' H.size mb lm x.vis∧Own H' H1.size 9 1 x.a (x.vis.filter fun k=>withinF k p).length x.cap (strs (x.vis.filter fun k=>withinF k p))∧Ext H H') (fun x=>lm.length-x.vis.length) ⟨[],none,0⟩ ⟨rfl,trivial⟩ ⟨it1,Own.nil _ _ _ _,x1⟩ ?_
 rintro⟨vis,a,cap⟩ H2 ⟨hit,ho2,hx2⟩
 dsimp only at hit ho2 ⊢
 have hz2:=hx2.size
 have hvl:=nodup_len hit.nodup hit.sub
 rw[List.length_map]at hvl
 have hfl:(vis.filter fun k=>withinF k p).length≤vis.length:=List.length_filter_le _ _
 have hpin:p∈A.map (·.1):=Classical.byContradiction fun hn=>hne (mget_none.2 hn)
 have hpw:withinF p p=true:=by unfold withinF;simp
 have hmem:(∀ k∈lm.map (·.1),k∈vis)→ ∀ k,k∈(vis.filter fun k=>withinF k p)↔k∈A.map (·.1)∧withinF k p=true:=fun hall k=>by
  rw[List.mem_filter]
  constructor
  ·rintro⟨h4,h5⟩;exact⟨(hkeys k).1 (hit.sub k h4),h5⟩
  ·rintro⟨h4,h5⟩;exact⟨hall k ((hkeys k).2 h4),h5⟩
 have hnil:(∀ k∈lm.map (·.1),k∈vis)→(vis.filter fun k=>withinF k p)≠ []:=fun hall e=>by
  have:=(hmem hall p).2 ⟨hpin,hpw⟩
  rw[e]at this;cases this
 have hfn:(vis.filter fun k=>withinF k p).Nodup:=List.Nodup.sublist List.filter_sublist hit.nodup
 have hkl: ∀ k∈lm.map (·.1),k.length≤200:=fun k hk=>by
  have hk:=(hkeys k).1 hk
  cases hg:mget A k with
  |none=>exact absurd hk (mget_none.1 hg)
  |some n=>
   obtain⟨⟨l,rfl,hl⟩,_⟩:=hA.clean k n hg
   exact hl.long
 have hout: ∀ l':List Bs,l'.Perm (vis.filter fun k=>withinF k p)→l'.length=(vis.filter fun k=>withinF k p).length:=fun l' hp=>hp.length_eq
 ((conv=>whnf);repeat(any_goals((first|((with_reducible refine SemH.nextMap hit ?_ ?_);rotate_left;intro k v H5 hkv hkn z5 hit5 hcur hx5;have hkk:k∈List.map (fun x=>x.1) lm:=List.mem_map.2 ⟨(k,v),hkv,rfl⟩;have hk2:=hkl k hkk;(conv=>whnf);rotate_left;intro hall;(conv=>whnf))|((with_reducible apply SemH.entryMap hcur);(focus((conv=>whnf))))|(refine(sort_own _ _ _ _ _ _ ho2 rfl (hnil hall) (by omega)).mono ?_;rintro _ H6 ⟨rfl,⟨l',hp',ho6⟩,hx6⟩;have hz6:=hx6.size)|(refine(within_any k p (by omega) (by omega) _).mono ?_;rintro _ _ ⟨rfl,rfl⟩)|refine Vc.stp ?_)<;>(intros;(conv=>whnf)))))
 ·refine⟨⟨l',a,cap,⟨?_,?_,hp'.nodup_iff.2 hfn,fun k=>hp'.mem_iff.trans (hmem hall k),?_⟩⟩,hx2.wr ho2 (by omega) hx6⟩
  ·rw[hout l' hp'];rfl
  ·rw[hout l' hp'];exact ho6.base (by omega)
  ·rw[hout l' hp'];omega
 ·have ho5:=ho2.keep hx5 fun p hp e=>ho2.low (b:=H.size) (by omega) ⟨p,hp,e⟩
  have hx05:Ext H H5:=hx2.but hx5 (Nat.le_refl _)
  cases hw:withinF k p with
  |false=>
   have e:((vis++[k]).filter fun k=>withinF k p)=vis.filter fun k=>withinF k p:=by
    rw[List.filter_append,List.filter_cons,if_neg (by rw[hw];simp),List.filter_nil,List.append_nil]
   ((conv=>whnf);repeat(any_goals((first|refine Vc.stp ?_|refine Vc.spl ?_ ?_)<;>(intros;(conv=>whnf)))))
   exact⟨⟨vis++[k],a,cap⟩,⟨by dsimp only;rw[e];rfl,trivial⟩,⟨hit5,by dsimp only;rw[e];exact ho5,hx05⟩,by have:=nodup_len hit5.nodup hit5.sub;rw[List.length_map,List.length_append,List.length_singleton]at this;show lm.length-(vis++[k]).length<_;rw[List.length_append,List.length_singleton];show _<lm.length-vis.length;omega⟩
  |true=>
   have e:((vis++[k]).filter fun k=>withinF k p)=(vis.filter fun k=>withinF k p)++[k]:=by
    rw[List.filter_append,List.filter_cons,if_pos hw,List.filter_nil]
   ((conv=>whnf);repeat(any_goals((first|(refine NextH.push1b (by assumption) (ho5.ext (by assumption)) (by omega) (by omega) rfl ⟨_,rfl,fun _ h=>by cases h⟩ rfl rfl rfl rfl rfl rfl rfl ?_;intro a6 c6 H6 ho6 hz6 hw6;have hit6:=(hit5.ext (by assumption)).wr (ho5.ext (by assumption)) hw6;have hx06:=(show Ext H H6 from(hx05.trans (by assumption)).wr (ho5.ext (by assumption)) (by omega) hw6))|refine Vc.stp ?_|refine Vc.spl ?_ ?_)<;>(intros;(conv=>whnf)))))
   exact⟨⟨vis++[k],a6,c6⟩,⟨by dsimp only;rw[e];exact sl_snocS _ _ _ _,trivial⟩,⟨hit6,by dsimp only;rw[e];exact own_snocS rfl ho6,hx06⟩,by have:=nodup_len hit5.nodup hit5.sub;rw[List.length_map,List.length_append,List.length_singleton]at this;show lm.length-(vis++[k]).length<_;rw[List.length_append,List.length_singleton];show _<lm.length-vis.length;omega⟩
theorem drop_any {b mb:Nat} {A:Tr} {H:Heap} (h:TreeO Z H b mb A) (hA:Sorted A) (hs:sizeT A≤100000000) (l:List Bs) (a:Option Addr) (n cap:Nat) (hr:Row H a (strs l)) (hn:l.length=n) (hn1:n≤1000000) (hnd:l.Nodup) (hin: ∀ k∈l,mget A k≠none):
  CallH Tryz.prog 167 [.pointer (some ⟨b,0,none⟩),.slice a n cap] H fun v H'=>v= .tuple #[]∧TreeO Z H' b mb (dropT A l)∧ButT b mb H H':=by
 refine Vc.CallH.body Tryz.func167 Tryz.call167 rfl (by decide+kernel) rfl ?_
 have hmb:=h.map.ne h.blk
 ((conv=>whnf);repeat(any_goals((first|refine Vc.stp ?_|refine Vc.spl ?_ ?_)<;>(intros;(conv=>whnf)))))
 refine LoopH.intro (fun(i:Nat)=>[(8,.int .i64 i)]) (fun i H'=>i≤n∧TreeO Z H' b mb (dropT A (l.take i))∧ButT b mb H H') (fun i=>n-i) 0 ⟨rfl,trivial⟩ ⟨Nat.zero_le _,by rw[List.take_zero,dropT_nil];exact h,Only.refl _ _⟩ ?_
 rintro i H2 ⟨hi,ht2,hx2⟩
 have hz2:=hx2.size
 have hb2:=ht2.blk
 have hm2:=ht2.map
 have hr2:=hr.texts hx2 fun x e _=>by
  rcases e with rfl|rfl
  ·exact h.oth.dumb
  ·exact h.map.oth.dumb
 by_cases hlt:i<n
 ·obtain⟨k,hk⟩: ∃ k,l[i]? =some k:=⟨_,List.getElem?_eq_getElem (by omega)⟩
  have hkl:k∈l:=List.mem_of_getElem? hk
  have hkn:k∉l.take i:=fun hm=>by
   have h1:=List.take_append_drop i l
   have h2:l.drop i=k::l.drop (i+1):=by
    rw[List.drop_eq_getElem_cons (by omega)]
    rw[List.getElem?_eq_getElem (by omega)]at hk
    rw[Option.some.inj hk]
   rw[h2]at h1
   rw[←h1,List.nodup_append]at hnd
   exact hnd.2.2 k hm k (by simp) rfl
  obtain⟨nd,hg⟩: ∃ nd,mget (dropT A (l.take i)) k=some nd:=by
   rw[mget_dropT,if_neg hkn]
   cases hg:mget A k with
   |none=>exact absurd hg (hin k hkl)
   |some nd=>exact⟨nd,rfl⟩
  have hsd:=del_size (dropT_sorted hA (l.take i)) k
  have hss:sizeT (dropT A (l.take i))≤100000000:=Nat.le_trans (filter_size _ _) hs
  rw[dropT_snoc]at hsd
  have hof:oldF (dropT A (l.take i)) k=nd.2.length:=by unfold oldF;rw[hg]
  have e1:l.take (i+1)=l.take i++[k]:=by rw[List.take_add_one,hk];rfl
  have e2:delT (dropT A (l.take i)) k=dropT A (l.take (i+1)):=by rw[e1,←dropT_snoc];rfl
  rw[←e1]at hsd
  ((conv=>whnf);repeat(any_goals((first|(refine IdxA.strv hr2 hn i k (by omega) hk ?_;intro _ _ _ _ _)|((with_reducible apply treeGet1 hm2 hg);(focus(rfl));(focus(rfl));(focus(rfl));(focus(rfl));(focus((intro g1 a1 c1 k1 k2;(conv=>whnf)))))|((with_reducible apply treeDel);(focus((exact hm2.keep (by assumption) hmb (fun x e _=>by subst e;exact .inl (oth_tree hb2)))));(focus(rfl));(focus(rfl));(focus((intro H5 z5 m5 x5;(conv=>whnf)))))|((with_reducible refine Vc.DrawH.held [0,1,2,3,4,5,6,7,8,9,10,11,12,13,14,15,16,17] [(9,[3])] mixed (by decide+kernel) ?_))|refine Vc.stp ?_|refine Vc.spl ?_ ?_)<;>(intros;(conv=>whnf)))))
  rename_i H4 z4 b4 x4
  rw[e2]at m5
  have b4':Blk H4 b #[.map (some mb),.int .i64 ((sizeT (dropT A (l.take i)):Int)-nd.2.length)] 133:=b4
  rw[show(sizeT (dropT A (l.take i)):Int)-nd.2.length=(sizeT (dropT A (l.take (i+1))):Nat)by omega]at b4'
  exact⟨i+1,⟨rfl,trivial⟩,⟨by omega,⟨m5,b4'.but x5 hmb.symm,fun x hx=>Nat.lt_of_lt_of_le (ht2.low x hx) (Nat.le_trans x4.size x5.size)⟩,(hx2.trans x4 fun _ _ e=> .inl e).trans x5 fun _ _ e=> .inr e⟩,by omega⟩
 ·obtain rfl:i=n:=by omega
  ((conv=>whnf);repeat(any_goals((first|refine Vc.stp ?_|refine Vc.spl ?_ ?_)<;>(intros;(conv=>whnf)))))
  refine⟨rfl,?_,hx2⟩
  rw[List.take_of_length_le (by omega)]at ht2;exact ht2
theorem remove_any {b mb:Nat} {A:Tr} {H:Heap} (h:TreeO Z H b mb A) (hA:Okay A) (p:Bs):CallH Tryz.prog 114 [.pointer (some ⟨b,0,none⟩),.string (mkS p)] H fun v H'=>Did Z H H' b mb v (removeF A p):=by
 have hcl:=fun H=>clean_any p H
 have hmb:=h.map.ne h.blk
 obtain⟨hcode,hcn⟩:=clean_code p
 unfold removeF
 by_cases h0: ¬(cleanF p).2=0
 ·rw[if_neg h0]
  have h0': ¬((cleanF p).2:Int)=0:=by omega
  generalize cleanF p=c at*
  refine Vc.CallH.body Tryz.func114 Tryz.call114 rfl (by decide+kernel) rfl ?_
  ((conv=>whnf);repeat(any_goals((first|(refine(hcl _).mono ?_;rintro _ H1 ⟨rfl,hx1⟩;have hz1:=hx1.size)|refine Vc.stp ?_|refine Vc.spl ?_ ?_)<;>(intros;(conv=>whnf)))))
  exact Did.none h hx1 _
 have h0:(cleanF p).2=0:=by omega
 rw[if_pos h0]
 have hq:=clean_of h0
 obtain⟨q,hqe⟩: ∃ q,(cleanF p).1=q:=⟨_,rfl⟩
 rw[h0,hqe]at hcl
 rw[hqe]at hq ⊢
 have e0:=eq_empty q
 by_cases hqn:q=[]
 ·rw[if_pos hqn]
  rw[decide_eq_true hqn]at e0
  refine Vc.CallH.body Tryz.func114 Tryz.call114 rfl (by decide+kernel) rfl ?_
  ((conv=>whnf);repeat(any_goals((first|(refine(hcl _).mono ?_;rintro _ H1 ⟨rfl,hx1⟩;have hz1:=hx1.size)|refine Vc.stp ?_|refine Vc.spl ?_ ?_)<;>(intros;(conv=>whnf)))))
  exact Did.none h hx1 _
 rw[if_neg hqn]
 rw[decide_eq_false hqn]at e0
 have hql:q.length≤200:=by obtain⟨l,rfl,hl⟩:=hq;exact hl.long
 cases hg:mget A q with
 |none=>
  rw[if_pos rfl]
  refine Vc.CallH.body Tryz.func114 Tryz.call114 rfl (by decide+kernel) rfl ?_
  ((conv=>whnf);repeat(any_goals((first|(refine(hcl _).mono ?_;rintro _ H1 ⟨rfl,hx1⟩;have hz1:=hx1.size;have hb1:=h.blk.ext hx1)|((with_reducible apply treeGet0 (h.map.ext hx1) hg);(focus(rfl));(focus(rfl));(focus(rfl));(focus(rfl));(focus((conv=>whnf))))|refine Vc.stp ?_|refine Vc.spl ?_ ?_)<;>(intros;(conv=>whnf)))))
  exact Did.none h hx1 _
 |some nd=>
  rw[if_neg (by simp)]
  have hbl:=fun H' (k:Ext H H')=>below_any (h.ext k) hA q (by omega) (by rw[hg];simp)
  have hAc:=hA.count
  have hAs:=hA.size
  refine Vc.CallH.body Tryz.func114 Tryz.call114 rfl (by decide+kernel) rfl ?_
  ((conv=>whnf);repeat(any_goals((first|(refine(hcl _).mono ?_;rintro _ H1 ⟨rfl,hx1⟩;have hz1:=hx1.size;have hb1:=h.blk.ext hx1)|((with_reducible apply treeGet1 (h.map.ext hx1) hg);(focus(rfl));(focus(rfl));(focus(rfl));(focus(rfl));(focus((intro g1 a1 c1 k1 k2;(conv=>whnf)))))|(refine(hbl _ (by exact Vc.xt)).mono ?_;rintro _ H3 ⟨⟨l3,a3,c3,hv3⟩,hx3⟩;have hz3:=hx3.size;obtain rfl:=hv3.val)|(refine(drop_any (h.ext (show Ext H H3 by exact Vc.xt)) hA.sorted (by omega) l3 a3 _ c3 hv3.own.row rfl (by have:=hv3.len;omega) hv3.nodup (fun k hk=>(by have:=((hv3.mem k).1 hk).1;exact fun e=>mget_none.1 e this))).mono ?_;rintro _ H4 ⟨rfl,ht4,hx4⟩)|refine Vc.stp ?_|refine Vc.spl ?_ ?_)<;>(intros;(conv=>whnf)))))
  have hx03:=(show Ext H H3 by exact Vc.xt)
  rw[drop_all hv3.mem]at ht4
  exact⟨rfl,ht4,hx03.only.trans hx4 fun _ _ e=>e⟩
end Go.Proofs.YtphkaogbcfdllaaGreatDoor
namespace Go.Tre
open Go.Pth Go.Scr
open Go.Vc (mget mput mdel mget_put mget_mem mget_of_mem mget_none)
theorem walk_good (stay:Nat): ∀ (xs l:List Txt),(∀ x∈xs,GoodP x)→walkF stay l xs=if 12<(l++xs).length then([],50)else(l++xs,0)
 |[],l,_=>by rw[walkF,List.append_nil]
 |x::xs,l,hg=>by
  have g:=hg x (by simp)
  rw[walkF,if_neg (fun e=>e.elim g.ne g.dot),if_neg g.dots,if_neg (by rw[g.ok];simp),walk_good stay xs (l++[x]) (fun y hy=>hg y (by simp[hy]))]
  simp
theorem clean_good {l:List Txt} (h: ∀ x∈l,GoodP x):cleanF (glue l)=([],50)∨cleanF (glue l)=(glue l,0):=by
 unfold cleanF joinP
 rw[if_pos (rfl:([]:Txt)=[]),Nat.zero_add]
 by_cases h1:200<(glue l).length
 ·rw[if_pos h1];exact .inl rfl
 rw[if_neg h1,if_neg (no_head (p:=[]) h)]
 show(glue (walkF 0 [] (splitF 47 (glue l))).1,(walkF 0 [] (splitF 47 (glue l))).2)=_∨(glue (walkF 0 [] (splitF 47 (glue l))).1,(walkF 0 [] (splitF 47 (glue l))).2)=_
 by_cases hn:l=[]
 ·subst hn;exact .inr rfl
 rw[split_glue (fun x hx=>(h x hx).no) hn,walk_good 0 l [] h,List.nil_append]
 split
 ·exact .inl rfl
 ·exact .inr rfl
def planF (A:Tr) (p q:Txt):Nat:=
 if p≠ []∧mget A p=none then 52
 else if p=[]∨withinF q p=true then 54
 else if q=[]∨(mget A q).isSome=true then 53
 else if fileF A q=true then 54
 else if badM (movedF A p q)=true then 50 else 0
def toF (p q k:Txt):Txt:=q++k.drop p.length
theorem sum_old {A:Tr} (h:(A.map (·.1)).Nodup) (f:Txt→Bool) {l:List Txt} (hn:l.Nodup) (hm: ∀ k,k∈l↔k∈A.map (·.1)∧f k=true):(l.map (oldF A)).sum=sizeT (A.filter fun x=>f x.1):=by
 have hp:l.Perm ((A.filter fun x=>f x.1).map (·.1)):=by
  refine(List.perm_ext_iff_of_nodup hn (List.Nodup.sublist (List.filter_sublist.map _) h)).2 fun k=> ?_
  rw[hm,List.mem_map,List.mem_map]
  constructor
  ·rintro⟨⟨x,hx,rfl⟩,hf⟩;exact⟨x,List.mem_filter.2 ⟨hx,hf⟩,rfl⟩
  ·rintro⟨x,hx,rfl⟩;exact⟨⟨x,(List.mem_filter.1 hx).1,rfl⟩,(List.mem_filter.1 hx).2⟩
 rw[(hp.map (oldF A)).sum_nat]
 unfold sizeT
 rw[List.map_map]
 congr 1
 refine List.map_congr_left fun x hx=> ?_
 show oldF A x.1=_
 unfold oldF
 rw[mget_of_mem h (List.mem_filter.1 hx).1]
theorem moved_size (A:Tr) (p q:Txt):sizeT (movedF A p q)=sizeT (A.filter fun x=>withinF x.1 p):=by
 unfold movedF sizeT
 rw[List.map_map];rfl
end Go.Tre
namespace Go.Proofs.YtphkaogbcfdllaaGreatDoor
open Go Go.Vc Go.Scr Go.Pth Go.Tre
variable {Z:Nat→Prop}
structure MoveV (H':Heap) (mv:Value) (A:Tr) (p q:Txt) (L:List Bs) (fa ta la:Option Addr) (fc tc lc:Nat):Prop where
 val:mv= .agg #[.slice fa L.length fc,.slice ta L.length tc,.slice la (lackF A q).length lc,.int .i64 (sizeT (movedF A p q))]
 fr:Row H' fa (strs L)
 to:Row H' ta (strs (L.map (toF p q)))
 lack:Row H' la (strs (lackF A q).reverse)
 nodup:L.Nodup
 mem: ∀ k,k∈L↔k∈A.map (·.1)∧withinF k p=true
 len:L.length≤A.length
def PlanV (H':Heap) (v:Value) (A:Tr) (p q:Txt) (c:Nat):Prop:=
 ∃ mv,v= .tuple #[mv,.int .i64 c]∧(c≠0→mv= .agg #[.slice none 0 0,.slice none 0 0,.slice none 0 0,.int .i64 0])∧(c=0→ ∃ L fa ta la fc tc lc,MoveV H' mv A p q L fa ta la fc tc lc)
theorem mv0 {K:Value→Prop} (h:K (.agg #[.slice none 0 0,.slice none 0 0,.slice none 0 0,.int .i64 0])):PureH Tryz.prog (Instr.build 257 ((List.map (fun x:Nat×Operand=>x.1) (#[]:Array (Nat×Operand)).toList).zip []).toArray) K:=PureH.build _ (by kernel_rfl) h
theorem mv1 {K:Value→Prop} {a:Option Addr} {n c:Nat} {o:Operand} (h:K (.agg #[.slice a n c,.slice none 0 0,.slice none 0 0,.int .i64 0])):PureH Tryz.prog (Instr.build 257 ((List.map (fun x:Nat×Operand=>x.1) (#[(0,o)]:Array (Nat×Operand)).toList).zip [.slice a n c]).toArray) K:=PureH.build _ (by kernel_rfl) h
def planC (A:Tr) (s t:Txt):Nat:=if(cleanF s).2=0 then(if(cleanF t).2=0 then planF A (cleanF s).1 (cleanF t).1 else(cleanF t).2)else(cleanF s).2
structure PlS where
 i:Nat
 a:Option Addr
 cap:Nat
set_option maxHeartbeats 4000000 in
theorem plan_any {b mb:Nat} {A:Tr} {H:Heap} (h:TreeO Z H b mb A) (hA:Okay A) (s t:Bs):CallH Tryz.prog 165 [.pointer (some ⟨b,0,none⟩),.string (mkS s),.string (mkS t)] H fun v H'=>PlanV H' v A (cleanF s).1 (cleanF t).1 (planC A s t)∧Ext H H':=by
 have hcl:=fun H=>clean_any s H
 have hct:=fun H=>clean_any t H
 unfold planC
 by_cases h0: ¬(cleanF s).2=0
 ·rw[if_neg h0]
  have h0': ¬((cleanF s).2:Int)=0:=by omega
  generalize cleanF s=c at*
  refine Vc.CallH.body Tryz.func165 Tryz.call165 rfl (by decide+kernel) rfl ?_
  ((conv=>whnf);repeat(any_goals((first|(refine(hcl _).mono ?_;rintro _ H1 ⟨rfl,hx1⟩;have hz1:=hx1.size)|((with_reducible apply mv0);(focus((conv=>whnf))))|refine Vc.stp ?_|refine Vc.spl ?_ ?_)<;>(intros;(conv=>whnf)))))
  exact⟨⟨_,rfl,fun _=>rfl,fun e=>by omega⟩,by exact Vc.xt⟩
 have h0:(cleanF s).2=0:=by omega
 rw[if_pos h0]
 have hp:=clean_of h0
 obtain⟨p,hpe⟩: ∃ p,(cleanF s).1=p:=⟨_,rfl⟩
 rw[h0,hpe]at hcl
 rw[hpe]at hp ⊢
 by_cases h1: ¬(cleanF t).2=0
 ·rw[if_neg h1]
  have h1': ¬((cleanF t).2:Int)=0:=by omega
  generalize cleanF t=c at*
  refine Vc.CallH.body Tryz.func165 Tryz.call165 rfl (by decide+kernel) rfl ?_
  ((conv=>whnf);repeat(any_goals((first|(refine(hcl _).mono ?_;rintro _ H1 ⟨rfl,hx1⟩;have hz1:=hx1.size)|(refine(hct _).mono ?_;rintro _ H2 ⟨rfl,hx2⟩;have hz2:=hx2.size)|((with_reducible apply mv0);(focus((conv=>whnf))))|refine Vc.stp ?_|refine Vc.spl ?_ ?_)<;>(intros;(conv=>whnf)))))
  exact⟨⟨_,rfl,fun _=>rfl,fun e=>by omega⟩,by exact Vc.xt⟩
 have h1:(cleanF t).2=0:=by omega
 rw[if_pos h1]
 have hq:=clean_of h1
 obtain⟨q,hqe⟩: ∃ q,(cleanF t).1=q:=⟨_,rfl⟩
 rw[h1,hqe]at hct
 rw[hqe]at hq ⊢
 have hpl:p.length≤200:=by obtain⟨l,rfl,hl⟩:=hp;exact hl.long
 have hql:q.length≤200:=by obtain⟨l,rfl,hl⟩:=hq;exact hl.long
 have hap:=fun H' (k:Ext H H')=>at_any (h.ext k) p
 have haq:=fun H' (k:Ext H H')=>at_any (h.ext k) q
 have e0:=eq_empty p
 unfold planF
 cases hnp:nodeAt A p with
 |none=>
  rw[hnp]at hap
  have hg:p≠ []∧mget A p=none:=by
   unfold nodeAt at hnp
   split at hnp
   ·cases hnp
   ·rename_i hne;exact⟨hne,hnp⟩
  rw[if_pos hg]
  refine Vc.CallH.body Tryz.func165 Tryz.call165 rfl (by decide+kernel) rfl ?_
  ((conv=>whnf);repeat(any_goals((first|(refine(hcl _).mono ?_;rintro _ H1 ⟨rfl,hx1⟩;have hz1:=hx1.size)|(refine(hct _).mono ?_;rintro _ H2 ⟨rfl,hx2⟩;have hz2:=hx2.size)|((with_reducible apply mv0);(focus((conv=>whnf))))|(refine(hap _ (by exact Vc.xt)).mono ?_;rintro v2 H3 ⟨hv2,hx3⟩;have hz3:=hx3.size;obtain rfl:=hv2)|refine Vc.stp ?_|refine Vc.spl ?_ ?_)<;>(intros;(conv=>whnf)))))
  exact⟨⟨_,rfl,fun _=>rfl,fun e=>by omega⟩,by exact Vc.xt⟩
 |some np=>
 rw[hnp]at hap
 rw[if_neg (fun e=>by unfold nodeAt at hnp;rw[if_neg e.1,e.2]at hnp;cases hnp)]
 by_cases hpn:p=[]
 ·rw[if_pos (.inl hpn)]
  rw[decide_eq_true hpn]at e0
  refine Vc.CallH.body Tryz.func165 Tryz.call165 rfl (by decide+kernel) rfl ?_
  ((conv=>whnf);repeat(any_goals((first|(refine(hcl _).mono ?_;rintro _ H1 ⟨rfl,hx1⟩;have hz1:=hx1.size)|(refine(hct _).mono ?_;rintro _ H2 ⟨rfl,hx2⟩;have hz2:=hx2.size)|((with_reducible apply mv0);(focus((conv=>whnf))))|(refine(hap _ (by exact Vc.xt)).mono ?_;rintro v2 H3 ⟨hv2,hx3⟩;have hz3:=hx3.size;obtain⟨g2,a2,c2,rfl,hb2,hr2⟩:=NodeO.out hv2)|refine Vc.stp ?_|refine Vc.spl ?_ ?_)<;>(intros;(conv=>whnf)))))
  exact⟨⟨_,rfl,fun _=>rfl,fun e=>by omega⟩,by exact Vc.xt⟩
 rw[decide_eq_false hpn]at e0
 have hwi:=fun H=>within_any q p (by omega) (by omega) H
 by_cases hw:withinF q p=true
 ·rw[if_pos (.inr hw)]
  rw[hw]at hwi
  refine Vc.CallH.body Tryz.func165 Tryz.call165 rfl (by decide+kernel) rfl ?_
  ((conv=>whnf);repeat(any_goals((first|(refine(hcl _).mono ?_;rintro _ H1 ⟨rfl,hx1⟩;have hz1:=hx1.size)|(refine(hct _).mono ?_;rintro _ H2 ⟨rfl,hx2⟩;have hz2:=hx2.size)|((with_reducible apply mv0);(focus((conv=>whnf))))|(refine(hap _ (by exact Vc.xt)).mono ?_;rintro v2 H3 ⟨hv2,hx3⟩;have hz3:=hx3.size;obtain⟨g2,a2,c2,rfl,hb2,hr2⟩:=NodeO.out hv2)|(refine(hwi _).mono ?_;rintro _ _ ⟨rfl,rfl⟩)|refine Vc.stp ?_|refine Vc.spl ?_ ?_)<;>(intros;(conv=>whnf)))))
  exact⟨⟨_,rfl,fun _=>rfl,fun e=>by omega⟩,by exact Vc.xt⟩
 have hw:withinF q p=false:=by simpa using hw
 rw[hw]at hwi
 rw[if_neg (by rw[hw];simp[hpn])]
 cases hnq:nodeAt A q with
 |some nq=>
  rw[hnq]at haq
  have hg:q=[]∨(mget A q).isSome=true:=by
   unfold nodeAt at hnq
   split at hnq
   ·rename_i h;exact .inl h
   ·right;rw[hnq];rfl
  rw[if_pos hg]
  refine Vc.CallH.body Tryz.func165 Tryz.call165 rfl (by decide+kernel) rfl ?_
  ((conv=>whnf);repeat(any_goals((first|(refine(hcl _).mono ?_;rintro _ H1 ⟨rfl,hx1⟩;have hz1:=hx1.size)|(refine(hct _).mono ?_;rintro _ H2 ⟨rfl,hx2⟩;have hz2:=hx2.size)|((with_reducible apply mv0);(focus((conv=>whnf))))|(refine(hap _ (by exact Vc.xt)).mono ?_;rintro v2 H3 ⟨hv2,hx3⟩;have hz3:=hx3.size;obtain⟨g2,a2,c2,rfl,hb2,hr2⟩:=NodeO.out hv2)|(refine(hwi _).mono ?_;rintro _ _ ⟨rfl,rfl⟩)|(refine(haq _ (by exact Vc.xt)).mono ?_;rintro v4 H4 ⟨hv4,hx4⟩;have hz4:=hx4.size;obtain⟨g4,a4,c4,rfl,hb4,hr4⟩:=NodeO.out hv4)|refine Vc.stp ?_|refine Vc.spl ?_ ?_)<;>(intros;(conv=>whnf)))))
  exact⟨⟨_,rfl,fun _=>rfl,fun e=>by omega⟩,by exact Vc.xt⟩
 |none=>
 rw[hnq]at haq
 have hgq:q≠ []∧mget A q=none:=by
  unfold nodeAt at hnq
  split at hnq
  ·cases hnq
  ·rename_i hne;exact⟨hne,hnq⟩
 rw[if_neg (by rw[hgq.2];simp[hgq.1])]
 have hgp:mget A p≠none:=fun e=>by unfold nodeAt at hnp;rw[if_neg hpn,e]at hnp;cases hnp
 have hbl:=fun H' (k:Ext H H')=>below_any (h.ext k) hA p (by omega) hgp
 have hah:=fun H' (k:Ext H H')=>ahead_any (h.ext k) hq
 unfold AheadV at hah
 by_cases hf:fileF A q=true
 ·simp only[if_pos hf]at hah
  rw[if_pos hf]
  refine Vc.CallH.body Tryz.func165 Tryz.call165 rfl (by decide+kernel) rfl ?_
  ((conv=>whnf);repeat(any_goals((first|(refine(hcl _).mono ?_;rintro _ H1 ⟨rfl,hx1⟩;have hz1:=hx1.size)|(refine(hct _).mono ?_;rintro _ H2 ⟨rfl,hx2⟩;have hz2:=hx2.size)|((with_reducible apply mv0);(focus((conv=>whnf))))|(refine(hap _ (by exact Vc.xt)).mono ?_;rintro v2 H3 ⟨hv2,hx3⟩;have hz3:=hx3.size;obtain⟨g2,a2,c2,rfl,hb2,hr2⟩:=NodeO.out hv2)|(refine(hwi _).mono ?_;rintro _ _ ⟨rfl,rfl⟩)|(refine(haq _ (by exact Vc.xt)).mono ?_;rintro v4 H4 ⟨hv4,hx4⟩;have hz4:=hx4.size;obtain rfl:=hv4)|(refine(hbl _ (by exact Vc.xt)).mono ?_;rintro _ H5 ⟨⟨L,fa,fc,hL⟩,hx5⟩;have hz5:=hx5.size;obtain rfl:=hL.val)|((with_reducible apply mv1);(focus((conv=>whnf))))|(refine(hah _ (by exact Vc.xt)).mono ?_;rintro _ H6 ⟨rfl,hx6⟩;have hz6:=hx6.size)|refine Vc.stp ?_|refine Vc.spl ?_ ?_)<;>(intros;(conv=>whnf)))))
  exact⟨⟨_,rfl,fun _=>rfl,fun e=>by omega⟩,by exact Vc.xt⟩
 simp only[if_neg hf]at hah
 rw[if_neg hf]
 refine Vc.CallH.body Tryz.func165 Tryz.call165 rfl (by decide+kernel) rfl ?_
 ((conv=>whnf);repeat(any_goals((first|(refine(hcl _).mono ?_;rintro _ H1 ⟨rfl,hx1⟩;have hz1:=hx1.size)|(refine(hct _).mono ?_;rintro _ H2 ⟨rfl,hx2⟩;have hz2:=hx2.size)|((with_reducible apply mv0);(focus((conv=>whnf))))|(refine(hap _ (by exact Vc.xt)).mono ?_;rintro v2 H3 ⟨hv2,hx3⟩;have hz3:=hx3.size;obtain⟨g2,a2,c2,rfl,hb2,hr2⟩:=NodeO.out hv2)|(refine(hwi _).mono ?_;rintro _ _ ⟨rfl,rfl⟩)|(refine(haq _ (by exact Vc.xt)).mono ?_;rintro v4 H4 ⟨hv4,hx4⟩;have hz4:=hx4.size;obtain rfl:=hv4)|(refine(hbl _ (by exact Vc.xt)).mono ?_;rintro _ H5 ⟨⟨L,fa,fc,hL⟩,hx5⟩;have hz5:=hx5.size;obtain rfl:=hL.val)|((with_reducible apply mv1);(focus((conv=>whnf))))|(refine(hah _ (by exact Vc.xt)).mono ?_;rintro _ H6 ⟨⟨a6,c6,rfl,ho6⟩,hx6⟩;have hz6:=hx6.size)|refine Vc.stp ?_|refine Vc.spl ?_ ?_)<;>(intros;(conv=>whnf)))))
 rename_i Hr zr br xr Ha za ba xa Hb zb bb xb Hc zc bc xc
 have hxr5:Ext Hr H5:=by exact Vc.xt
 have hx05:Ext H H5:=by exact Vc.xt
 have hbl0:=h.blk.lt
 have hml0:=h.map.lt
 have hx0c:Ext H Hc:=(show Ext H H6 by exact Vc.xt).but xc (by have:=hx05.size;omega)
 have hlk:(lackF A q).length≤12:=by
  have h1:(lackF A q).length≤(pars q).length:=List.length_filter_le _ _
  have h2:=hq.parts.deep
  rw[pars_len]at h1;omega
 have hAc:=hA.count
 have hAs:=hA.size
 have hLl:=hL.len
 have hxH5:Ext H5 Hc:=(show Ext H5 H6 by exact Vc.xt).but xc (by omega)
 have hLr:Row Hc fa (strs L):=hL.own.row.ext hxH5
 have hsum:=sum_old hA.sorted.nodup (fun k=>withinF k p) hL.nodup hL.mem
 rw[←moved_size A p q]at hsum
 have hgo:=goes hA hp hq hpn hgq.1
 have hmv: ∀ k∈L,∃ nd,(toF p q k,nd)∈movedF A p q∧mget A k=some nd:=fun k hk=>by
  obtain⟨hk1,hk2⟩:=(hL.mem k).1 hk
  obtain⟨x,hx,rfl⟩:=List.mem_map.1 hk1
  exact⟨x.2,List.mem_map.2 ⟨x,List.mem_filter.2 ⟨hx,hk2⟩,rfl⟩,mget_of_mem hA.sorted.nodup hx⟩
 have hlow:H5.size<Hc.size:=by omega
 refine LoopH.intro (fun(x:PlS)=>[(72,.int .i64 x.i)])
  (fun x H'=>x.i≤L.length∧(∀ k∈L.take x.i,(cleanF (toF p q k)).2=0)∧Blk H' H5.size #[.slice fa L.length fc,.slice x.a x.i x.cap,.slice a6 (lackF A q).length c6,.int .i64 (((L.take x.i).map (oldF A)).sum:Nat)] 257∧
   Own H' Hc.size 9 1 x.a x.i x.cap (strs ((L.take x.i).map (toF p q)))∧But H5.size Hc H') (fun x=>L.length-x.i) ⟨0,none,0⟩ ⟨rfl,trivial⟩ ⟨Nat.zero_le _,fun k hk=>(by rw[List.take_zero]at hk;cases hk),bc,Own.nil _ _ _ _,Only.refl _ _⟩ ?_
 rintro⟨i,ta,tc⟩ H7 ⟨hi,hok,hb7,ho7,hx7⟩
 dsimp only at hi hok hb7 ho7 ⊢
 have hz7:=hx7.size
 have hx07:Ext H H7:=hx0c.but hx7 (by have:=hx05.size;omega)
 have hmap7:=h.map.ext hx07
 have hbr7:=((br.ext hxr5).ext hxH5).but hx7 (by omega)
 have htb7:=h.blk.ext hx07
 have hrL:Row H7 fa (strs L):=hLr.texts hx7 fun x e _=>by subst e;exact .blk bc (by simp[dumbV])
 have hsle:((L.take i).map (oldF A)).sum≤sizeT (movedF A p q):=by
  rw[←hsum,←List.take_append_drop i L,List.map_append,List.sum_append_nat,List.take_append_drop];exact Nat.le_add_right _ _
 have hmle:sizeT (movedF A p q)≤1048576:=by rw[moved_size];exact Nat.le_trans (filter_size _ _) hAs
 by_cases hlt:i<L.length
 ·obtain⟨k,hk⟩: ∃ k,L[i]? =some k:=⟨_,List.getElem?_eq_getElem (by omega)⟩
  have hkL:=List.mem_of_getElem? hk
  obtain⟨nd,hm1,hg⟩:=hmv k hkL
  obtain⟨kk,mm,r,ep,eq,hkr,hmr,e,_⟩:=hgo.keys _ hm1
  have hkl:k.length≤200:=by
   obtain⟨⟨l,rfl,hl⟩,_⟩:=hA.clean k nd hg
   exact hl.long
  have hkp:p.length≤k.length:=by
   have:=((hL.mem k).1 hkL).2
   unfold withinF at this
   rw[Bool.or_eq_true,Bool.or_eq_true,beq_iff_eq,beq_iff_eq,List.isPrefixOf_iff_prefix]at this
   rcases this with (e|e)|e
   ·exact absurd e hpn
   ·rw[e];exact Nat.le_refl _
   ·have:=e.length_le;rw[List.length_append]at this;simp at this;omega
  have htl:(toF p q k).length≤400:=by unfold toF;rw[List.length_append,List.length_drop];omega
  have e1:mkS q++(mkS k).extract p.length (mkS k).size=mkS (toF p q k):=by rw[show(mkS k).extract p.length (mkS k).size=mkS (k.drop p.length)from mkS_drop _ _,mkS_app];rfl
  have hsq:(mkS q).size=q.length:=rfl
  have hsk:(mkS k).size=k.length:=rfl
  have hse:((mkS k).extract p.length (mkS k).size).size=k.length-p.length:=by rw[show(mkS k).extract p.length (mkS k).size=mkS (k.drop p.length)from mkS_drop _ _];show(k.drop p.length).length=_;rw[List.length_drop]
  have hck:=fun H=>clean_any (toF p q k) H
  rw[←e1]at hck
  have etk:L.take (i+1)=L.take i++[k]:=by rw[List.take_add_one,hk];rfl
  have hcg:cleanF (toF p q k)=([],50)∨cleanF (toF p q k)=(toF p q k,0):=by
   have:toF p q k=glue (mm++r):=e
   rw[this];exact clean_good hmr
  rcases hcg with hc|hc
  ·rw[hc]at hck
   have hbad:badM (movedF A p q)=true:=by
    unfold badM
    rw[List.any_eq_true]
    exact⟨_,hm1,by show((cleanF (toF p q k)).2 != 0)=true;rw[hc];rfl⟩
   rw[if_pos hbad]
   ((conv=>whnf);repeat(any_goals((first|(refine IdxA.strv hrL rfl i k (by omega) hk ?_;intro _ _ _ _ _)|(refine NeedH.mk ⟨by(simp only[ByteArray.size_append];omega),?_⟩)|(refine BndH.nat p.length rfl (by omega) ?_)|(refine(hck _).mono ?_;rintro _ H8 ⟨rfl,hx8⟩;have hz8:=hx8.size)|((with_reducible apply mv0);(focus((conv=>whnf))))|refine Vc.stp ?_|refine Vc.spl ?_ ?_)<;>(intros;(conv=>whnf)))))
   exact⟨⟨_,rfl,fun _=>rfl,fun e=>by omega⟩,by exact Vc.xt⟩
  ·rw[hc]at hck
   have hof:oldF A k=nd.2.length:=by unfold oldF;rw[hg]
   have hsle2:((L.take (i+1)).map (oldF A)).sum≤sizeT (movedF A p q):=by
    rw[←hsum,←List.take_append_drop (i+1) L,List.map_append,List.sum_append_nat,List.take_append_drop];exact Nat.le_add_right _ _
   have hss:((L.take (i+1)).map (oldF A)).sum=((L.take i).map (oldF A)).sum+nd.2.length:=by rw[etk,List.map_append,List.sum_append_nat];simp[hof]
   ((conv=>whnf);repeat(any_goals((first|(refine IdxA.strv hrL rfl i k (by omega) hk ?_;intro _ _ _ _ _)|(refine NeedH.mk ⟨by(simp only[ByteArray.size_append];omega),?_⟩)|(refine BndH.nat p.length rfl (by omega) ?_)|(refine(hck _).mono ?_;rintro _ H8 ⟨rfl,hx8⟩;have hz8:=hx8.size)|(refine NextH.push1b (by assumption) (ho7.ext (by exact Vc.xt)) (by omega) (by omega) rfl ⟨_,rfl,fun _ h=>by cases h⟩ rfl rfl rfl rfl rfl rfl rfl ?_;intro a9 c9 H9 ho9 hz9 hw9;have hlow9:=fun(b:Nat) (hb:b<Hc.size)=>ho7.low hb;have hx8':=(hx8.trans (by assumption));have hb9:=(hb7.ext hx8').keep hw9 (hlow9 _ (by omega));have hmap9:=h.map.ext (show Ext H H9 from(hx07.trans hx8').wr (ho7.ext hx8') (by omega) hw9);have htb9:=h.blk.ext (show Ext H H9 from(hx07.trans hx8').wr (ho7.ext hx8') (by omega) hw9))|((with_reducible apply treeGet1 (hmap9.keep (by assumption) (fun e=>by omega) (fun x e _=>by subst e;exact .inl (.blk hb9 (by simp[dumbV]) (by decide)))) hg);(focus(rfl));(focus(rfl));(focus(rfl));(focus(rfl));(focus((intro g1 a1 c1 k1 k2;(conv=>whnf)))))|((with_reducible refine Vc.DrawH.held [0,1,2,3,4,5,6,7,8,9,10,11,12,13,14] [(7,[1])] mixed (by decide+kernel) ?_))|refine Vc.stp ?_|refine Vc.spl ?_ ?_)<;>(intros;(conv=>whnf)))))
   rename_i Hd zd bd xd He ze be xe
   have be':Blk He H5.size #[.slice fa L.length fc,.slice a9 (i+1) c9,.slice a6 (lackF A q).length c6,.int .i64 ((((L.take i).map (oldF A)).sum:Nat)+(nd.2.length:Int))] 257:=be
   rw[show((((L.take i).map (oldF A)).sum:Nat):Int)+(nd.2.length:Int)=(((L.take (i+1)).map (oldF A)).sum:Nat)by omega]at be'
   have ho10:=ho9.keep xd fun p hp e=>ho9.low (b:=H5.size) (by omega) ⟨p,hp,e⟩
   have ho11:=ho10.keep xe fun p hp e=>ho10.low (b:=H5.size) (by omega) ⟨p,hp,e⟩
   refine⟨⟨i+1,a9,c9⟩,⟨rfl,trivial⟩,⟨by show i+1≤_;omega,?_,be',?_,(((hx7.ext hx8').trans hw9 fun b hb h=>absurd h (hlow9 b hb)).trans xd fun _ _ e=>e).trans xe fun _ _ e=>e⟩,by show L.length-(i+1)<L.length-i;omega⟩
   ·show ∀ k∈L.take (i+1),_
    rw[etk]
    intro k' hk'
    rcases List.mem_append.1 hk' with hk'|hk'
    ·exact hok k' hk'
    ·rw[List.mem_singleton]at hk';subst hk';rw[hc]
   ·show Own He Hc.size _ 1 a9 (i+1) c9 (strs ((L.take (i+1)).map (toF p q)))
    rw[etk,List.map_append,strs_append];exact ho11
 ·obtain rfl:i=L.length:=by omega
  rw[List.take_length]at hok hb7 ho7
  have hbad:badM (movedF A p q)=false:=by
   unfold badM
   rw[List.any_eq_false]
   intro x hx
   obtain⟨y,hy,rfl⟩:=List.mem_map.1 hx
   rw[List.mem_filter]at hy
   have:=hok y.1 ((hL.mem _).2 ⟨List.mem_map_of_mem hy.1,hy.2⟩)
   show ¬((cleanF (toF p q y.1)).2 != 0)=true
   rw[this];simp
  rw[hbad,if_neg (by simp)]
  rw[hsum]at hb7
  ((conv=>whnf);repeat(any_goals((first|refine Vc.stp ?_|refine Vc.spl ?_ ?_)<;>(intros;(conv=>whnf)))))
  rename_i He ze be xe
  have hdr: ∀ x,x=H.size→x<H7.size→Dumb H7 x:=fun x e _=>by subst e;exact .blk hbr7 (by simp[dumbV,Value.cells])
  have hd7: ∀ x,x=H5.size→x<Hc.size→Dumb Hc x:=fun x e _=>by subst e;exact .blk bc (by simp[dumbV])
  have hd6: ∀ x,x=H5.size→x<H6.size→Dumb H6 x:=fun x e _=>by subst e;exact .blk (bb.ext hx6) (by simp[dumbV])
  exact⟨⟨_,rfl,fun e=>absurd rfl e,fun _=>⟨L,fa,ta,a6,fc,tc,c6,⟨rfl,hrL.texts xe hdr,ho7.row.texts xe hdr,((ho6.row.ext (Ext.refl _)).texts xc hd6).texts hx7 hd7 |>.texts xe hdr,hL.nodup,hL.mem,hL.len⟩⟩⟩,hx07.but xe (Nat.le_refl _)⟩
end Go.Proofs.YtphkaogbcfdllaaGreatDoor
namespace Go.Tre
open Go.Pth Go.Scr
open Go.Vc (mget mput mdel mget_put mget_mem mget_of_mem mget_none)
theorem mget_perm {α:Type} {l m:List (Txt×α)} (h:l.Perm m) (hn:(l.map (·.1)).Nodup) (k:Txt):mget l k=mget m k:=by
 have hm:(m.map (·.1)).Nodup:=(h.map _).nodup_iff.1 hn
 cases hg:mget l k with
 |some v=>exact(mget_of_mem hm (h.subset (mget_mem hg))).symm
 |none=>
  cases hg2:mget m k with
  |none=>rfl
  |some v=>rw[mget_of_mem hn (h.symm.subset (mget_mem hg2))]at hg;cases hg
theorem puts_keep: ∀ (l A:Tr) (k:Txt),k∉l.map (·.1)→mget (putsF A l) k=mget A k
 |[],A,k,_=>rfl
 |x::l,A,k,h=>by
  rw[List.map_cons,List.mem_cons,not_or]at h
  show mget (putsF (putF A x.1 x.2) l) k=_
  rw[puts_keep l _ k h.2,mget_putF,if_neg h.1]
theorem puts_snoc (A l:Tr) (x:Txt×Node):putsF A (l++[x])=putF (putsF A l) x.1 x.2:=by unfold putsF;rw[List.foldl_append];rfl
theorem puts_perm {A l m:Tr} (hA:Sorted A) (h:l.Perm m) (hn:(l.map (·.1)).Nodup):putsF A l=putsF A m:=
 sorted_ext (putsF_sorted l hA) (putsF_sorted m hA) fun k=>by rw[mget_putsF k l A hn,mget_putsF k m A ((h.map _).nodup_iff.1 hn),mget_perm h hn]
def nodeOf (A:Tr) (k:Txt):Node:=(mget A k).getD (false,[])
def movesL (A:Tr) (p q:Txt) (L:List Txt):Tr:=L.map fun k=>(toF p q k,nodeOf A k)
theorem moves_perm {A:Tr} (hA:(A.map (·.1)).Nodup) {p q:Txt} {L:List Txt} (hn:L.Nodup) (hm: ∀ k,k∈L↔k∈A.map (·.1)∧withinF k p=true):(movesL A p q L).Perm (movedF A p q):=by
 have hp:L.Perm ((A.filter fun x=>withinF x.1 p).map (·.1)):=by
  refine(List.perm_ext_iff_of_nodup hn (List.Nodup.sublist (List.filter_sublist.map _) hA)).2 fun k=> ?_
  rw[hm,List.mem_map,List.mem_map]
  constructor
  ·rintro⟨⟨x,hx,rfl⟩,hf⟩;exact⟨x,List.mem_filter.2 ⟨hx,hf⟩,rfl⟩
  ·rintro⟨x,hx,rfl⟩;exact⟨⟨x,(List.mem_filter.1 hx).1,rfl⟩,(List.mem_filter.1 hx).2⟩
 have:=hp.map fun k=>(toF p q k,nodeOf A k)
 unfold movesL movedF
 rw[List.map_map]at this
 refine this.trans (List.Perm.of_eq (List.map_congr_left fun x hx=> ?_))
 show(toF p q x.1,nodeOf A x.1)=_
 unfold nodeOf
 rw[mget_of_mem hA (List.mem_filter.1 hx).1];rfl
structure Yes (A:Tr) (p q:Txt):Prop where
 pn:p≠ []
 qn:q≠ []
 pin:mget A p≠none
 qout:mget A q=none
 out:withinF q p=false
 file:fileF A q=false
 good:badM (movedF A p q)=false
theorem plan_yes {A:Tr} {p q:Txt} (h:planF A p q=0):Yes A p q:=by
 unfold planF at h
 split at h
 ·cases h
 rename_i h1
 split at h
 ·cases h
 rename_i h2
 split at h
 ·cases h
 rename_i h3
 split at h
 ·cases h
 rename_i h4
 split at h
 ·cases h
 rename_i h5
 rw[not_or]at h2 h3
 exact⟨h2.1,h3.1,fun e=>h1 ⟨h2.1,e⟩,by simpa using h3.2,by simpa using h2.2,by simpa using h4,by simpa using h5⟩
theorem two_plan {A:Tr} {p q:Txt} {stays:Bool}:twoP A p q stays=if planF A p q=0 then(if 500<A.length+((lackF A q).length+if stays=true then(movedF A p q).length else 0)∨1048576<sizeT A+(if stays=true then sizeT (movedF A p q)else 0)then(A,55)
  else(putsF (makeF (restF A p stays) (lackF A q)) (movedF A p q),0))else(A,planF A p q):=by
 unfold twoP planF
 split
 ·rfl
 split
 ·rfl
 split
 ·rfl
 split
 ·rfl
 split
 ·rfl
 rw[if_pos rfl]
theorem two_size {A:Tr} (hA:Okay A) {p q:Txt} (hp:CleanP p) (hq:CleanP q) (y:Yes A p q):sizeT (putsF (makeF A (lackF A q)) (movedF A p q))=sizeT A+sizeT (movedF A p q):=by
 have ha:=apart hA hp hq y.pn y.qn y.pin y.qout y.out
 have hg:=goes hA hp hq y.pn y.qn
 rw[(putsF_cnt (movedF A p q) (makeF_sorted _ hA.sorted) hg.nodup fun x hx=>by rw[mget_makeF,if_neg (ha.nlack x hx)];exact ha.fresh x hx).2,makeF_size hA.sorted fun d hd=>(lack_none hd).2]
theorem rename_drop {A:Tr} (hA:Okay A) {p q:Txt} (hp:CleanP p) (hq:CleanP q) (y:Yes A p q) {L:List Txt} (hm: ∀ k,k∈L↔k∈A.map (·.1)∧withinF k p=true):
  dropT (putsF (makeF A (lackF A q)) (movedF A p q)) L=putsF (makeF (restF A p false) (lackF A q)) (movedF A p q):=by
 have ha:=apart hA hp hq y.pn y.qn y.pin y.qout y.out
 have hg:=goes hA hp hq y.pn y.qn
 have hr:restF A p false=A.filter fun x=> !withinF x.1 p:=rfl
 have hrs:Sorted (restF A p false):=by rw[hr];exact List.Pairwise.sublist List.filter_sublist hA.sorted
 refine sorted_ext (dropT_sorted (putsF_sorted _ (makeF_sorted _ hA.sorted)) _) (putsF_sorted _ (makeF_sorted _ hrs)) fun k=> ?_
 rw[mget_dropT,mget_putsF k _ _ hg.nodup,mget_putsF k _ _ hg.nodup,mget_makeF,mget_makeF,hr,mget_filter (fun x=> !withinF x p)]
 by_cases hk:k∈L
 ·rw[if_pos hk]
  have hw:=((hm k).1 hk).2
  have h1:mget (movedF A p q) k=none:=by
   cases hg1:mget (movedF A p q) k with
   |none=>rfl
   |some n=>have:=ha.moved _ (mget_mem hg1);rw[hw]at this;cases this
  have h2:k∉lackF A q:=fun h=>by have:=ha.lack k h;rw[hw]at this;cases this
  rw[h1,if_neg h2,if_neg (by rw[hw];simp)]
 ·rw[if_neg hk]
  cases mget (movedF A p q) k with
  |some n=>rfl
  |none=>
   dsimp only
   by_cases h2:k∈lackF A q
   ·rw[if_pos h2,if_pos h2]
   ·rw[if_neg h2,if_neg h2]
    by_cases hw:withinF k p=true
    ·rw[if_neg (by rw[hw];simp)]
     apply mget_none.2
     exact fun h=>hk ((hm k).2 ⟨h,hw⟩)
    ·rw[if_pos (by simpa using hw)]
end Go.Tre
namespace Go.Proofs.YtphkaogbcfdllaaGreatDoor
open Go Go.Vc Go.Scr Go.Pth Go.Tre
variable {Z:Nat→Prop}
set_option maxHeartbeats 4000000 in
theorem copy0_any {b mb:Nat} {A:Tr} {H:Heap} (h:TreeO Z H b mb A) (p q:Bs) (L D:List Bs) (fa ta la:Option Addr) (fc tc lc n d:Nat) (by0:Nat) (hfr:Row H fa (strs L)) (hto:Row H ta (strs (L.map (toF p q)))) (hlk:Row H la (strs D)) (hn:L.length=n) (hd:D.length=d) (hn1:n≤10000) (hd1:d≤10000)
  (hin: ∀ k∈L,mget A k≠none) (hkl: ∀ k∈L,k∉D) (hkt: ∀ k∈L,k∉(movesL A p q L).map (·.1)) (hs:sizeT (putsF (makeF A D) (movesL A p q L))=sizeT A+by0) (hs1:sizeT A≤100000000) (hs2:by0≤100000000):
  CallH Tryz.prog 166 [.pointer (some ⟨b,0,none⟩),.agg #[.slice fa n fc,.slice ta n tc,.slice la d lc,.int .i64 by0]] H fun v H'=>v= .tuple #[]∧TreeO Z H' b mb (putsF (makeF A D) (movesL A p q L))∧ButT b mb H H':=by
 refine Vc.CallH.body Tryz.func166 Tryz.call166 rfl (by decide+kernel) rfl ?_
 have hmb:=h.map.ne h.blk
 have hbl0:=h.blk.lt
 have hml0:=h.map.lt
 ((conv=>whnf);repeat(any_goals((first|(refine(make_any (h.blk.ext (by assumption)) (h.map.ext (by assumption)) D la _ lc (hlk.ext (by assumption)) hd (by omega)).mono ?_;rintro _ H2 ⟨rfl,hm2,hx2⟩;have hz2:=hx2.size)|refine Vc.stp ?_|refine Vc.spl ?_ ?_)<;>(intros;(conv=>whnf)))))
 rename_i H1 z1 b1 x1
 have b1:Blk H1 H.size #[.slice fa n fc,.slice ta n tc,.slice la d lc,.int .i64 by0] 257:=b1
 have hom: ∀ x,x=mb→x<H1.size→Oth H1 x:=fun x e _=>by subst e;exact(h.map.ext x1).oth
 have hfr2:=(hfr.ext x1).texts hx2 fun x e hl=>(hom x e hl).dumb
 have hto2:=(hto.ext x1).texts hx2 fun x e hl=>(hom x e hl).dumb
 have hb2:=b1.but hx2 (by omega)
 have htb2:=(h.blk.ext x1).but hx2 hmb.symm
 obtain⟨M,hM⟩: ∃ M,movesL A p q L=M:=⟨_,rfl⟩
 have hMl:M.length=n:=by rw[←hM];unfold movesL;rw[List.length_map,hn]
 rw[hM]at hs hkt ⊢
 refine LoopH.intro (fun(i:Nat)=>[(14,.int .i64 i)]) (fun i H'=>i≤n∧MapT Z H' mb (putsF (makeF A D) (M.take i))∧But mb H2 H') (fun i=>n-i) 0 ⟨rfl,trivial⟩ ⟨Nat.zero_le _,hm2,Only.refl _ _⟩ ?_
 rintro i H3 ⟨hi,hm3,hx3⟩
 have hz3:=hx3.size
 have hom2: ∀ x,x=mb→x<H2.size→Oth H2 x:=fun x e _=>by subst e;exact hm2.oth
 have hfr3:=hfr2.texts hx3 fun x e hl=>(hom2 x e hl).dumb
 have hto3:=hto2.texts hx3 fun x e hl=>(hom2 x e hl).dumb
 have hb3:=hb2.but hx3 (by omega)
 have htb3:=htb2.but hx3 hmb.symm
 by_cases hlt:i<n
 ·obtain⟨k,hk⟩: ∃ k,L[i]? =some k:=⟨_,List.getElem?_eq_getElem (by omega)⟩
  have hkL:=List.mem_of_getElem? hk
  have hkt3:(L.map (toF p q))[i]? =some (toF p q k):=by rw[List.getElem?_map,hk];rfl
  have hMi:M[i]? =some (toF p q k,nodeOf A k):=by rw[←hM];unfold movesL;rw[List.getElem?_map,hk];rfl
  obtain⟨nd,hg⟩: ∃ nd,mget A k=some nd:=by
   cases hg:mget A k with
   |none=>exact absurd hg (hin k hkL)
   |some nd=>exact⟨nd,rfl⟩
  have hno:nodeOf A k=nd:=by unfold nodeOf;rw[hg];rfl
  rw[hno]at hMi
  have hg3:mget (putsF (makeF A D) (M.take i)) k=some nd:=by
   rw[puts_keep _ _ _ fun hm=>hkt k hkL ((List.take_sublist i M).map (fun x=>x.1) |>.subset hm),mget_makeF,if_neg (hkl k hkL)];exact hg
  have etk:M.take (i+1)=M.take i++[(toF p q k,nd)]:=by rw[List.take_add_one,hMi];rfl
  ((conv=>whnf);repeat(any_goals((first|(refine IdxA.strv hfr3 hn i k (by omega) hk ?_;intro _ _ _ _ _)|(refine IdxA.strv hto3 (by(rw[List.length_map];exact hn)) i (toF p q k) (by omega) hkt3 ?_;intro bt ot ht1 ht2 ht3)|((with_reducible apply treeGetN hm3 hg3);(focus(rfl));(focus(rfl));(focus(rfl));(focus(rfl));(focus((intro v3 hv3;obtain⟨g1,a1,c1,rfl,k1,k2⟩:=NodeO.out hv3;have kf:=hv3.foot g1 a1 c1 rfl k1;(conv=>whnf)))))|((with_reducible apply treePut (n:=nd));(focus((exact hm3.ext (by exact Vc.xt))));(focus((exact .mk1 (by assumption) (k2.ext (by exact Vc.xt)) kf)));(focus(rfl));(focus(rfl));(focus((intro H5 z5 m5 x5;(conv=>whnf)))))|refine Vc.stp ?_|refine Vc.spl ?_ ?_)<;>(intros;(conv=>whnf)))))
  rename_i He ze be xe Hf zf bf xf
  refine⟨i+1,⟨rfl,trivial⟩,⟨by omega,by rw[etk,puts_snoc];exact m5,(hx3.ext (show Ext H3 Hf by exact Vc.xt)).trans x5 fun _ _ e=>e⟩,by omega⟩
 ·obtain rfl:i=n:=by omega
  rw[List.take_of_length_le (by omega)]at hm3
  ((conv=>whnf);repeat(any_goals((first|refine Vc.stp ?_|refine Vc.spl ?_ ?_)<;>(intros;(conv=>whnf)))))
  rename_i He ze be xe
  have be':Blk He b #[.map (some mb),.int .i64 ((sizeT A:Int)+(by0:Int))] 133:=be
  rw[show(sizeT A:Int)+(by0:Int)=(sizeT (putsF (makeF A D) M):Nat)by omega]at be'
  exact⟨rfl,⟨hm3.keep xe hmb (fun x e _=>by subst e;exact .inl (oth_tree htb3)),be',fun x hx=>Nat.lt_of_lt_of_le (h.low x hx) (by have:=x1.size;have:=hx2.size;have:=hx3.size;have:=xe.size;omega)⟩,((x1.only.trans hx2 fun _ _ e=> .inr e).trans hx3 fun _ _ e=> .inr e).trans xe fun _ _ e=> .inl e⟩
theorem MoveV.ext {H H':Heap} {mv:Value} {A:Tr} {p q:Txt} {L:List Bs} {fa ta la:Option Addr} {fc tc lc:Nat} (h:MoveV H mv A p q L fa ta la fc tc lc) (k:Ext H H'):MoveV H' mv A p q L fa ta la fc tc lc:=⟨h.val,h.fr.ext k,h.to.ext k,h.lack.ext k,h.nodup,h.mem,h.len⟩
set_option maxHeartbeats 4000000 in
theorem rename_any {b mb:Nat} {A:Tr} {H:Heap} (h:TreeO Z H b mb A) (hA:Okay A) (s t:Bs):CallH Tryz.prog 112 [.pointer (some ⟨b,0,none⟩),.string (mkS s),.string (mkS t)] H fun v H'=>Did Z H H' b mb v (Tre.twoF A s t false):=by
 have hpl:=plan_any h hA s t
 have hcs:=clean_code s
 have hct:=clean_code t
 have hmb:=h.map.ne h.blk
 have hbl0:=h.blk.lt
 have hml0:=h.map.lt
 have htw:Tre.twoF A s t false=if planC A s t=0 then twoP A (cleanF s).1 (cleanF t).1 false else(A,planC A s t):=by
  unfold Tre.twoF planC
  by_cases h0:(cleanF s).2=0
  ·rw[if_pos h0,if_pos h0]
   by_cases h1:(cleanF t).2=0
   ·rw[if_pos h1,if_pos h1]
    by_cases h2:planF A (cleanF s).1 (cleanF t).1=0
    ·rw[if_pos h2]
    ·rw[if_neg h2,two_plan,if_neg h2]
   ·rw[if_neg h1,if_neg h1,if_neg h1]
  ·rw[if_neg h0,if_neg h0,if_neg h0]
 rw[htw]
 by_cases hc: ¬planC A s t=0
 ·rw[if_neg hc]
  have hc': ¬(planC A s t:Int)=0:=by omega
  refine Vc.CallH.body Tryz.func112 Tryz.call112 rfl (by decide+kernel) rfl ?_
  ((conv=>whnf);repeat(any_goals((first|(refine hpl.mono ?_;rintro _ H1 ⟨⟨mv,rfl,hno,hyes⟩,hx1⟩;have hz1:=hx1.size;obtain rfl:=hno hc)|refine Vc.stp ?_|refine Vc.spl ?_ ?_)<;>(intros;(conv=>whnf)))))
  exact Did.none h (by exact Vc.xt) _
 have hc:planC A s t=0:=by omega
 have hcs0:(cleanF s).2=0:=by
  unfold planC at hc
  split at hc
  ·rename_i h;exact h
  ·exact hc
 have hct0:(cleanF t).2=0:=by
  unfold planC at hc
  rw[if_pos hcs0]at hc
  split at hc
  ·rename_i h;exact h
  ·exact hc
 have hpf:planF A (cleanF s).1 (cleanF t).1=0:=by
  unfold planC at hc
  rw[if_pos hcs0,if_pos hct0]at hc;exact hc
 have hp:=clean_of hcs0
 have hq:=clean_of hct0
 obtain⟨p,hpe⟩: ∃ p,(cleanF s).1=p:=⟨_,rfl⟩
 obtain⟨q,hqe⟩: ∃ q,(cleanF t).1=q:=⟨_,rfl⟩
 rw[hpe]at hp hpl hpf ⊢
 rw[hqe]at hq hpl hpf ⊢
 rw[hc]at hpl ⊢
 rw[if_pos rfl,two_plan,if_pos hpf]
 have y:=plan_yes hpf
 have hAc:=hA.count
 have hAs:=hA.size
 have hlk:(lackF A q).length≤12:=by
  have h1:(lackF A q).length≤(pars q).length:=List.length_filter_le _ _
  have h2:=hq.parts.deep
  rw[pars_len]at h1;omega
 have hroom:=fun H' (k:Ext H H')=>room_any (h.ext k) hA.sorted (by omega) (by omega) (lackF A q).length 0 (by omega) (by omega)
 by_cases hrm:(lackF A q).length+A.length≤500
 ·rw[decide_eq_true ⟨hrm,by omega⟩]at hroom
  rw[if_neg (by simp;omega)]
  have hD:makeF A (lackF A q).reverse=makeF A (lackF A q):=makeF_rev hA.sorted _
  have hgo:=goes hA hp hq y.pn y.qn
  have hap:=apart hA hp hq y.pn y.qn y.pin y.qout y.out
  have hts:=two_size hA hp hq y
  have hms:sizeT (movedF A p q)≤1048576:=by rw[moved_size];exact Nat.le_trans (filter_size _ _) hAs
  have hcp:=fun(H1:Heap) (mv:Value) (L:List Bs) (fa ta la:Option Addr) (fc tc lc:Nat) (hv:MoveV H1 mv A p q L fa ta la fc tc lc) (k:Ext H H1)=>by
   have hmp:=moves_perm (q:=q) hA.sorted.nodup hv.nodup hv.mem
   have hmn:((movesL A p q L).map (·.1)).Nodup:=(hmp.map _).nodup_iff.2 hgo.nodup
   have hpp:=puts_perm (makeF_sorted (lackF A q) hA.sorted) hmp hmn
   have hkw: ∀ k∈L,withinF k p=true:=fun k hk=>((hv.mem k).1 hk).2
   have:=copy0_any (h.ext k) p q L (lackF A q).reverse fa ta la fc tc lc L.length (lackF A q).length (sizeT (movedF A p q)) hv.fr hv.to hv.lack rfl (by simp) (by have:=hv.len;omega) (by omega)
    (fun k hk e=>mget_none.1 e ((hv.mem k).1 hk).1) (fun k hk hd=>by have:=hap.lack k (by simpa using hd);rw[hkw k hk]at this;cases this)
    (fun k hk hd=>by
     obtain⟨x,hx,rfl⟩:=List.mem_map.1 hd
     have:=hap.moved x (hmp.subset hx);rw[hkw _ hk]at this;cases this)
    (by rw[hD,hpp];exact hts) (by omega) (by omega)
   rw[hD,hpp]at this
   exact this
  have hdr:=fun(H2:Heap) (L:List Bs) (fa:Option Addr) (fc:Nat) (ht:TreeO Z H2 b mb _) (hfr:Row H2 fa (strs L)) (hl:L.length≤A.length) (hnd:L.Nodup) (hm: ∀ k,k∈L↔k∈A.map (·.1)∧withinF k p=true)=>drop_any ht (putsF_sorted (movedF A p q) (makeF_sorted (lackF A q) hA.sorted)) (by omega) L fa L.length fc hfr rfl (by omega) hnd (fun k hk=>by
   rw[mget_putsF k _ _ hgo.nodup]
   cases mget (movedF A p q) k with
   |some n=>simp
   |none=>
    dsimp only
    rw[mget_makeF]
    split
    ·simp
    ·exact fun e=>mget_none.1 e ((hm k).1 hk).1)
  have hdm: ∀ H' (k:Ext H H') x,(x=b∨x=mb)→x<H'.size→Dumb H' x:=fun H' k x e _=>by
   rcases e with rfl|rfl
   ·exact(h.ext k).oth.dumb
   ·exact(h.ext k).map.oth.dumb
  refine Vc.CallH.body Tryz.func112 Tryz.call112 rfl (by decide+kernel) rfl ?_
  ((conv=>whnf);repeat(any_goals((first|(refine hpl.mono ?_;rintro _ H1 ⟨⟨mv,rfl,hno,hyes⟩,hx1⟩;have hz1:=hx1.size;obtain⟨L,fa,ta,la,fc,tc,lc,hv⟩:=hyes rfl;obtain rfl:=hv.val)|(refine(hroom _ (by exact Vc.xt)).mono ?_;rintro _ _ ⟨rfl,rfl⟩)|(rename_i Ha za ba xa Hb zb bb xb;refine(hcp Hb _ L fa ta la fc tc lc (hv.ext (by exact Vc.xt)) (by exact Vc.xt)).mono ?_;rintro _ H5 ⟨rfl,ht5,hx5⟩;have hz5:=hx5.size;have hbm:=bb.keep hx5 (fun e=>by omega);have hx1b:=(show Ext H1 Hb by exact Vc.xt);have hxb:=hx1.trans hx1b;have hfm:=(hv.fr.ext hx1b).texts hx5 (hdm Hb hxb))|(refine(hdr _ L fa fc ht5 hfm hv.len hv.nodup hv.mem).mono ?_;rintro _ H6 ⟨rfl,ht6,hx6⟩;have hz6:=hx6.size)|refine Vc.stp ?_|refine Vc.spl ?_ ?_)<;>(intros;(conv=>whnf)))))
  rw[rename_drop hA hp hq y hv.mem]at ht6
  exact⟨rfl,ht6,(hxb.only.trans hx5 fun _ _ e=>e).trans hx6 fun _ _ e=>e⟩
 ·rw[decide_eq_false (fun e=>hrm e.1)]at hroom
  rw[if_pos (by simp;omega)]
  refine Vc.CallH.body Tryz.func112 Tryz.call112 rfl (by decide+kernel) rfl ?_
  ((conv=>whnf);repeat(any_goals((first|(refine hpl.mono ?_;rintro _ H1 ⟨⟨mv,rfl,hno,hyes⟩,hx1⟩;have hz1:=hx1.size;obtain⟨L,fa,ta,la,fc,tc,lc,hv⟩:=hyes rfl;obtain rfl:=hv.val)|(refine(hroom _ (by exact Vc.xt)).mono ?_;rintro _ _ ⟨rfl,rfl⟩)|refine Vc.stp ?_|refine Vc.spl ?_ ?_)<;>(intros;(conv=>whnf)))))
  exact Did.none h (by exact Vc.xt) _
set_option maxHeartbeats 4000000 in
theorem copy_any {b mb:Nat} {A:Tr} {H:Heap} (h:TreeO Z H b mb A) (hA:Okay A) (s t:Bs):CallH Tryz.prog 111 [.pointer (some ⟨b,0,none⟩),.string (mkS s),.string (mkS t)] H fun v H'=>Did Z H H' b mb v (Tre.twoF A s t true):=by
 have hpl:=plan_any h hA s t
 have hcs:=clean_code s
 have hct:=clean_code t
 have hmb:=h.map.ne h.blk
 have hbl0:=h.blk.lt
 have hml0:=h.map.lt
 have htw:Tre.twoF A s t true=if planC A s t=0 then twoP A (cleanF s).1 (cleanF t).1 true else(A,planC A s t):=by
  unfold Tre.twoF planC
  by_cases h0:(cleanF s).2=0
  ·rw[if_pos h0,if_pos h0]
   by_cases h1:(cleanF t).2=0
   ·rw[if_pos h1,if_pos h1]
    by_cases h2:planF A (cleanF s).1 (cleanF t).1=0
    ·rw[if_pos h2]
    ·rw[if_neg h2,two_plan,if_neg h2]
   ·rw[if_neg h1,if_neg h1,if_neg h1]
  ·rw[if_neg h0,if_neg h0,if_neg h0]
 rw[htw]
 by_cases hc: ¬planC A s t=0
 ·rw[if_neg hc]
  have hc': ¬(planC A s t:Int)=0:=by omega
  refine Vc.CallH.body Tryz.func111 Tryz.call111 rfl (by decide+kernel) rfl ?_
  ((conv=>whnf);repeat(any_goals((first|(refine hpl.mono ?_;rintro _ H1 ⟨⟨mv,rfl,hno,hyes⟩,hx1⟩;have hz1:=hx1.size;obtain rfl:=hno hc)|refine Vc.stp ?_|refine Vc.spl ?_ ?_)<;>(intros;(conv=>whnf)))))
  exact Did.none h (by exact Vc.xt) _
 have hc:planC A s t=0:=by omega
 have hcs0:(cleanF s).2=0:=by
  unfold planC at hc
  split at hc
  ·rename_i h;exact h
  ·exact hc
 have hct0:(cleanF t).2=0:=by
  unfold planC at hc
  rw[if_pos hcs0]at hc
  split at hc
  ·rename_i h;exact h
  ·exact hc
 have hpf:planF A (cleanF s).1 (cleanF t).1=0:=by
  unfold planC at hc
  rw[if_pos hcs0,if_pos hct0]at hc;exact hc
 have hp:=clean_of hcs0
 have hq:=clean_of hct0
 obtain⟨p,hpe⟩: ∃ p,(cleanF s).1=p:=⟨_,rfl⟩
 obtain⟨q,hqe⟩: ∃ q,(cleanF t).1=q:=⟨_,rfl⟩
 rw[hpe]at hp hpl hpf ⊢
 rw[hqe]at hq hpl hpf ⊢
 rw[hc]at hpl ⊢
 rw[if_pos rfl,two_plan,if_pos hpf]
 have y:=plan_yes hpf
 have hAc:=hA.count
 have hAs:=hA.size
 have hlk:(lackF A q).length≤12:=by
  have h1:(lackF A q).length≤(pars q).length:=List.length_filter_le _ _
  have h2:=hq.parts.deep
  rw[pars_len]at h1;omega
 have hgo:=goes hA hp hq y.pn y.qn
 have hap:=apart hA hp hq y.pn y.qn y.pin y.qout y.out
 have hts:=two_size hA hp hq y
 have hms:sizeT (movedF A p q)≤1048576:=by rw[moved_size];exact Nat.le_trans (filter_size _ _) hAs
 have hml:(movedF A p q).length≤A.length:=by unfold movedF;rw[List.length_map];exact List.length_filter_le _ _
 have hroom:=fun H' (k:Ext H H')=>room_any (h.ext k) hA.sorted (by omega) (by omega) ((lackF A q).length+(movedF A p q).length) (sizeT (movedF A p q):Nat) (by omega) (by omega)
 rw[show(((lackF A q).length+(movedF A p q).length:Nat):Int)=((lackF A q).length:Int)+((movedF A p q).length:Nat)by omega]at hroom
 rw[if_pos rfl,if_pos rfl]
 have hL: ∀ {H1:Heap} {mv:Value} {L:List Bs} {fa ta la:Option Addr} {fc tc lc:Nat},MoveV H1 mv A p q L fa ta la fc tc lc→L.length=(movedF A p q).length:=fun hv=>by
  have:=(moves_perm (q:=q) hA.sorted.nodup hv.nodup hv.mem).length_eq
  unfold movesL at this;rw[List.length_map]at this;exact this
 by_cases hrm:(lackF A q).length+(movedF A p q).length+A.length≤500∧(sizeT (movedF A p q):Int)+sizeT A≤1048576
 ·rw[decide_eq_true hrm]at hroom
  rw[if_neg (by omega)]
  have hD:makeF A (lackF A q).reverse=makeF A (lackF A q):=makeF_rev hA.sorted _
  have hcp:=fun(H1:Heap) (mv:Value) (L:List Bs) (fa ta la:Option Addr) (fc tc lc:Nat) (hv:MoveV H1 mv A p q L fa ta la fc tc lc) (k:Ext H H1)=>by
   have hmp:=moves_perm (q:=q) hA.sorted.nodup hv.nodup hv.mem
   have hmn:((movesL A p q L).map (·.1)).Nodup:=(hmp.map _).nodup_iff.2 hgo.nodup
   have hpp:=puts_perm (makeF_sorted (lackF A q) hA.sorted) hmp hmn
   have hkw: ∀ k∈L,withinF k p=true:=fun k hk=>((hv.mem k).1 hk).2
   have:=copy0_any (h.ext k) p q L (lackF A q).reverse fa ta la fc tc lc L.length (lackF A q).length (sizeT (movedF A p q)) hv.fr hv.to hv.lack rfl (by simp) (by have:=hv.len;omega) (by omega)
    (fun k hk e=>mget_none.1 e ((hv.mem k).1 hk).1) (fun k hk hd=>by have:=hap.lack k (by simpa using hd);rw[hkw k hk]at this;cases this)
    (fun k hk hd=>by
     obtain⟨x,hx,rfl⟩:=List.mem_map.1 hd
     have:=hap.moved x (hmp.subset hx);rw[hkw _ hk]at this;cases this)
    (by rw[hD,hpp];exact hts) (by omega) (by omega)
   rw[hD,hpp]at this
   exact this
  have hdm: ∀ H' (k:Ext H H') x,(x=b∨x=mb)→x<H'.size→Dumb H' x:=fun H' k x e _=>by
   rcases e with rfl|rfl
   ·exact(h.ext k).oth.dumb
   ·exact(h.ext k).map.oth.dumb
  refine Vc.CallH.body Tryz.func111 Tryz.call111 rfl (by decide+kernel) rfl ?_
  ((conv=>whnf);repeat(any_goals((first|(refine hpl.mono ?_;rintro _ H1 ⟨⟨mv,rfl,hno,hyes⟩,hx1⟩;have hz1:=hx1.size;obtain⟨L,fa,ta,la,fc,tc,lc,hv⟩:=hyes rfl;obtain rfl:=hv.val;have hLl:=hL hv)|(rw[hLl];refine(hroom _ (by exact Vc.xt)).mono ?_;rintro _ _ ⟨rfl,rfl⟩)|(rename_i Ha za ba xa Hb zb bb xb;refine(hcp Hb _ L fa ta la fc tc lc (hv.ext (by exact Vc.xt)) (by exact Vc.xt)).mono ?_;rintro _ H5 ⟨rfl,ht5,hx5⟩;have hz5:=hx5.size;have hxb:=(show Ext H Hb by exact Vc.xt))|refine Vc.stp ?_|refine Vc.spl ?_ ?_)<;>(intros;(conv=>whnf)))))
  exact⟨rfl,ht5,hxb.only.trans hx5 fun _ _ e=>e⟩
 ·rw[decide_eq_false hrm]at hroom
  rw[if_pos (by omega)]
  refine Vc.CallH.body Tryz.func111 Tryz.call111 rfl (by decide+kernel) rfl ?_
  ((conv=>whnf);repeat(any_goals((first|(refine hpl.mono ?_;rintro _ H1 ⟨⟨mv,rfl,hno,hyes⟩,hx1⟩;have hz1:=hx1.size;obtain⟨L,fa,ta,la,fc,tc,lc,hv⟩:=hyes rfl;obtain rfl:=hv.val;have hLl:=hL hv)|(rw[hLl];refine(hroom _ (by exact Vc.xt)).mono ?_;rintro _ _ ⟨rfl,rfl⟩)|refine Vc.stp ?_|refine Vc.spl ?_ ?_)<;>(intros;(conv=>whnf)))))
  exact Did.none h (by exact Vc.xt) _
end Go.Proofs.YtphkaogbcfdllaaGreatDoor
namespace Go.Tre
open Go.Pth Go.Scr
open Go.Vc (mget mput mdel mget_put mget_mem mget_of_mem mget_none)
theorem rest_get (A:Tr) (p k:Txt) (stays:Bool):mget (restF A p stays) k=if stays=true∨withinF k p=false then mget A k else none:=by
 unfold restF
 cases stays with
 |true=>rw[if_pos rfl,if_pos (.inl rfl)]
 |false=>
  rw[if_neg (by simp),mget_filter (fun x=> !withinF x p)]
  cases h:withinF k p<;>simp
theorem rest_sorted {A:Tr} (h:Sorted A) (p:Txt) (stays:Bool):Sorted (restF A p stays):=by
 unfold restF
 split
 ·exact h
 ·exact List.Pairwise.sublist List.filter_sublist h
theorem split_cnt (A:Tr) (f:Txt×Node→Bool):(A.filter fun x=> !f x).length+(A.filter f).length=A.length∧sizeT (A.filter fun x=> !f x)+sizeT (A.filter f)=sizeT A:=by
 induction A with
 |nil=>exact⟨rfl,rfl⟩
 |cons x l ih=>
  have e1: ∀ (y:Txt×Node) (m:Tr),sizeT (y::m)=y.2.2.length+sizeT m:=fun y m=>by simp[sizeT]
  rw[List.filter_cons,List.filter_cons]
  cases h:f x<;>simp[e1]<;>omega
theorem Okay.two {A:Tr} (hA:Okay A) {p q:Txt} (hp:CleanP p) (hq:CleanP q) (stays:Bool):Okay (twoP A p q stays).1:=by
 rw[two_plan]
 by_cases hpl:planF A p q=0
 rotate_left
 ·rw[if_neg hpl];exact hA
 rw[if_pos hpl]
 by_cases hsp:500<A.length+((lackF A q).length+if stays=true then(movedF A p q).length else 0)∨1048576<sizeT A+(if stays=true then sizeT (movedF A p q)else 0)
 ·rw[if_pos hsp];exact hA
 rw[if_neg hsp]
 rw[not_or]at hsp
 have y:=plan_yes hpl
 have ha:=apart hA hp hq y.pn y.qn y.pin y.qout y.out
 have hg:=goes hA hp hq y.pn y.qn
 have hlm:=lack_made hA hq y.file
 have hnd:=lack_nodup (A:=A) hq
 have hrs:=rest_sorted hA.sorted p stays
 show Okay (putsF (makeF (restF A p stays) (lackF A q)) (movedF A p q))
 have hT: ∀ k,mget (putsF (makeF (restF A p stays) (lackF A q)) (movedF A p q)) k=match mget (movedF A p q) k with
   |some n=>some n
   |none=>if k∈lackF A q then some (true,[])else if stays=true∨withinF k p=false then mget A k else none:=fun k=>by
  rw[mget_putsF k _ _ hg.nodup]
  cases mget (movedF A p q) k with
  |some n=>rfl
  |none=>dsimp only;rw[mget_makeF,rest_get]
 have hfrom: ∀ k n,mget (putsF (makeF (restF A p stays) (lackF A q)) (movedF A p q)) k=some n→(k,n)∈movedF A p q∨(k∈lackF A q∧n=(true,[]))∨((stays=true∨withinF k p=false)∧mget A k=some n):=fun k n h=>by
  rw[hT]at h
  cases hm:mget (movedF A p q) k with
  |some n'=>rw[hm]at h;cases h;exact .inl (mget_mem hm)
  |none=>
   rw[hm]at h
   dsimp only at h
   split at h
   ·rename_i hk;cases h;exact .inr (.inl ⟨hk,rfl⟩)
   ·split at h
    ·rename_i hk;exact .inr (.inr ⟨hk,h⟩)
    ·cases h
 have hto: ∀ k t,k∉(movedF A p q).map (·.1)→(stays=true∨withinF k p=false)→mget A k=some (true,t)→ ∃ t,mget (putsF (makeF (restF A p stays) (lackF A q)) (movedF A p q)) k=some (true,t):=fun k t hn hk h=>by
  rw[hT,mget_none.2 hn]
  dsimp only
  by_cases hl:k∈lackF A q
  ·rw[if_pos hl];exact⟨_,rfl⟩
  ·rw[if_neg hl,if_pos hk];exact⟨_,h⟩
 have hlk: ∀ k∈lackF A q,∃ t,mget (putsF (makeF (restF A p stays) (lackF A q)) (movedF A p q)) k=some (true,t):=fun k hk=>by
  have hn:k∉(movedF A p q).map (·.1):=fun h=>by
   obtain⟨x,hx,rfl⟩:=List.mem_map.1 h
   exact ha.nlack x hx hk
  rw[hT,mget_none.2 hn]
  dsimp only
  rw[if_pos hk];exact⟨_,rfl⟩
 have hnm: ∀ k t,mget A k=some t→k∉(movedF A p q).map (·.1):=fun k t h hm=>by
  obtain⟨x,hx,rfl⟩:=List.mem_map.1 hm
  rw[ha.fresh x hx]at h;cases h
 obtain⟨k0,ek,hk0⟩:=hp
 obtain⟨m0,em,hm0⟩:=hq
 have hkn:k0≠ []:=by rintro rfl;exact y.pn ek
 have hmn:m0≠ []:=by rintro rfl;exact y.qn em
 have hout: ¬k0<+:m0:=fun h=>by
  have:=(Pth.within_iff hm0.good hk0.good).2 h
  rw[←ek,←em,y.out]at this;cases this
 have habove: ∀ d∈pars q,withinF d p=false:=fun d hd=>by
  rw[em]at hd
  obtain⟨j,hj,_,_,rfl⟩:=(mem_pars hm0.good).1 hd
  cases hw:withinF (glue j) p with
  |false=>rfl
  |true=>rw[ek]at hw;exact absurd (((Pth.within_iff (good_pre hm0 hj).good hk0.good).1 hw).trans hj) hout
 have hq2: ∀ d∈pars q,∃ t,mget (putsF (makeF (restF A p stays) (lackF A q)) (movedF A p q)) d=some (true,t):=fun d hd=>by
  rcases dir_above y.file hd with h|⟨t,h⟩
  ·exact hlk d (by unfold lackF;rw[List.mem_filter];exact⟨hd,by rw[h];rfl⟩)
  ·exact hto d t (hnm d _ h) (.inr (habove d hd)) h
 have hM:(movedF A p q).length=(A.filter fun x=>withinF x.1 p).length:=by unfold movedF;rw[List.length_map]
 have hMs:=moved_size A p q
 have hsplit:=split_cnt A (fun x=>withinF x.1 p)
 have hml:(makeF (restF A p stays) (lackF A q)).length=(restF A p stays).length+(lackF A q).length:=makeF_len hrs hnd fun d hd=>by
  rw[rest_get];split
  ·exact(lack_none hd).2
  ·rfl
 have hms:sizeT (makeF (restF A p stays) (lackF A q))=sizeT (restF A p stays):=makeF_size hrs fun d hd=>by
  rw[rest_get];split
  ·exact(lack_none hd).2
  ·rfl
 obtain⟨hcl,hcs⟩:=putsF_cnt (movedF A p q) (makeF_sorted (lackF A q) hrs) hg.nodup fun x hx=>by
  rw[mget_makeF,if_neg (ha.nlack x hx),rest_get]
  split
  ·exact ha.fresh x hx
  ·rfl
 refine⟨putsF_sorted _ (makeF_sorted _ hrs),fun k n h=> ?_,fun k n h d hd=> ?_,?_,?_,fun k n h=> ?_⟩
 ·rcases hfrom k n h with hm|⟨hl,_⟩|⟨_,hm⟩
  ·obtain⟨k',m',r,e1,e2,hkr,hmr,e,_⟩:=hg.keys _ hm
   have e:k=glue (m'++r):=e
   have hb:(cleanF k).2=0:=by
    have:=y.good
    unfold badM at this
    rw[List.any_eq_false]at this
    have:=this _ hm
    simpa using this
   have hc:cleanF k=(k,0):=by
    rcases clean_good hmr with h1|h1
    ·rw[←e]at h1;rw[h1]at hb;cases hb
    ·rw[←e]at h1;exact h1
   have h1:=clean_of hb
   rw[hc]at h1
   refine⟨h1,?_⟩
   rw[e]
   refine glue_nil hmr fun h0=> ?_
   have:m'=[]:=List.append_eq_nil_iff.1 h0 |>.1
   rw[this]at e2;exact y.qn e2
  ·exact⟨(hlm k hl).2.1,(hlm k hl).2.2.1⟩
  ·exact hA.clean k n hm
 ·rcases hfrom k n h with hm|⟨hl,_⟩|⟨hw,hm⟩
  ·obtain⟨k',m',r,e1,e2,hkr,hmr,e,hold⟩:=hg.keys _ hm
   have e:k=glue (m'++r):=e
   have:k'=k0:=glue_inj (fun y hy=>hkr.good y (by simp[hy])) hk0.good (e1.symm.trans ek)
   subst this
   have:m'=m0:=glue_inj (fun y hy=>hmr y (by simp[hy])) hm0.good (e2.symm.trans em)
   subst this
   rw[e]at hd
   obtain⟨j,hj,hjn,hjl,rfl⟩:=(mem_pars hmr).1 hd
   rcases List.prefix_or_prefix_of_prefix hj (List.prefix_append m' r)with h2|h2
   ·by_cases hjm:j=m'
    ·subst hjm
     have hrn:r≠ []:=by rintro rfl;simp at hjl
     have hpd:p∈pars (glue (k'++r)):=(mem_pars hkr.good).2 ⟨k',List.prefix_append _ _,hkn,by rw[List.length_append];have:=List.length_pos_iff.2 hrn;omega,ek⟩
     obtain⟨t,ht⟩:=hA.above _ _ hold _ hpd
     have hmem:(q,(true,t))∈movedF A p q:=by
      unfold movedF
      refine List.mem_map.2 ⟨(p,(true,t)),List.mem_filter.2 ⟨mget_mem ht,by simp[withinF]⟩,?_⟩
      simp
     refine⟨t,?_⟩
     rw[hT,←em,mget_of_mem hg.nodup hmem]
    ·refine hq2 _ ?_
     rw[em]
     exact(mem_pars hm0.good).2 ⟨j,h2,hjn,Nat.lt_of_le_of_ne h2.length_le fun h=>hjm (h2.eq_of_length h),rfl⟩
   ·obtain⟨s,rfl⟩:=h2
    by_cases hsn:s=[]
    ·subst hsn
     rw[List.append_nil]at hjl ⊢
     have hrn:r≠ []:=by rintro rfl;simp at hjl
     have hpd:p∈pars (glue (k'++r)):=(mem_pars hkr.good).2 ⟨k',List.prefix_append _ _,hkn,by rw[List.length_append];have:=List.length_pos_iff.2 hrn;omega,ek⟩
     obtain⟨t,ht⟩:=hA.above _ _ hold _ hpd
     have hmem:(q,(true,t))∈movedF A p q:=by
      unfold movedF
      refine List.mem_map.2 ⟨(p,(true,t)),List.mem_filter.2 ⟨mget_mem ht,by simp[withinF]⟩,?_⟩
      simp
     refine⟨t,?_⟩
     rw[hT,←em,mget_of_mem hg.nodup hmem]
    ·have hsr:s<+:r:=(List.prefix_append_right_inj m').1 hj
     have hkd:glue (k'++s)∈pars (glue (k'++r)):=(mem_pars hkr.good).2 ⟨k'++s,(List.prefix_append_right_inj k').2 hsr,by simp[hkn],by have h5:=hjl;rw[List.length_append,List.length_append]at h5;rw[List.length_append,List.length_append];exact Nat.add_lt_add_left (Nat.lt_of_add_lt_add_left h5) _,rfl⟩
     obtain⟨t,ht⟩:=hA.above _ _ hold _ hkd
     have hcks:=good_pre hkr ((List.prefix_append_right_inj k').2 hsr)
     have hmem:(glue (m'++s),(true,t))∈movedF A p q:=by
      unfold movedF
      refine List.mem_map.2 ⟨(glue (k'++s),(true,t)),List.mem_filter.2 ⟨mget_mem ht,?_⟩,?_⟩
      ·rw[ek];exact(Pth.within_iff hcks.good hk0.good).2 (List.prefix_append _ _)
      ·show(q++(glue (k'++s)).drop p.length,_)=_
       rw[ek,em,glue_move hkn hmn]
     refine⟨t,?_⟩
     rw[hT,mget_of_mem hg.nodup hmem]
  ·rcases (hlm k hl).2.2.2 d hd with h1|⟨t,h1⟩
   ·exact hlk d h1
   ·refine hto d t (hnm d _ h1) (.inr ?_) h1
    refine habove d ?_
    have hkq:=(lack_none hl).1
    rw[em]at hkq ⊢
    obtain⟨j,hj,hjn,hjl,rfl⟩:=(mem_pars hm0.good).1 hkq
    obtain⟨i,hi,hin,hil,rfl⟩:=(mem_pars (good_pre hm0 hj).good).1 hd
    exact(mem_pars hm0.good).2 ⟨i,hi.trans hj,hin,by omega,rfl⟩
  ·obtain⟨t,ht⟩:=hA.above _ _ hm _ hd
   refine hto d t (hnm d _ ht) ?_ ht
   rcases hw with hw|hw
   ·exact .inl hw
   ·refine .inr ?_
    cases hwd:withinF d p with
    |false=>rfl
    |true=>
     obtain⟨⟨l,e,hl⟩,_⟩:=hA.clean k n hm
     rw[e]at hd hw
     obtain⟨j,hj,hjn,hjl,rfl⟩:=(mem_pars hl.good).1 hd
     rw[ek]at hwd hw
     have h1:=(Pth.within_iff (good_pre hl hj).good hk0.good).1 hwd
     rw[(Pth.within_iff hl.good hk0.good).2 (h1.trans hj)]at hw;cases hw
 ·rw[hcs,hms]
  cases stays with
  |true=>
   simp only[if_true]at hsp
   show sizeT A+_≤_
   omega
  |false=>
   simp only[Bool.false_eq_true,if_false]at hsp
   have hAs:=hA.size
   have e:restF A p false=A.filter fun x=> !withinF x.1 p:=rfl
   rw[e,hMs];omega
 ·rw[hcl,hml]
  cases stays with
  |true=>
   simp only[if_true]at hsp
   show A.length+_+_≤_
   omega
  |false=>
   simp only[Bool.false_eq_true,if_false]at hsp
   have e:restF A p false=A.filter fun x=> !withinF x.1 p:=rfl
   rw[e,hM];omega
 ·rcases hfrom k n h with hm|⟨hl,rfl⟩|⟨hw,hm⟩
  ·obtain⟨k',m',r,e1,e2,hkr,hmr,e,hold⟩:=hg.keys _ hm
   exact hA.file _ _ hold
  ·exact⟨by simp,fun _=>rfl⟩
  ·exact hA.file k n hm
theorem Okay.twoF {A:Tr} (hA:Okay A) (s t:Txt) (stays:Bool):Okay (twoF A s t stays).1:=by
 unfold Tre.twoF
 split
 ·rename_i h0
  split
  ·rename_i h1;exact hA.two (clean_of h0) (clean_of h1) stays
  ·exact hA
 ·exact hA
end Go.Tre
