import Derived.Test.YtjdieklgoepdjaaGreatDoorKi
import Derived.Test.YtjdieklgoepdjaaGreatDoorKr
import Derived.Test.YtjdieklgoepdjaaGreatDoorKs
import Derived.Test.YtjdieklgoepdjaaGreatDoorKd
set_option linter.unusedVariables false
set_option linter.unusedSimpArgs false
set_option maxRecDepth 100000
/- An element of several cells stored into an own slice; the last element cleared. -/
namespace Go.Vc
variable {P:Program} {H:Heap}
theorem LstV.set {α:Type} {E:Heap→α→List Value→Prop} {s:Nat} (ok:EncOk E s) {H:Heap} {l:List α} {vs:List Value} (h:LstV E H l vs): ∀ {j:Nat} {x:α} {c:List Value},E H x c→j<l.length→LstV E H (l.set j x) (vs.take (j*s)++c++vs.drop (j*s+s)):=by
 induction h with
 |nil=>intro j x c _ hj;cases hj
 |cons hy ht ih=>
  rename_i y cy vs l
  intro j x c hx hj
  have hl:=ok.len hy
  cases j with
  |zero=>
   rw[List.set_cons_zero,Nat.zero_mul,Nat.zero_add,List.take_zero,List.nil_append,←hl,List.drop_left]
   exact .cons hx ht
  |succ j=>
   have e1:(j+1)*s=cy.length+j*s:=by rw[hl,Nat.succ_mul];omega
   rw[List.set_cons_succ,e1,Nat.add_assoc,List.take_length_add_append,List.drop_length_add_append,List.append_assoc,List.append_assoc,←List.append_assoc]
   rw[List.append_assoc cy,←List.append_assoc (List.take (j*s) vs)]
   exact .cons hy (ih hx (by simpa using hj))
theorem DoH.store_elE {α:Type} {E:Heap→α→List Value→Prop} {s:Nat} (ok:EncT E s (fun _=>False)) {t e:TypeId} {i:TypeInfo} {base g cap o:Nat} {l:List α} {K:Heap→Prop} (ho:OwnE E s H base e (some ⟨g,0,none⟩) l cap) {x:α} {c:List Value} (hx:E H x c) {j:Nat} (hj:j<l.length) (hoj:o=j*s) (hi:P.info? t=some i) (his:i.size=s)
  (hk: ∀ H',H'.size=H.size→OwnE E s H' base e (some ⟨g,0,none⟩) (l.set j x) cap→But g H H'→K H'):DoH P (Instr.storeAt t (.pointer (some ⟨g,o,none⟩)) (.agg c.toArray)) H K:=by
 subst hoj
 obtain⟨vs,h1,h2⟩:=ho.out
 have hcl:=ok.len hx
 have hvl:=h2.len ok.ok
 rcases h1.out with ⟨ha,_⟩|⟨g',cur,ha,hb,hg,hnc,hmc,hcs,htake⟩
 ·cases ha
 ·cases ha
  have hns:l.length*s≤cap*s:=Nat.mul_le_mul_right _ hnc
  have hjs:j*s+s≤l.length*s:=by rw[←Nat.succ_mul];exact Nat.mul_le_mul_right _ hj
  refine DoH.store (v:= .agg c.toArray) hg hi (by rw[his];simpa [Value.cells]using hcl) (by simpa [Value.cells]using ok.plain hx) (by rw[his];omega) fun H' z b k=>hk H' z ?_ k
  have hsame:LstV E H' (l.set j x) (vs.take (j*s)++c++vs.drop (j*s+s)):=(h2.set ok.ok hx hj).imp fun y d hy=>ok.keep k (fun _ _ _ _ _ h=>h) hy
  refine⟨_,⟨?_,.inr ⟨g,_,rfl,hb,b,by rw[List.length_set];exact hnc,hmc,by rw[over_size];exact hcs,?_⟩⟩,hsame⟩
  ·rw[hsame.len ok.ok]
  ·rw[List.length_set]
   apply List.ext_getElem?
   intro q
   have hvq: ∀ q,vs[q]? =if q<l.length*s then cur[q]? else none:=fun q=>by
    rw[←htake,List.getElem?_take,Array.getElem?_toList]
   rw[List.getElem?_take,Array.getElem?_toList]
   have hov:=over_get c cur (j*s) q (by omega)
   rw[show(Value.agg c.toArray).cells.toList=c by simp[Value.cells],hov]
   by_cases hq:q<l.length*s
   ·rw[if_pos hq]
    by_cases h3:j*s≤q∧q<j*s+c.length
    ·rw[if_pos h3,List.append_assoc,List.getElem?_append_right (by rw[List.length_take];omega),List.getElem?_append_left (by rw[List.length_take];omega),List.length_take]
     congr 1;omega
    ·rw[if_neg h3]
     by_cases h4:q<j*s
     ·rw[List.append_assoc,List.getElem?_append_left (by rw[List.length_take];omega),List.getElem?_take,if_pos h4,hvq,if_pos hq]
     ·rw[List.getElem?_append_right (by rw[List.length_append,List.length_take];omega),List.getElem?_drop,List.length_append,List.length_take,hvq,if_pos (by omega)]
      congr 1;omega
   ·rw[if_neg hq,List.getElem?_eq_none (by rw[List.length_append,List.length_append,List.length_take,List.length_drop];omega)]
theorem NextH.clearLast {t et ty e:TypeId} {i:TypeInfo} {z:Value} {zs:List Value} {cb:Array Bool} {base g n cap m o s r:Nat} {xs:List Value} {K:Value→Heap→Prop} (ho:Own H base e s (some ⟨g,0,none⟩) n cap xs) (ht:P.underlying t=some (.slice et)) (hi:P.info? et=some i) (hz:i.zero=some z) (hzs:(Builtin.zeroCells z.cells 1).toList=zs) (hzl:zs.length=s) (hzp: ∀ u∈zs,plainV u=true) (hm:m+1=n) (hom:o=m*s)
  (h: ∀ H',H'.size=H.size→Own H' base e s (some ⟨g,0,none⟩) m cap (xs.take (m*s))→But g H H'→K (.tuple #[]) H'):NextH P (builtin .clear #[t] ty cb #[.slice (some ⟨g,o,none⟩) 1 r]) H K:=by
 subst hom
 rcases ho.out with ⟨ha,_⟩|⟨g',cur,ha,hb,hg,hnc,hmc,hcs,htake⟩
 ·cases ha
 cases ha
 refine⟨fun w hw=> ?_⟩
 subst hw
 obtain⟨fr,hg1,hg2⟩:=id hg.out
 have hns:n*s≤cap*s:=Nat.mul_le_mul_right _ hnc
 have hms:m*s+s=n*s:=by rw[←hm,Nat.succ_mul]
 obtain⟨w',hr,hs,_,hw'⟩:=run_storeCells (P:=P) g e fr zs (m*s) 0 w cur hg1 hg2 hzp (by rw[hzl];omega)
 have hc:(Builtin.clear_ #[t] ty #[.slice (some ⟨g,m*s,none⟩) 1 r]).run P w= .ok (.tuple #[]) w':=by
  simp[Builtin.clear_,Sem.run_bind,underlying_of ht,zeroValue,typeInfo_of hi,hz,Result.andThen_ok,hzs,hr]
 show Nexts P w K ((do pure (.value (←Builtin.clear_ #[t] ty #[.slice (some ⟨g,m*s,none⟩) 1 r])):Sem Next).run P w)
 rw[Sem.run_bind,hc]
 have hz':w'.heap.size=w.heap.size:=by rw[hw'];simp
 have hb':Blk w'.heap g (over cur (m*s+0) zs) e:=⟨fr,by rw[hw',Array.getElem?_setIfInBounds_self_of_lt hg.lt],by rw[over_size];exact hg2⟩
 refine⟨hs,h _ hz' ⟨?_,.inr ⟨_,_,rfl,hb,hb',by omega,hmc,by rw[over_size];exact hcs,?_⟩⟩ (by rw[hw'];exact Only.set _ _ _)⟩
 ·rw[List.length_take,ho.len];omega
 ·rw[←htake,List.take_take]
  apply List.ext_getElem?
  intro k
  rw[List.getElem?_take,List.getElem?_take]
  by_cases hk:k<m*s
  ·rw[if_pos hk,if_pos (by omega),Array.getElem?_toList,Array.getElem?_toList,over_low _ _ _ _ (by omega)]
  ·rw[if_neg hk,if_neg (by omega)]
end Go.Vc
namespace Go.Proofs.YtjdieklgoepdjaaGreatDoor
open Go Go.Vc Go.Scr Go.Slv
open Go.Why (SortN sortN_at coreL coreF CoreI namesN)
theorem cmpT_up {a b:Txt} (h:Op.bytesLess b a=true):cmpT a b=1:=by
 unfold cmpT
 rw[if_neg (by rw[lt_as h];simp),if_pos h]
set_option maxHeartbeats 2000000 in
theorem wcmp_any (a b:NeedP) (ca cb:List Value) (Ha Hb H:Heap) (ea:needE Ha a ca) (eb:needE Hb b cb):
  CallH Tryz.prog 69 [.agg ca.toArray,.agg cb.toArray] H fun x H'=>x= .int .i64 (cmpT a.name b.name)∧Ext H H':=by
 obtain⟨sa,sc,ec,hsl,hsr⟩:=id ea
 obtain⟨sa',sc',ec',hsl',hsr'⟩:=id eb
 refine Vc.CallH.body Tryz.func69 Tryz.call69 rfl (by decide+kernel) rfl ?_
 ((conv=>whnf);repeat(any_goals((first|refine Vc.stp ?_)<;>(intros;(conv=>whnf)))))
 rename_i H1 z1 b1 x1 H2 z2 b2 x2
 have hn0:hcell H1 ⟨H.size,0+0,none⟩=some (Value.string (mkS a.name)):=blk_list b1 0 0 _ (by rw[ec];rfl)
 have hn1:hcell H2 ⟨H1.size,0+0,none⟩=some (Value.string (mkS b.name)):=blk_list b2 0 0 _ (by rw[ec'];rfl)
 ((conv=>whnf);repeat(any_goals((first|(refine(cmps_any a.name b.name _).mono ?_;rintro _ _ ⟨rfl,rfl⟩)|refine Vc.stp ?_)<;>(intros;(conv=>whnf)))))
 exact⟨rfl,x1.trans x2⟩
set_option maxHeartbeats 2000000 in
theorem nisort_any (l:List NeedP) (hs:SortN l) (a:Option Addr) (n cap:Nat) (H:Heap) (hr:RowE needE H a l) (hn:l.length=n) (hnl:n≤1000):
  CallH Tryz.prog 154 [.slice a n cap,.int .i64 0,.int .i64 (n:Int),.func (.func 69) #[] #[]] H fun v H'=>v= .tuple #[]∧Ext H H':=by
 refine Vc.CallH.body Tryz.func154 Tryz.call154 rfl (by decide+kernel) rfl ?_
 ((conv=>whnf);repeat(any_goals((first|refine Vc.stp ?_)<;>(intros;(conv=>whnf)))))
 refine LoopH.intro (fun(i:Nat)=>[(8,.int .i64 i)]) (fun i H'=>1≤i∧i≤n+1∧Ext H H') (fun i=>n+1-i) 1 ⟨rfl,trivial⟩ ⟨Nat.le_refl _,by omega,Ext.refl _⟩ ?_
 rintro i H1 ⟨hi1,hi2,hx1⟩
 have hz1:=hx1.size
 by_cases hlt:i<n
 ·((conv=>whnf);repeat(any_goals((first|refine Vc.stp ?_)<;>(intros;(conv=>whnf)))))
  refine LoopH.intro (fun(j:Nat)=>[(9,.int .i64 j)]) (fun j H'=>j=i∧Ext H H') (fun j=>j) i ⟨rfl,trivial⟩ ⟨rfl,hx1⟩ ?_
  rintro j H2 ⟨rfl,hx2⟩
  obtain⟨m,rfl⟩: ∃ m,j=m+1:=⟨j-1,by omega⟩
  obtain⟨x,hx⟩: ∃ x,l[m+1]? =some x:=⟨_,List.getElem?_eq_getElem (by omega)⟩
  obtain⟨y,hy⟩: ∃ y,l[m]? =some y:=⟨_,List.getElem?_eq_getElem (by omega)⟩
  have hls:=sortN_at hs hy hx (Nat.lt_succ_self m)
  have hcx:cmpT x.name y.name=1:=cmpT_up hls
  ((conv=>whnf);repeat(any_goals((first|(refine IdxA.el need_ok (by decide) (hr.ext need_ok hx2) hn (m+1) x rfl hx ?_;intro b o c hcN hcl)|(refine IdxA.el need_ok (by decide) (hr.ext need_ok hx2) hn m y (by omega) hy ?_;intro b' o' c' hcM hcl')|((with_reducible apply SemH.load_el);rfl;rfl;(show 4=_;exact(need_ok.len hcN).symm);(exact hcl);(exact Vc.xt);(conv=>whnf))|((with_reducible apply SemH.load_el);rfl;rfl;(show 4=_;exact(need_ok.len hcM).symm);(exact hcl');(exact Vc.xt);(conv=>whnf))|(refine(wcmp_any x y _ _ _ _ _ hcN hcM).mono ?_;rintro _ H3 ⟨rfl,hx3⟩;have hz3:=hx3.size;rw[hcx])|refine Vc.stp ?_)<;>(intros;(conv=>whnf)))))
  exact⟨m+1+1,⟨rfl,trivial⟩,⟨by omega,by omega,hx2.trans (by exact Vc.xt)⟩,by omega⟩
 ·((conv=>whnf);repeat(any_goals((first|refine Vc.stp ?_)<;>(intros;(conv=>whnf)))))
  exact⟨rfl,hx1⟩
set_option maxHeartbeats 2000000 in
theorem nstable_any (l:List NeedP) (hs:SortN l) (a:Option Addr) (n cap:Nat) (H:Heap) (hr:RowE needE H a l) (hn:l.length=n) (hnl:n≤19):
  CallH Tryz.prog 111 [.slice a n cap,.int .i64 (n:Int),.func (.func 69) #[] #[]] H fun v H'=>v= .tuple #[]∧Ext H H':=by
 refine Vc.CallH.body Tryz.func111 Tryz.call111 rfl (by decide+kernel) rfl ?_
 ((conv=>whnf);repeat(any_goals((first|refine Vc.stp ?_)<;>(intros;(conv=>whnf)))))
 refine LoopH.intro (fun(i:Nat)=>[(7,.int .i64 0),(8,.int .i64 20)]) (fun i H'=>H=H') (fun i=>0) 0 ⟨rfl,rfl,trivial⟩ rfl ?_
 rintro i _ rfl
 ((conv=>whnf);repeat(any_goals((first|refine Vc.stp ?_)<;>(intros;(conv=>whnf)))))
 refine(nisort_any l hs a n cap H hr hn (by omega)).mono ?_
 rintro _ H1 ⟨rfl,hx1⟩
 ((conv=>whnf);repeat(any_goals((first|refine Vc.stp ?_)<;>(intros;(conv=>whnf)))))
 refine LoopH.intro (fun(i:Nat)=>[(6,.int .i64 20)]) (fun i H'=>H1=H') (fun i=>0) 0 ⟨rfl,trivial⟩ rfl ?_
 rintro i _ rfl
 ((conv=>whnf);repeat(any_goals((first|refine Vc.stp ?_)<;>(intros;(conv=>whnf)))))
 exact⟨rfl,hx1⟩
set_option maxHeartbeats 2000000 in
theorem nssort_any (l:List NeedP) (hs:SortN l) (a:Option Addr) (n cap:Nat) (H:Heap) (hr:RowE needE H a l) (hn:l.length=n) (hnl:n≤19):
  CallH Tryz.prog 68 [.slice a n cap,.func (.func 69) #[] #[]] H fun v H'=>v= .tuple #[]∧Ext H H':=by
 refine Vc.CallH.body Tryz.func68 Tryz.call68 rfl (by decide+kernel) rfl ?_
 ((conv=>whnf);repeat(any_goals((first|(refine(nstable_any l hs a n cap H hr hn hnl).mono ?_;rintro _ H1 ⟨rfl,hx1⟩)|refine Vc.stp ?_)<;>(intros;(conv=>whnf)))))
 exact⟨rfl,hx1⟩
set_option maxHeartbeats 2000000 in
theorem wcore3_any (n:NeedP) (k:Bs) (g1:Nat) (c:List Value) (H0 H:Heap) (hE:needE H0 n c) (h1:Blk H g1 #[.string (mkS k)] 9):
  CallH Tryz.prog 72 [.agg c.toArray,.pointer (some ⟨g1,0,none⟩)] H fun x H'=>x= .bool (n.name==k)∧Ext H H':=by
 obtain⟨sa,sc,ec,hsl,hsr⟩:=id hE
 have e1:((mkS n.name).toList==(mkS k).toList)=(n.name==k):=by rw[toListS,toListS]
 refine Vc.CallH.body Tryz.func72 Tryz.call72 rfl (by decide+kernel) rfl ?_
 ((conv=>whnf);repeat(any_goals((first|(refine Vc.SemH.box ?_;intro Hb zb bb xb;have hn0:hcell Hb ⟨H.size,0+0,none⟩=some (Value.string (mkS n.name)):=blk_list bb 0 0 _ (by rw[ec];rfl))|refine Vc.stp ?_)<;>(intros;(conv=>whnf)))))
 exact⟨by show Value.bool _=_;rw[e1],by exact Vc.xt⟩
theorem IdxA.atK4 {g o n size:Nat} {i:Int} {K:Addr→Prop} (j:Nat) (hi:i=j) (hj:j<n) (hk:K ⟨g,o+j*size,none⟩):IdxA (some ⟨g,o,none⟩) n size i K:=by
 subst hi
 exact⟨by omega,by omega,_,rfl,by rw[addk,Int.toNat_natCast];exact hk⟩
def shiftL (l:List NeedP) (j t:Nat):List NeedP:=(l.eraseIdx j).take (t-1)++l.drop (t-1)
theorem shiftL_len {l:List NeedP} {j t:Nat} (hj:j<l.length) (ht:t≤l.length) (h1:1≤t):(shiftL l j t).length=l.length:=by
 unfold shiftL
 rw[List.length_append,List.length_take,List.length_drop,List.length_eraseIdx,if_pos hj]
 omega
theorem shiftL_start {l:List NeedP} {j:Nat} (hj:j<l.length):shiftL l j (j+1)=l:=by
 unfold shiftL
 rw[Nat.add_sub_cancel]
 have:(l.eraseIdx j).take j=l.take j:=by
  rw[List.eraseIdx_eq_take_drop_succ,List.take_append_of_le_length (by rw[List.length_take];omega),List.take_take,Nat.min_self]
 rw[this,List.take_append_drop]
theorem shiftL_at {l:List NeedP} {j t:Nat} {x:NeedP} (hj:j<t) (hx:l[t]? =some x):(shiftL l j t)[t]? =some x∧(shiftL l j t).set (t-1) x=shiftL l j (t+1):=by
 have ht:t<l.length:=(List.getElem?_eq_some_iff.1 hx).1
 have hel:(l.eraseIdx j).length=l.length-1:=by rw[List.length_eraseIdx,if_pos (by omega)]
 have htl:((l.eraseIdx j).take (t-1)).length=t-1:=by rw[List.length_take];omega
 unfold shiftL
 constructor
 ·rw[List.getElem?_append_right (by omega),htl,List.getElem?_drop,show t-1+(t-(t-1))=t by omega]
  exact hx
 ·have e1:l.drop (t-1)=l[t-1]::l.drop t:=by rw[List.drop_eq_getElem_cons (by omega),show t-1+1=t by omega]
  have e2:(l.eraseIdx j).take t=(l.eraseIdx j).take (t-1)++[x]:=by
   have:(l.eraseIdx j)[t-1]? =some x:=by rw[List.getElem?_eraseIdx,if_neg (by omega),show t-1+1=t by omega];exact hx
   have h9:=List.take_add_one (l:=l.eraseIdx j) (i:=t-1)
   rw[show t-1+1=t by omega,this]at h9
   exact h9
  rw[show t+1-1=t by omega,e2,e1,List.set_append_right _ _ (by omega),htl,Nat.sub_self]
  simp
theorem shiftL_end {l:List NeedP} {j:Nat} (hj:j<l.length):(shiftL l j l.length).take (l.length-1)=l.eraseIdx j:=by
 have hel:(l.eraseIdx j).length=l.length-1:=by rw[List.length_eraseIdx,if_pos hj]
 unfold shiftL
 rw[List.take_append_of_le_length (by rw[List.length_take];omega),List.take_take,Nat.min_self,List.take_of_length_le (by omega)]
set_option maxHeartbeats 4000000 in
theorem ndelete_any (l:List NeedP) (k:Bs) (j:Nat) (hj:l.findIdx? (fun x=>x.name==k)=some j) (hno: ∀ q x,l[q]? =some x→q≠j→(x.name==k)=false) (g1:Nat) (H0:Heap) (base g n cap:Nat) (H:Heap) (k0:Ext H0 H) (hb0:H0.size≤base) (ho:OwnE (constE needE H0) 4 H base 45 (some ⟨g,0,none⟩) l cap) (hn:l.length=n) (hnl:n≤1000) (h1:Blk H g1 #[.string (mkS k)] 9) (hg1:g1≠g):
  CallH Tryz.prog 71 [.slice (some ⟨g,0,none⟩) n cap,.func (.func 72) #[] #[.pointer (some ⟨g1,0,none⟩)]] H fun v H'=>v= .slice (some ⟨g,0,none⟩) (n-1:Nat) cap∧OwnE (constE needE H0) 4 H' base 45 (some ⟨g,0,none⟩) (l.eraseIdx j) cap∧But g H H':=by
 have ok:=const_ok need_ok H0
 have hjl:j<l.length:=(List.findIdx?_eq_some_iff_getElem.1 hj).1
 have hix:=fun H' (x:Ext H H')=>ixneed_any l (fun x=>x.name==k) 72 (.pointer (some ⟨g1,0,none⟩)) (some ⟨g,0,none⟩) n cap H H' x (ho.row.unconst need_ok k0) hn (by omega) fun y c H'' hm hc hk=>wcore3_any y k g1 c H H'' hc (h1.ext (x.trans hk))
 rw[hj]at hix
 refine Vc.CallH.body Tryz.func71 Tryz.call71 rfl (by decide+kernel) rfl ?_
 have hix: ∀ H',Ext H H'→CallH Tryz.prog _ _ H' fun v H''=>v= .int .i64 (j:Int)∧Ext H' H'':=hix
 ((conv=>whnf);repeat(any_goals((first|(refine(hix _ (by exact Vc.xt)).mono ?_;rintro _ H1 ⟨rfl,hx1⟩;have hz1:=hx1.size)|refine Vc.stp ?_)<;>(intros;(conv=>whnf)))))
 refine LoopH.intro (fun(m:Nat)=>[(6,.int .i64 ((m+1:Nat):Int)),(5,.int .i64 (m:Int))]) (fun m H'=>j≤m∧m+1≤n∧OwnE (constE needE H0) 4 H' base 45 (some ⟨g,0,none⟩) (shiftL l j (m+1)) cap∧But g H H') (fun m=>n-m) j ⟨rfl,rfl,trivial⟩ ⟨Nat.le_refl _,by omega,by rw[shiftL_start hjl];exact ho.ext ok.ok hx1,Only.trans (Only.refl _ _) hx1 fun _ _ h=>h.elim⟩ ?_
 rintro m H2 ⟨hjm,hmn,ho2,hk2⟩
 have hz2:=hk2.size
 have hll:=shiftL_len hjl (t:=m+1) (by omega) (by omega)
 rw[hn]at hll
 by_cases hlt:m+1<n
 ·obtain⟨x,hx⟩: ∃ x,l[m+1]? =some x:=⟨_,List.getElem?_eq_getElem (by omega)⟩
  obtain⟨hat,hset⟩:=shiftL_at (j:=j) (by omega) hx
  rw[Nat.add_sub_cancel]at hset
  have hdl:=hno (m+1) x hx (by omega)
  obtain⟨bW,oW,c,hcN,hcl,hixW⟩:=ho2.row.fix ok.ok (by decide) hll hat
  have hcN:needE H0 x c:=hcN
  ((conv=>whnf);repeat(any_goals((first|(refine hixW _ _ rfl ?_)|((with_reducible apply SemH.load_el);rfl;rfl;(show 4=_;exact(need_ok.len hcN).symm);(exact hcl);(exact Vc.xt);(conv=>whnf))|((fail_if_success (have:=b3));rename_i Hl zl bl xl;refine DoH.store_list bl rfl (by exact need_ok.len hcN) (by rw[need_ok.len hcN];rfl) (by exact need_ok.plain hcN) ?_;intro H3 z3 b3 k3;have hvw:=fun k u hu=>blk_list b3 0 k u (by rw[Nat.zero_add];exact hu);have hx23:Ext H2 H3:=xl.but k3 (Nat.le_refl _);have h13:=(h1.but hk2 hg1).ext hx23)|((with_reducible apply SemH.load_el);rfl;rfl;(show 4=_;exact(need_ok.len hcN).symm);(exact hvw);(exact Vc.xt);(conv=>whnf))|(refine(wcore3_any x k g1 c H0 _ hcN h13).mono ?_;rintro _ H4 ⟨rfl,hx4⟩;have hz4:=hx4.size;rw[hdl])|refine Vc.stp ?_)<;>(intros;(conv=>whnf)))))
  have hx24:=hx23.trans hx4
  have ho4:=ho2.ext ok.ok hx24
  ((conv=>whnf);repeat(any_goals((first|(refine IdxA.atK4 m rfl (by omega) ?_)|((with_reducible apply SemH.load_el);rfl;rfl;(show 4=_;exact(need_ok.len hcN).symm);(exact hvw);(exact Vc.xt);(conv=>whnf))|refine Vc.stp ?_)<;>(intros;(conv=>whnf)))))
  refine DoH.store_elE (s:=4) ok ho4 (x:=x) hcN (j:=m) (by omega) (by omega) rfl rfl ?_
  intro H5 hz5 ho5 hk5
  rw[hset]at ho5
  ((conv=>whnf);repeat(any_goals((first|refine Vc.stp ?_)<;>(intros;(conv=>whnf)))))
  exact⟨m+1,⟨rfl,rfl,trivial⟩,⟨by omega,by omega,ho5,Only.trans (Only.trans hk2 hx24 fun _ _ h=>h.elim) hk5 fun _ _ h=>h⟩,by omega⟩
 ·obtain rfl:m+1=n:=by omega
  have hcapl:=ho2.cap_le
  rw[hll]at hcapl
  ((conv=>whnf);repeat(any_goals((first|(refine BndH.nat m rfl (by omega) ?_)|refine Vc.stp ?_)<;>(intros;(conv=>whnf)))))
  have hsi:sliceBase (some ⟨g,0,none⟩) cap m 4=some ⟨g,m*4,none⟩:=by
   unfold sliceBase
   rw[if_neg (by omega),Option.map_some,addk,Nat.zero_add]
  rw[hsi,show m+1-m=1 by omega]
  obtain⟨vs,hv1,hv2⟩:=ho2.out
  rw[hll]at hv1
  refine NextH.clearLast (m:=m) (zs:=[.string ⟨#[]⟩,.bool false,.slice none 0 0,.string ⟨#[]⟩]) hv1 rfl rfl rfl (by kernel_rfl) rfl (fun u hu=>by simp at hu;rcases hu with rfl|rfl|rfl|rfl<;>rfl) rfl rfl ?_
  intro H3 hz3 ho3 hk3
  have hv3:LstV (constE needE H0) H3 (l.eraseIdx j) (vs.take (m*4)):=by
   have h9:=hv2.take ok.ok m
   have h8:=shiftL_end hjl
   rw[hn,Nat.add_sub_cancel]at h8
   rw[h8]at h9
   exact LstV.imp (E:=constE needE H0) (H:=H2) (E':=constE needE H0) (H':=H3) (fun _ _ h=>h) h9
  have hel:(l.eraseIdx j).length=m:=by rw[List.length_eraseIdx,if_pos hjl];omega
  have hk23:=Only.trans hk2 hk3 fun _ _ h=>h
  ((conv=>whnf);repeat(any_goals((first|(refine BndH.nat m rfl (by omega) ?_)|refine Vc.stp ?_)<;>(intros;(conv=>whnf)))))
  exact⟨rfl,⟨_,by rw[hel];exact ho3,hv3⟩,hk23⟩
end Go.Proofs.YtjdieklgoepdjaaGreatDoor
namespace Go.Why
open Go.Scr Go.Tre Go.Slv
theorem fit_nil (R:List RowP):FitP R [] []:=
 ⟨List.Pairwise.nil,fun p hp=>(by cases hp),fun n hn=>(by cases hn),fun r _ hp=>(by cases hp),fun p hp=>(by cases hp)⟩
structure FailsR (R:List RowP) (fails:List NeedP→Bool):Prop where
 iff: ∀ M,fails M=true↔NoFits R M
theorem FailsR.nil {R:List RowP} {fails:List NeedP→Bool} (h:FailsR R fails):fails []=false:=by
 cases e:fails []with
 |false=>rfl
 |true=>exact absurd (fit_nil R) ((h.iff []).1 e [])
end Go.Why
namespace Go.Proofs.YtjdieklgoepdjaaGreatDoor
open Go Go.Vc Go.Scr Go.Slv
open Go.Why (SortN sortN_at coreL coreF CoreI namesN)
def SolvesAs (R:List RowP) (fails:List NeedP→Bool) (N:List NeedP) (ra:Option Addr) (rc:Nat) (H:Heap):Prop:=∀ M na nc H',Ext H H'→M.length≤N.length→(∀ n∈M,n∈N)→RowE needE H' na M→CallH Tryz.prog 35 [.slice ra R.length rc,.slice na M.length nc,.int .i64 1048576] H' fun v H''=>(∃ pv pn pc,v= .tuple #[.slice pv pn pc,.int .i64 (if fails M=true then 70 else 0)])∧Ext H' H''
set_option maxHeartbeats 2000000 in
theorem wcore1_any (R:List RowP) (fails:List NeedP→Bool) (N M:List NeedP) (ra:Option Addr) (rc:Nat) (na:Option Addr) (n nc g0:Nat) (H0 H:Heap) (hs:SolvesAs R fails N ra rc H0) (k0:Ext H0 H) (hl:M.length≤N.length) (hm: ∀ n∈M,n∈N) (hr:RowE needE H na M) (hn:M.length=n) (b0:Blk H g0 #[.slice ra R.length rc] 26):
  CallH Tryz.prog 66 [.slice na n nc,.pointer (some ⟨g0,0,none⟩)] H fun v H'=>v= .bool (fails M)∧Ext H H':=by
 subst hn
 have hc:=hs M na nc H k0 hl hm hr
 obtain⟨b,hb⟩: ∃ b,fails M=b:=⟨_,rfl⟩
 rw[hb]at hc ⊢
 refine Vc.CallH.body Tryz.func66 Tryz.call66 rfl (by decide+kernel) rfl ?_
 cases b with
 |true=>
  ((conv=>whnf);repeat(any_goals((first|(refine hc.mono ?_;rintro _ H1 ⟨⟨pv,pn,pc,rfl⟩,hx1⟩;have hz1:=hx1.size)|refine Vc.stp ?_)<;>(intros;(conv=>whnf)))))
  exact⟨rfl,hx1⟩
 |false=>
  ((conv=>whnf);repeat(any_goals((first|(refine hc.mono ?_;rintro _ H1 ⟨⟨pv,pn,pc,rfl⟩,hx1⟩;have hz1:=hx1.size)|refine Vc.stp ?_)<;>(intros;(conv=>whnf)))))
  exact⟨rfl,hx1⟩
structure CrS where
 i:Nat
 L:List NeedP
 a:Option Addr
 cap:Nat
set_option maxHeartbeats 8000000 in
theorem wcore_any (R:List RowP) (fails:List NeedP→Bool) (hf0:fails []=false) (N:List NeedP) (hNs:SortN N) (ra na:Option Addr) (rc nn nc:Nat) (H:Heap) (hs:SolvesAs R fails N ra rc H) (hN:RowE needE H na N) (hnn:N.length=nn) (hnl:nn≤19):
  CallH Tryz.prog 28 [.slice ra R.length rc,.slice na nn nc] H fun x H'=>(∃ a c,x= .slice a (coreF fails N).length c∧(coreF fails N).length≤c∧Row H' a (strs (coreF fails N)))∧Ext H H':=by
 have hC0:coreF fails N=if fails N then(coreL fails [] N).map (·.name)else []:=rfl
 obtain⟨F,hF⟩: ∃ F,coreF fails N=F:=⟨_,rfl⟩
 rw[hF]at hC0 ⊢
 refine Vc.CallH.body Tryz.func28 Tryz.call28 rfl (by decide+kernel) rfl ?_
 ((conv=>whnf);repeat(any_goals((first|(refine SemH.mkFunc ?_)|refine Vc.stp ?_)<;>(intros;(conv=>whnf)))))
 rename_i H1 z1 b1 x1
 have b1:Blk H1 H.size #[.slice ra R.length rc] 26:=b1
 refine(wcore1_any R fails N N ra rc na nn nc H.size H H1 hs x1 (Nat.le_refl _) (fun n hn=>hn) (hN.ext need_ok x1) hnn b1).mono ?_
 rintro _ H2 ⟨rfl,hx2⟩
 have hz2:=hx2.size
 cases hf:fails N with
 |false=>
  rw[hf]at hC0
  have hC0:F=[]:=hC0
  rw[hC0]
  ((conv=>whnf);repeat(any_goals((first|refine Vc.stp ?_)<;>(intros;(conv=>whnf)))))
  exact⟨⟨none,0,rfl,Nat.le_refl _,Row.nil _ _⟩,x1.trans hx2⟩
 |true=>
  rw[hf]at hC0
  have hC0:F=(coreL fails [] N).map (·.name):=hC0
  have ok:=const_ok need_ok H
  have hcl:=fun H' (k:Ext H H') a n cap (L:List NeedP) (hr:RowE (constE needE H) H' a L) (hn:L.length=n) (hl:n≤19)=>cloneN_any ok L a n cap H' hr hn (by omega)
  ((conv=>whnf);repeat(any_goals((first|((fail_if_success (have:=hx3));show Go.Vc.CallH _ _ _ _ _;refine(hcl _ (by exact Vc.xt) na nn nc N (hN.const.ext ok.ok (x1.trans (by exact Vc.xt))) hnn (by omega)).mono ?_;rintro _ H3 ⟨⟨la,lc,rfl,hol⟩,hx3⟩;have hz3:=hx3.size)|(refine SemH.mkFunc ?_)|((fail_if_success (have:=hx4));show Go.Vc.CallH _ _ _ _ _;refine(nssort_any N hNs la nn lc _ (hol.row.unconst need_ok (x1.trans (hx2.trans hx3))) hnn (by omega)).mono ?_;rintro _ H4 ⟨rfl,hx4⟩;have hz4:=hx4.size)|((fail_if_success (have:=hx5));show Go.Vc.CallH _ _ _ _ _;refine(wnames_any N la nn lc _ ((hol.row.unconst need_ok (x1.trans (hx2.trans hx3))).ext need_ok hx4) hnn (by omega)).mono ?_;rintro _ H5 ⟨⟨ka,kc,rfl,hok⟩,hx5⟩;have hz5:=hx5.size)|refine Vc.stp ?_)<;>(intros;(conv=>whnf)))))
  obtain⟨C,hC⟩: ∃ C,coreL fails [] N=C:=⟨_,rfl⟩
  have hCs:C.Sublist N:=by have:=Go.Why.coreL_sub (fails:=fails) N [];rw[hC]at this;exact this
  have hst:CoreI fails N C 0 N:=by rw[←hC];exact CoreI.start
  rw[hC]at hC0
  have hx5H:=And.intro trivial (x1.trans (hx2.trans (hx3.trans (hx4.trans hx5))))
  have hL5:RowE (constE needE H) H5 la N:=hol.row.ext ok.ok (hx4.trans hx5)
  have hlc:=hol.cap_le
  have b15:=b1.ext (hx2.trans (hx3.trans (hx4.trans hx5)))
  rw[Go.Why.sortN_names hNs,List.length_map]at hok
  rw[Go.Why.sortN_names hNs,List.length_map]
  have hkr:=hok.row
  have hml:(N.map (·.name)).length=N.length:=List.length_map _
  clear hol hok hx2 hx3 hx4 hx5 b1 x1
  refine LoopH.intro (fun(x:CrS)=>[(22,.int .i64 x.i),(6,.slice x.a x.L.length x.cap)]) (fun x H'=>x.i≤N.length∧RowE (constE needE H) H' x.a x.L∧x.L.length≤x.cap∧CoreI fails N C x.i x.L∧And True (Ext H5 H')) (fun x=>N.length-x.i) ⟨0,N,la,lc⟩ ⟨rfl,by show Value.slice _ _ _=Value.slice _ _ _;rw[hnn],trivial⟩ ⟨Nat.zero_le _,hL5,hlc,hst,trivial,Ext.refl _⟩ ?_
  clear hL5 hst
  rintro⟨i,L,a2,c2⟩ H6 ⟨hi,hL6,hLc,hci,hx6⟩
  dsimp only at hi hL6 hLc hci ⊢
  have hz6:=hx6.2.size
  have hsub:=hci.sub
  have hLl:=hsub.length_le
  have hx6H:=And.intro trivial (hx5H.2.trans hx6.2)
  by_cases hlt:i<N.length
  ·obtain⟨n,hn⟩: ∃ n,N[i]? =some n:=⟨_,List.getElem?_eq_getElem hlt⟩
   obtain⟨j,hj,hno,hyes,hnot⟩:=hci.at hNs hn
   have hjl:=(List.getElem?_eq_some_iff.1 hj).1
   have hfi:=Go.Why.del_erase hj hno
   have hno2: ∀ q x,L[q]? =some x→q≠j→(x.name==n.name)=false:=fun q x hx hq=>by have:=hno q x hx hq;simp[this]
   have hkn:(N.map (·.name))[i]? =some n.name:=by rw[List.getElem?_map,hn];rfl
   obtain⟨D,hD⟩: ∃ D,L.eraseIdx j=D:=⟨_,rfl⟩
   rw[hD]at hyes hnot
   have hDl:D.length=L.length-1:=by rw[←hD,List.length_eraseIdx,if_pos hjl]
   have hDs:D.Sublist N:=by rw[←hD];exact(List.eraseIdx_sublist L j).trans hsub
   have hfl:=fun H' (k:Ext H5 H') a c (hr:RowE needE H' a D)=>wcore1_any R fails N D ra rc a (L.length-1) c H.size H H' hs (hx5H.2.trans k) hDs.length_le (fun n hn=>hDs.subset hn) hr hDl (b15.ext k)
   ((conv=>whnf);repeat(any_goals((first|(refine IdxA.strv (hkr.ext hx6.2) hml i n.name rfl hkn ?_;intro _ _ _ _ _)|((fail_if_success (have:=hx7));show Go.Vc.CallH _ _ _ _ _;rename_i Ha za ba xa Hb zb bb kb;have xb:Ext H6 Hb:=xa.but kb (Nat.le_refl _);refine(hcl _ (hx6H.2.trans (by exact Vc.xt)) a2 _ c2 L (hL6.ext ok.ok (by exact Vc.xt)) rfl (by omega)).mono ?_;rintro _ H7 ⟨⟨ga,gc,rfl,hog⟩,hx7⟩;have hz7:=hx7.size)|refine Vc.stp ?_)<;>(intros;(conv=>whnf)))))
   have bb:Blk Hb H6.size #[.string (mkS n.name)] 9:=bb
   obtain⟨g,hg⟩: ∃ g,ga=some ⟨g,0,none⟩:=by
    obtain⟨vs,h1,_⟩:=hog.out
    rcases h1.out with ⟨_,h,_⟩|⟨g,cur,h,_⟩
    ·omega
    ·exact⟨g,h⟩
   subst hg
   have hgb:=(hog.block _ rfl).1
   have hx67:=And.intro trivial (xb.trans hx7)
   have hdel:=ndelete_any L n.name j hfi hno2 H6.size H Hb.size g _ gc H7 (hx6H.2.trans hx67.2) (by have:=hx6H.2.size;have:=xb.size;omega) hog rfl (by omega) (bb.ext hx7) (by have:Hb.size≤g:=hgb;omega)
   rw[hD]at hdel
   have hgb:Hb.size≤g:=hgb
   cases hfd:fails D with
   |true=>
    rw[hfd]at hfl
    ((conv=>whnf);repeat(any_goals((first|(refine SemH.mkFunc ?_)|((fail_if_success (have:=hod));show Go.Vc.CallH _ _ _ _ _;refine hdel.mono ?_;rintro _ H8 ⟨rfl,hod,hkd⟩;have hz8:=hkd.size;have hx68:And True (Ext H6 H8):=And.intro trivial (hx67.2.but hkd (by omega)))|((fail_if_success (have:=hx9));show Go.Vc.CallH _ _ _ _ _;refine(hfl _ (hx6.2.trans hx68.2) _ _ (hod.row.unconst need_ok (hx6H.2.trans hx68.2))).mono ?_;rintro _ H9 ⟨rfl,hx9⟩;have hz9:=hx9.size)|refine Vc.stp ?_)<;>(intros;(conv=>whnf)))))
    exact⟨⟨i+1,D,_,gc⟩,⟨rfl,by show Value.slice _ _ _=Value.slice _ _ _;rw[hDl],trivial⟩,⟨by show i+1≤N.length;omega,hod.row.ext ok.ok hx9,hod.cap_le,hyes hfd,trivial,hx6.2.trans (hx68.2.trans hx9)⟩,by show N.length-(i+1)<N.length-i;omega⟩
   |false=>
    rw[hfd]at hfl
    ((conv=>whnf);repeat(any_goals((first|(refine SemH.mkFunc ?_)|((fail_if_success (have:=hod));show Go.Vc.CallH _ _ _ _ _;refine hdel.mono ?_;rintro _ H8 ⟨rfl,hod,hkd⟩;have hz8:=hkd.size;have hx68:And True (Ext H6 H8):=And.intro trivial (hx67.2.but hkd (by omega)))|((fail_if_success (have:=hx9));show Go.Vc.CallH _ _ _ _ _;refine(hfl _ (hx6.2.trans hx68.2) _ _ (hod.row.unconst need_ok (hx6H.2.trans hx68.2))).mono ?_;rintro _ H9 ⟨rfl,hx9⟩;have hz9:=hx9.size)|refine Vc.stp ?_)<;>(intros;(conv=>whnf)))))
    exact⟨⟨i+1,L,a2,c2⟩,⟨rfl,rfl,trivial⟩,⟨by show i+1≤N.length;omega,hL6.ext ok.ok (hx68.2.trans hx9),hLc,hnot hfd,trivial,hx6.2.trans (hx68.2.trans hx9)⟩,by show N.length-(i+1)<N.length-i;omega⟩
  ·obtain rfl:i=N.length:=by omega
   obtain rfl:=hci.end (Nat.le_refl _)
   have hLs:=Go.Why.sortN_sub hNs hsub
   have hnm:=Go.Why.sortN_names hLs
   rw[←hC0]at hnm
   have hFl:F.length=L.length:=by rw[hC0,List.length_map]
   have hwn:=wnames_any L a2 L.length c2 H6 (hL6.unconst need_ok hx6H.2) rfl (by omega)
   rw[hnm]at hwn
   ((conv=>whnf);repeat(any_goals((first|(show Go.Vc.CallH _ _ _ _ _;refine hwn.mono ?_;rintro _ H7 ⟨⟨fa,fc,rfl,hof⟩,hx7⟩)|refine Vc.stp ?_)<;>(intros;(conv=>whnf)))))
   exact⟨⟨fa,fc,rfl,hof.cap_le,hof.row⟩,hx6H.2.trans hx7⟩
end Go.Proofs.YtjdieklgoepdjaaGreatDoor
