import Derived.Test.YtjdieklgoepdjaaGreatDoorKo
import Derived.Test.YtjdieklgoepdjaaGreatDoorKm
import Derived.Test.YtjdieklgoepdjaaGreatDoorKe
import Derived.Test.YtjdieklgoepdjaaGreatDoorKp
import Derived.Test.YtjdieklgoepdjaaGreatDoorKd
set_option linter.unusedVariables false
set_option linter.unusedSimpArgs false
set_option maxRecDepth 100000
/- The reference: which names are needed, in order; Users. -/
namespace Go.Why
open Go.Scr Go.Tre Go.Slv
theorem namesN_len (L:List NeedP):(namesN L).length=L.length:=by
 rw[(namesN_spec L).1.length_eq,List.length_map]
end Go.Why
namespace Go.Proofs.YtjdieklgoepdjaaGreatDoor
open Go Go.Vc Go.Scr Go.Slv
end Go.Proofs.YtjdieklgoepdjaaGreatDoor
namespace Go.Why
open Go.Scr Go.Tre Go.Slv
def usersT (R:List RowP) (P:List PinP) (name:Txt) (i:Nat):List Txt:=((P.take i).filter fun p=>(needsP R P p.name).any fun n=>n.name==name).map (·.name)
theorem any_names (l:List NeedP) (k:Txt):(l.any fun n=>n.name==k)=decide (k∈namesN l):=by
 rw[Bool.eq_iff_iff,decide_eq_true_eq,namesN_mem,List.any_eq_true]
 simp
theorem users_step {R:List RowP} {P:List PinP} {name:Txt} {i:Nat} {p:PinP} (hp:P[i]? =some p):usersT R P name (i+1)=usersT R P name i++if name∈namesN (needsP R P p.name)then [p.name]else []:=by
 unfold usersT
 rw[List.take_add_one,hp,List.filter_append,List.map_append]
 congr 1
 show List.map _ (List.filter _ [p])=_
 rw[List.filter_cons,any_names]
 by_cases h:name∈namesN (needsP R P p.name)
 ·rw[decide_eq_true h,if_pos h];rfl
 ·rw[decide_eq_false h,if_neg h];rfl
theorem users_len (R:List RowP) (P:List PinP) (name:Txt) (i:Nat):(usersT R P name i).length≤i:=by
 unfold usersT
 rw[List.length_map]
 exact Nat.le_trans (List.length_filter_le _ _) (by rw[List.length_take];omega)
theorem users_eq {R:List RowP} {N:List NeedP} {P:List PinP} {name:Txt}:usersF R N P name=(if name∈namesN N then [[]]else [])++usersT R P name P.length:=by
 unfold usersF usersT
 rw[any_names,List.take_length]
 simp
end Go.Why
namespace Go.Proofs.YtjdieklgoepdjaaGreatDoor
open Go Go.Vc Go.Scr Go.Slv
open Go.Why (usersT users_step users_len users_eq)
end Go.Proofs.YtjdieklgoepdjaaGreatDoor
namespace Go.Why
open Go.Scr Go.Tre Go.Slv
abbrev WRes:=List Txt ⊕ (List Txt×List (List Txt))
def endR (R:List RowP) (N:List NeedP) (P:List PinP) (name:Txt) (f:Nat):WRes→List Txt
 | .inl w=>w
 | .inr (s,d)=>bfs R N P name f d s
def contL (R:List RowP) (N:List NeedP) (P:List PinP) (name:Txt) (l:List (List Txt)):WRes→WRes
 | .inl w=> .inl w
 | .inr (s,d)=>goL R N P name l s d
theorem bfs_nil (R:List RowP) (N:List NeedP) (P:List PinP) (name:Txt) (f:Nat) (seen:List Txt):bfs R N P name f [] seen=[]:=by
 cases f<;>rfl
theorem bfs_cons (R:List RowP) (N:List NeedP) (P:List PinP) (name:Txt) (f:Nat) (x:List Txt) (l:List (List Txt)) (seen:List Txt):bfs R N P name (f+1) (x::l) seen=endR R N P name f (goL R N P name (x::l) seen []):=by
 unfold bfs
 cases e:goL R N P name (x::l) seen []with
 |inl w=>simp only[e];rfl
 |inr y=>simp only[e];rfl
theorem goL_cons (R:List RowP) (N:List NeedP) (P:List PinP) (name:Txt) (path:List Txt) (l:List (List Txt)) (seen:List Txt) (deep:List (List Txt)):goL R N P name (path::l) seen deep=contL R N P name l (goN name path (nextN R N P path) seen deep):=by
 rw[goL]
 cases e:goN name path (nextN R N P path) seen deep with
 |inl w=>rfl
 |inr y=>rfl
theorem goL_at {R:List RowP} {N:List NeedP} {P:List PinP} {name:Txt} {lv:List (List Txt)} {i:Nat} {path:List Txt} (h:lv[i]? =some path) (seen:List Txt) (deep:List (List Txt)):goL R N P name (lv.drop i) seen deep=contL R N P name (lv.drop (i+1)) (goN name path (nextN R N P path) seen deep):=by
 obtain⟨g1,g2⟩:=List.getElem?_eq_some_iff.1 h
 rw[List.drop_eq_getElem_cons g1,g2,goL_cons]
theorem goL_end {R:List RowP} {N:List NeedP} {P:List PinP} {name:Txt} {lv:List (List Txt)} {i:Nat} (h:lv.length≤i) (seen:List Txt) (deep:List (List Txt)):goL R N P name (lv.drop i) seen deep= .inr (seen,deep):=by
 rw[List.drop_of_length_le h];rfl
theorem goN_at {name:Txt} {path ks:List Txt} {i:Nat} {k:Txt} (h:ks[i]? =some k) (seen:List Txt) (deep:List (List Txt)):goN name path (ks.drop i) seen deep=if k∈seen then goN name path (ks.drop (i+1)) seen deep else if k=name then .inl (path++[k])else goN name path (ks.drop (i+1)) (seen++[k]) (deep++[path++[k]]):=by
 obtain⟨g1,g2⟩:=List.getElem?_eq_some_iff.1 h
 rw[List.drop_eq_getElem_cons g1,g2,goN]
theorem goN_end {name:Txt} {path ks:List Txt} {i:Nat} (h:ks.length≤i) (seen:List Txt) (deep:List (List Txt)):goN name path (ks.drop i) seen deep= .inr (seen,deep):=by
 rw[List.drop_of_length_le h];rfl
theorem nextN_sub {R:List RowP} {N:List NeedP} {P:List PinP} {path:List Txt} {k:Txt} (h:k∈nextN R N P path):k∈allN R N:=by
 unfold nextN at h
 unfold allN
 rw[List.mem_append]
 split at h
 ·obtain⟨n,hn,e⟩:=(namesN_mem _ _).1 h
  exact .inl (List.mem_map.2 ⟨n,hn,e⟩)
 ·obtain⟨n,hn,e⟩:=(namesN_mem _ _).1 h
  obtain⟨r,hr,hn⟩:=needsP_mem hn
  exact .inr (List.mem_flatMap.2 ⟨r,hr,List.mem_map.2 ⟨n,hn,e⟩⟩)
structure FuelI (R:List RowP) (N:List NeedP) (seen:List Txt) (lv:List (List Txt)) (f:Nat):Prop where
 nodup:seen.Nodup
 sub: ∀ k∈seen,k∈allN R N
 fuel:lv=[]∨(allN R N).length+1≤seen.length+f
theorem FuelI.le {R:List RowP} {N:List NeedP} {seen:List Txt} {lv:List (List Txt)} {f:Nat} (h:FuelI R N seen lv f):seen.length≤(allN R N).length:=Go.Vc.nodup_len h.nodup h.sub
theorem FuelI.pos {R:List RowP} {N:List NeedP} {seen:List Txt} {x:List Txt} {lv:List (List Txt)} {f:Nat} (h:FuelI R N seen (x::lv) f): ∃ g,f=g+1∧(allN R N).length≤seen.length+g:=by
 have h1:=h.le
 rcases h.fuel with e|e
 ·cases e
 ·exact⟨f-1,by omega,by omega⟩
structure LevI (R:List RowP) (N:List NeedP) (m:Nat) (seen:List Txt) (deep:List (List Txt)):Prop where
 nodup:seen.Nodup
 sub: ∀ k∈seen,k∈allN R N
 le:m≤seen.length
 deep:deep=[]∨m+1≤seen.length
theorem LevI.new {R:List RowP} {N:List NeedP} {P:List PinP} {m:Nat} {seen:List Txt} {deep:List (List Txt)} (h:LevI R N m seen deep) {path:List Txt} {k:Txt} (hk:k∈nextN R N P path) (hs:k∉seen):LevI R N m (seen++[k]) (deep++[path++[k]]):=by
 have h1:=h.le
 refine⟨?_,fun j hj=> ?_,by rw[List.length_append];omega,.inr (by rw[List.length_append];simp;omega)⟩
 ·rw[List.nodup_append]
  refine⟨h.nodup,by simp,fun x hx y hy e=> ?_⟩
  rw[List.mem_singleton]at hy;subst hy;subst e;exact hs hx
 ·rcases List.mem_append.1 hj with hj|hj
  ·exact h.sub j hj
  ·rw[List.mem_singleton]at hj;subst hj;exact nextN_sub hk
theorem LevI.end {R:List RowP} {N:List NeedP} {m:Nat} {seen:List Txt} {deep:List (List Txt)} (h:LevI R N m seen deep) {f:Nat} (hf:(allN R N).length≤m+f):FuelI R N seen deep f:=by
 refine⟨h.nodup,h.sub,?_⟩
 rcases h.deep with e|e
 ·exact .inl e
 ·exact .inr (by omega)
theorem FuelI.lev {R:List RowP} {N:List NeedP} {seen:List Txt} {lv:List (List Txt)} {f:Nat} (h:FuelI R N seen lv f):LevI R N seen.length seen []:=⟨h.nodup,h.sub,Nat.le_refl _,.inl rfl⟩
theorem fuel_start (R:List RowP) (N:List NeedP):FuelI R N [] [[]] ((allN R N).length+2):=⟨List.nodup_nil,fun k hk=>(by cases hk),.inr (by simp)⟩
def kwL:List RowI:=[⟨0,0,[1],0,0⟩,⟨1,1,[2],0,0⟩,⟨2,0,[],0,0⟩]
def kwR (s1 s2 s3:Txt×Int):List RowP:=[⟨[97],⟨1,0,0,[]⟩,s1.1,s1.2,[needI 1]⟩,⟨[98],⟨1,1,0,[]⟩,s2.1,s2.2,[needI 2]⟩,⟨[99],⟨1,0,0,[]⟩,s3.1,s3.2,[]⟩]
def kwP (s1 s2 s3:Txt×Int):List PinP:=[⟨[97],⟨1,0,0,[]⟩,s1.1⟩,⟨[98],⟨1,1,0,[]⟩,s2.1⟩,⟨[99],⟨1,0,0,[]⟩,s3.1⟩]
theorem kw_made (S:List (Txt×Int)) (h:S.length=3): ∃ s1 s2 s3,madeF (kwL.zip S)=kwR s1 s2 s3:=by
 match S,h with
 |[a,b,c],_=>exact⟨a,b,c,by kernel_rfl⟩
theorem kw_best (s1 s2 s3:Txt×Int):Solves (kwR s1 s2 s3) (needsM [0]) (some (kwP s1 s2 s3)):=by
 have h1:apartB (kwR s1 s2 s3)=true:=by kernel_rfl
 have h2:goodB (kwR s1 s2 s3) (needsM [0]) [0,1,2] []=true:=by kernel_rfl
 have h3:topB (kwR s1 s2 s3) (needsM [0]) [0,1,2]=true:=by kernel_rfl
 have h:=best_look h1 h2 h3
 have e:pinsOf (kwR s1 s2 s3) (namesF (kwR s1 s2 s3)) (choS (stackOf (kwR s1 s2 s3) [0,1,2]))=kwP s1 s2 s3:=by kernel_rfl
 rw[e]at h
 exact h
theorem kw_path (s1 s2 s3:Txt×Int):pathF (kwR s1 s2 s3) (needsM [0]) (kwP s1 s2 s3) [99]=[[97],[98],[99]]:=by kernel_rfl
theorem kw_users1 (s1 s2 s3:Txt×Int):usersF (kwR s1 s2 s3) (needsM [0]) (kwP s1 s2 s3) [97]=[[]]:=by kernel_rfl
theorem kw_users2 (s1 s2 s3:Txt×Int):usersF (kwR s1 s2 s3) (needsM [0]) (kwP s1 s2 s3) [99]=[[98]]:=by kernel_rfl
theorem kw_none (s1 s2 s3:Txt×Int) (N:List NeedP) (h:needI 5∈N):Solves (kwR s1 s2 s3) N none:=
 none_look (n:=needI 5) (l:=[]) (by kernel_rfl) h (by kernel_rfl)
theorem kw_core (s1 s2 s3:Txt×Int) {fails:List NeedP→Bool} (hf: ∀ M,fails M=true↔NoFits (kwR s1 s2 s3) M):coreF fails (needsM [0,5])=[[102]]:=by
 have e:needsM [0,5]=[needI 0,needI 5]:=by kernel_rfl
 have f1: ∀ N,needI 5∈N→fails N=true:=fun N h=>(hf N).2 fun P hP=>kw_none s1 s2 s3 N h P hP
 have f0:fails []=false:=by
  cases h:fails []with
  |false=>rfl
  |true=>exact absurd (⟨List.Pairwise.nil,fun p hp=>(by cases hp),fun n hn=>(by cases hn),fun r _ hp=>(by cases hp),fun p hp=>(by cases hp)⟩:FitP (kwR s1 s2 s3) [] []) ((hf []).1 h [])
 rw[e]
 unfold coreF
 rw[if_pos (f1 _ (by simp)),coreL,if_pos (f1 _ (by simp)),coreL,if_neg (by rw[List.nil_append,f0];simp),coreL]
 rfl
def SortN (N:List NeedP):Prop:=N.Pairwise fun a b=>Op.bytesLess a.name b.name=true
theorem leT_nil (a:Txt):LeT [] a:=by
 unfold LeT
 cases a<;>rfl
theorem users_sorted {R:List RowP} {N:List NeedP} {P:List PinP} (hs:SortP P) (name:Txt):(usersF R N P name).Pairwise LeT:=by
 unfold usersF
 rw[List.pairwise_append]
 refine⟨by split<;>simp,?_,fun a ha b _=> ?_⟩
 ·rw[List.pairwise_map]
  exact(List.Pairwise.filter _ hs).imp fun h=>lt_as h
 ·split at ha
  ·rw[List.mem_singleton]at ha;subst ha;exact leT_nil b
  ·cases ha
theorem insN_sort: ∀ {l:List NeedP} {n:NeedP},SortN l→SortN (insN l n)
 |[],n,_=>List.pairwise_singleton _ _
 |x::l,n,h=>by
  unfold SortN at h
  rw[List.pairwise_cons]at h
  unfold insN
  by_cases h1:Op.bytesLess x.name n.name=true
  ·rw[if_pos h1]
   refine List.Pairwise.cons (fun y hy=> ?_) (insN_sort h.2)
   rcases insN_mem hy with hy|rfl
   ·exact h.1 y hy
   ·exact h1
  ·rw[if_neg h1]
   by_cases h2:x.name=n.name
   ·rw[if_pos h2]
    exact List.Pairwise.cons h.1 h.2
   ·rw[if_neg h2]
    have h3:Op.bytesLess n.name x.name=true:=lt_tri (by simpa using h1) h2
    refine List.Pairwise.cons (fun y hy=> ?_) (List.Pairwise.cons h.1 h.2)
    rcases List.mem_cons.1 hy with rfl|hy
    ·exact h3
    ·exact lt_trans h3 (h.1 y hy)
theorem needsM_sort (L:List Nat):SortN (needsM L):=by
 have key: ∀ (L:List Nat) (l:List NeedP),SortN l→SortN (L.foldl (fun l j=>insN l (needI j)) l):=by
  intro L
  induction L with
  |nil=>intro l h;exact h
  |cons j L ih=>intro l h;exact ih _ (insN_sort h)
 exact key L [] List.Pairwise.nil
theorem sortN_names {N:List NeedP} (h:SortN N):namesN N=N.map (·.name):=
 (namesN_one (List.Perm.refl _) (by rw[List.pairwise_map];exact h.imp fun h=>lt_as h)).symm
theorem sortN_sub {N M:List NeedP} (h:SortN N) (k:M.Sublist N):SortN M:=List.Pairwise.sublist k h
theorem sortN_at {N:List NeedP} (h:SortN N) {i j:Nat} {a b:NeedP} (hi:N[i]? =some a) (hj:N[j]? =some b) (hij:i<j):Op.bytesLess a.name b.name=true:=by
 obtain⟨gi,rfl⟩:=List.getElem?_eq_some_iff.1 hi
 obtain⟨gj,rfl⟩:=List.getElem?_eq_some_iff.1 hj
 exact List.pairwise_iff_getElem.1 h i j gi gj hij
theorem sortN_ne {N:List NeedP} (h:SortN N) {i j:Nat} {a b:NeedP} (hi:N[i]? =some a) (hj:N[j]? =some b) (hij:i≠j):a.name≠b.name:=by
 intro e
 rcases Nat.lt_or_gt_of_ne hij with g|g
 ·have:=sortN_at h hi hj g
  rw[e,lt_irrefl]at this;cases this
 ·have:=sortN_at h hj hi g
  rw[e,lt_irrefl]at this;cases this
structure CoreI (fails:List NeedP→Bool) (N:List NeedP) (C:List NeedP) (i:Nat) (left:List NeedP):Prop where
 out: ∃ kept,kept.Sublist (N.take i)∧left=kept++N.drop i∧coreL fails kept (N.drop i)=C
theorem CoreI.start {fails:List NeedP→Bool} {N:List NeedP}:CoreI fails N (coreL fails [] N) 0 N:=⟨[],by simp,by simp,by simp⟩
theorem CoreI.sub {fails:List NeedP→Bool} {N C:List NeedP} {i:Nat} {left:List NeedP} (h:CoreI fails N C i left):left.Sublist N:=by
 obtain⟨kept,h1,rfl,_⟩:=h.out
 have:=h1.append (List.Sublist.refl (N.drop i))
 rwa[List.take_append_drop]at this
theorem CoreI.at {fails:List NeedP→Bool} {N C:List NeedP} (hN:SortN N) {i:Nat} {left:List NeedP} (h:CoreI fails N C i left) {n:NeedP} (hn:N[i]? =some n):
  ∃ j,left[j]? =some n∧(∀ k x,left[k]? =some x→k≠j→x.name≠n.name)∧(fails (left.eraseIdx j)=true→CoreI fails N C (i+1) (left.eraseIdx j))∧(fails (left.eraseIdx j)=false→CoreI fails N C (i+1) left):=by
 have hsub:=sortN_sub hN h.sub
 obtain⟨kept,h1,rfl,h3⟩:=h.out
 obtain⟨g1,g2⟩:=List.getElem?_eq_some_iff.1 hn
 have hd:N.drop i=n::N.drop (i+1):=by rw[List.drop_eq_getElem_cons g1,g2]
 rw[hd]at h3 hsub ⊢
 have hj:(kept++n::N.drop (i+1))[kept.length]? =some n:=by rw[List.getElem?_append_right (Nat.le_refl _),Nat.sub_self];rfl
 have he:(kept++n::N.drop (i+1)).eraseIdx kept.length=kept++N.drop (i+1):=by
  rw[List.eraseIdx_append_of_length_le (Nat.le_refl _),Nat.sub_self];rfl
 refine⟨kept.length,hj,fun k x hk hne e=>sortN_ne hsub hk hj hne e,fun hf=> ?_,fun hf=> ?_⟩
 ·rw[he]at hf ⊢
  rw[coreL,if_pos hf]at h3
  refine⟨kept,h1.trans ?_,rfl,h3⟩
  rw[List.take_add_one];exact List.sublist_append_left _ _
 ·rw[he]at hf
  rw[coreL,if_neg (by rw[hf];simp)]at h3
  refine⟨kept++[n],?_,by simp,h3⟩
  rw[List.take_add_one,hn]
  exact h1.append (List.Sublist.refl _)
theorem CoreI.end {fails:List NeedP→Bool} {N C:List NeedP} {i:Nat} {left:List NeedP} (h:CoreI fails N C i left) (hi:N.length≤i):left=C:=by
 obtain⟨kept,h1,rfl,h3⟩:=h.out
 rw[List.drop_of_length_le hi]at h3 ⊢
 rw[coreL]at h3
 rw[List.append_nil];exact h3
theorem coreL_sub {fails:List NeedP→Bool}: ∀ (l kept:List NeedP),(coreL fails kept l).Sublist (kept++l)
 |[],kept=>by unfold coreL;simp
 |n::l,kept=>by
  unfold coreL
  split
  ·exact(coreL_sub l kept).trans ((List.Sublist.refl kept).append (List.sublist_cons_self n l))
  ·have:=coreL_sub (fails:=fails) l (kept++[n])
   rwa[List.append_assoc]at this
theorem fails_ex (R:List RowP): ∃ fails:List NeedP→Bool,∀ M,fails M=true↔NoFits R M:=by
 classical
 exact⟨fun M=>decide (NoFits R M),fun M=>decide_eq_true_iff⟩
theorem del_erase {l:List NeedP} {j:Nat} {n:NeedP} (hj:l[j]? =some n) (hno: ∀ k x,l[k]? =some x→k≠j→x.name≠n.name):l.findIdx? (fun x=>x.name==n.name)=some j:=by
 obtain⟨g1,g2⟩:=List.getElem?_eq_some_iff.1 hj
 refine List.findIdx?_eq_some_iff_getElem.2 ⟨g1,by rw[g2];simp,fun k hk=> ?_⟩
 have:=hno k l[k] (List.getElem?_eq_getElem (by omega)) (by omega)
 simp[this]
theorem needsP_len {R:List RowP} (h: ∀ r∈R,r.needs.length≤1000) (P:List PinP) (k:Txt):(needsP R P k).length≤1000:=by
 unfold needsP
 split
 ·simp
 ·split
  ·simp
  ·unfold needsR
   split
   ·rename_i r hr
    exact h r (List.mem_of_getElem? hr)
   ·simp
theorem nextN_len {R:List RowP} (h: ∀ r∈R,r.needs.length≤1000) {N:List NeedP} (hN:N.length≤1000) (P:List PinP) (path:List Txt):(nextN R N P path).length≤1000:=by
 unfold nextN
 rw[namesN_len]
 split
 ·exact hN
 ·exact needsP_len h P _
theorem allN_len {R:List RowP} (h: ∀ r∈R,r.needs.length≤1000) (hR:R.length≤200) {N:List NeedP} (hN:N.length≤1000):(allN R N).length≤201000:=by
 have key: ∀ l:List RowP,(∀ r∈l,r.needs.length≤1000)→(l.flatMap fun r=>r.needs.map (·.name)).length≤1000*l.length:=by
  intro l
  induction l with
  |nil=>intro _;simp
  |cons r l ih=>
   intro h
   have h1:=h r List.mem_cons_self
   have h2:=ih fun q hq=>h q (List.mem_cons_of_mem _ hq)
   rw[List.flatMap_cons,List.length_append,List.length_map,List.length_cons]
   omega
 have:=key R h
 unfold allN
 rw[List.length_append,List.length_map]
 omega
end Go.Why
namespace Go.Vc
theorem LstV.imp {α:Type} {E E':Heap→α→List Value→Prop} {H H':Heap} (hE: ∀ x c,E H x c→E' H' x c) {l:List α} {vs:List Value} (h:LstV E H l vs):LstV E' H' l vs:=by
 induction h with
 |nil=>exact .nil
 |cons h _ ih=>exact .cons (hE _ _ h) ih
end Go.Vc
namespace Go.Proofs.YtjdieklgoepdjaaGreatDoor
open Go Go.Vc Go.Scr Go.Slv
def wayT (H:Heap) (l:List Bs) (c:List Value):Prop:=∃ a cap,c=[.slice a l.length cap]∧l.length≤cap∧RowT 9 H a (strs l)
theorem wayT_ok:EncT wayT 1 (fun t=>t=9):=⟨fun⟨_,_,e,_⟩=>by rw[e];rfl,fun⟨_,_,e,_⟩ u hu=>by
 rw[e]at hu
 simp at hu
 subst hu;rfl,fun k hF ⟨a,cap,e,h,r⟩=>⟨a,cap,e,h,r.keep k hF⟩⟩
end Go.Proofs.YtjdieklgoepdjaaGreatDoor
namespace Go.Vc
end Go.Vc
namespace Go.Proofs.YtjdieklgoepdjaaGreatDoor
open Go Go.Vc Go.Scr Go.Slv
open Go.Why (pathF nextN needsP namesN allN bfs goL goN endR contL LevI FuelI)
end Go.Proofs.YtjdieklgoepdjaaGreatDoor
