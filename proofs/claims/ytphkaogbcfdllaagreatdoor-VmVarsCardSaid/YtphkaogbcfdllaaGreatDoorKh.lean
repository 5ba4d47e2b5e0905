import Derived.Test.YtphkaogbcfdllaaGreatDoorKd
import Derived.Test.YtphkaogbcfdllaaGreatDoorKe
import Derived.Test.YtphkaogbcfdllaaGreatDoorKc
import Derived.Lib.Join
import Derived.Shelf.LaysM
import Derived.Shelf.Strconv.Itoa3
import Derived.Test.YtphkaogbcfdllaaGreatDoorProg
import Derived.Stop.Asserts
set_option linter.unusedVariables false
set_option linter.unusedSimpArgs false
set_option maxRecDepth 100000
/- Build scripts at work, plain: what holds of every run. -/
namespace Go.Run
open Go.Scr Go.Pth Go.Tre Go.Blk
open Go.Vc (mget mput mget_put)
theorem walk_code (stay:Nat): ∀ (xs l:List Txt),(walkF stay l xs).2≤51
 |[],l=>by
  unfold walkF
  split<;>exact Nat.le_of_ble_eq_true rfl
 |x::xs,l=>by
  unfold walkF
  split
  ·exact walk_code stay xs l
  split
  ·split
   ·exact Nat.le_of_ble_eq_true rfl
   ·exact walk_code stay xs _
  split
  ·exact Nat.le_of_ble_eq_true rfl
  ·exact walk_code stay xs _
theorem clean_code (s:Txt):(cleanF s).2≤51:=by
 rcases join_cases s with h|h|⟨_,h⟩
 ·show(joinP [] s).2≤51;rw[h];exact Nat.le_of_ble_eq_true rfl
 ·show(joinP [] s).2≤51;rw[h];exact Nat.le_refl _
 ·show(joinP [] s).2≤51;rw[h];exact walk_code _ _ _
theorem write_code (A:Tr) (s b:Txt):(writeF A s b).2≤55:=by
 unfold writeF
 split
 ·unfold writeP
  split
  ·exact Nat.le_of_ble_eq_true rfl
  split<;>exact Nat.le_of_ble_eq_true rfl
 ·have:=clean_code s;dsimp only;omega
theorem append_code (A:Tr) (s b:Txt):(appendF A s b).2≤55:=by
 unfold appendF
 split
 ·unfold writeP
  split
  ·exact Nat.le_of_ble_eq_true rfl
  split<;>exact Nat.le_of_ble_eq_true rfl
 ·have:=clean_code s;dsimp only;omega
theorem mkdir_code (A:Tr) (s:Txt):(mkdirF A s).2≤55:=by
 unfold mkdirF
 split
 ·unfold mkdirP
  split
  ·exact Nat.le_of_ble_eq_true rfl
  split
  ·exact Nat.le_of_ble_eq_true rfl
  split<;>exact Nat.le_of_ble_eq_true rfl
 ·have:=clean_code s;dsimp only;omega
theorem remove_code (A:Tr) (s:Txt):(removeF A s).2≤55:=by
 unfold removeF
 split
 ·split
  ·exact Nat.le_of_ble_eq_true rfl
  split<;>exact Nat.le_of_ble_eq_true rfl
 ·have:=clean_code s;dsimp only;omega
theorem two_codeP (A:Tr) (p q:Txt) (st:Bool):(twoP A p q st).2≤55:=by
 unfold twoP
 by_cases h1:p≠ []∧mget A p=none
 ·rw[if_pos h1];exact Nat.le_of_ble_eq_true rfl
 rw[if_neg h1]
 by_cases h2:p=[]∨withinF q p=true
 ·rw[if_pos h2];exact Nat.le_of_ble_eq_true rfl
 rw[if_neg h2]
 by_cases h3:q=[]∨(mget A q).isSome=true
 ·rw[if_pos h3];exact Nat.le_of_ble_eq_true rfl
 rw[if_neg h3]
 by_cases h4:fileF A q=true
 ·rw[if_pos h4];exact Nat.le_of_ble_eq_true rfl
 rw[if_neg h4]
 by_cases h5:badM (movedF A p q)=true
 ·rw[if_pos h5];exact Nat.le_of_ble_eq_true rfl
 rw[if_neg h5]
 by_cases h6:500<A.length+((lackF A q).length+if st=true then(movedF A p q).length else 0)∨1048576<sizeT A+(if st=true then sizeT (movedF A p q)else 0)
 ·rw[if_pos h6];exact Nat.le_refl _
 ·rw[if_neg h6];exact Nat.zero_le _
theorem two_code (A:Tr) (s t:Txt) (st:Bool):(Tre.twoF A s t st).2≤55:=by
 unfold Tre.twoF
 split
 ·split
  ·exact two_codeP _ _ _ _
  ·have:=clean_code t;dsimp only;omega
 ·have:=clean_code s;dsimp only;omega
theorem step_cases (K:List Nat) (x:Ln) (s:St):(∃ r:Tr×Nat,stepP K x s=doneF s r∧r.2≤55∧(Okay s.A→Okay r.1))∨
  ((stepP K x s).1.A=s.A∧(stepP K x s).2≤72∧((stepP K x s).1.V=s.V∨((stepP K x s).1.V=s.V.map (fun V=>mput V x.a (fillF V x.tx))∧(fillF (varsF s.V) x.tx).length≤65536))):=by
 unfold stepP
 by_cases h0:x.k=0
 ·rw[if_pos h0];exact .inl ⟨_,rfl,two_code _ _ _ _,fun h=>Okay.twoF h _ _ _⟩
 rw[if_neg h0]
 by_cases h1:x.k=1
 ·rw[if_pos h1];exact .inl ⟨_,rfl,write_code _ _ _,fun h=>Okay.writeF h _ _⟩
 rw[if_neg h1]
 by_cases h2:x.k=2
 ·rw[if_pos h2];exact .inl ⟨_,rfl,append_code _ _ _,fun h=>Okay.appendF h _ _⟩
 rw[if_neg h2]
 by_cases h3:x.k=3
 ·rw[if_pos h3];exact .inl ⟨_,rfl,mkdir_code _ _,fun h=>Okay.mkdirF h _⟩
 rw[if_neg h3]
 by_cases h4:x.k=4
 ·rw[if_pos h4];exact .inl ⟨_,rfl,remove_code _ _,fun h=>Okay.removeF h _⟩
 rw[if_neg h4]
 by_cases h5:x.k=5
 ·rw[if_pos h5];exact .inl ⟨_,rfl,two_code _ _ _ _,fun h=>Okay.twoF h _ _ _⟩
 rw[if_neg h5]
 refine .inr ?_
 by_cases h6:x.k=6
 ·rw[if_pos h6]
  by_cases ha:isName x.a=false
  ·rw[if_pos ha];exact⟨rfl,Nat.le_refl _,.inl rfl⟩
  rw[if_neg ha]
  by_cases hb:65536<(fillF (varsF s.V) x.tx).length
  ·rw[if_pos hb];exact⟨rfl,Nat.le_of_ble_eq_true rfl,.inl rfl⟩
  ·rw[if_neg hb];exact⟨rfl,Nat.zero_le _,.inr ⟨rfl,by omega⟩⟩
 rw[if_neg h6]
 by_cases h7:x.k=7
 ·rw[if_pos h7]
  by_cases ha:existsF s.A (fillF (varsF s.V) x.a)=x.nt
  ·rw[if_pos ha];exact⟨rfl,Nat.zero_le _,.inl rfl⟩
  ·rw[if_neg ha];exact⟨rfl,Nat.zero_le _,.inl rfl⟩
 rw[if_neg h7]
 by_cases h8:x.k=8
 ·rw[if_pos h8]
  by_cases ha:x.n=0
  ·rw[if_pos ha];exact⟨rfl,Nat.zero_le _,.inl rfl⟩
  ·rw[if_neg ha];exact⟨rfl,Nat.zero_le _,.inl rfl⟩
 rw[if_neg h8]
 by_cases h9:x.k=9
 ·rw[if_pos h9];exact⟨rfl,Nat.zero_le _,.inl rfl⟩
 rw[if_neg h9]
 by_cases h10:x.k=10
 ·rw[if_pos h10]
  cases hS:s.S with
  |nil=>exact⟨rfl,Nat.zero_le _,.inl rfl⟩
  |cons p S=>
   dsimp only
   by_cases ha:(endsF K p.1).2=s.at_
   ·rw[if_pos ha]
    by_cases hb:1<p.2
    ·rw[if_pos hb];exact⟨rfl,Nat.zero_le _,.inl rfl⟩
    ·rw[if_neg hb];exact⟨rfl,Nat.zero_le _,.inl rfl⟩
   ·rw[if_neg ha];exact⟨rfl,Nat.zero_le _,.inl rfl⟩
 rw[if_neg h10]
 by_cases h11:x.k=11
 ·rw[if_pos h11];exact⟨rfl,Nat.le_refl _,.inl rfl⟩
 ·rw[if_neg h11];exact⟨rfl,Nat.zero_le _,.inl rfl⟩
theorem step_code (K:List Nat) (x:Ln) (s:St):(stepP K x s).2≤72:=by
 rcases step_cases K x s with ⟨r,e,h,_⟩|⟨_,h,_⟩
 ·rw[e];show r.2≤72;omega
 ·exact h
theorem step_okay (K:List Nat) (x:Ln) {s:St} (h:Okay s.A):Okay (stepP K x s).1.A:=by
 rcases step_cases K x s with ⟨r,e,_,h2⟩|⟨e,_,_⟩
 ·rw[e];exact h2 h
 ·rw[e];exact h
theorem run_okay (L:List Ln): ∀ (f u:Nat) (s:St),Okay s.A→Okay (runP L f u s).2.A
 |0,u,s,h=>by
  rw[runP]
  split<;>exact h
 |f+1,u,s,h=>by
  cases hx:L[s.at_]? with
  |none=>rw[runP,hx];exact h
  |some x=>
   rw[runP_step hx]
   have h2:=step_okay (kindsL L) x h
   split
   ·exact run_okay L f _ _ h2
   ·exact h2
theorem run_le (L:List Ln): ∀ (f u:Nat) (s:St),u≤(runP L f u s).1.1∧(runP L f u s).1.1≤u+f
 |0,u,s=>by
  rw[runP]
  split<;>exact⟨Nat.le_refl _,Nat.le_refl _⟩
 |f+1,u,s=>by
  cases hx:L[s.at_]? with
  |none=>rw[runP,hx];dsimp only;omega
  |some x=>
   rw[runP_step hx]
   split
   ·have:=run_le L f (u+1) (stepP (kindsL L) x s).1;omega
   ·dsimp only;omega
def Fit (V:Option Vars):Prop:=∀ k,(getV (varsF V) k).length≤65536
theorem Fit.none:Fit none:=fun k=>by simp[varsF,getV,mget]
theorem Fit.put {V:Vars} (h:Fit (some V)) {k t:Txt} (ht:t.length≤65536):Fit (some (mput V k t)):=fun k'=>by
 have:=h k'
 show((mget (mput V k t) k').getD []).length≤_
 rw[mget_put]
 split
 ·exact ht
 ·exact this
theorem step_fit (K:List Nat) (x:Ln) {s:St} (h:Fit s.V):Fit (stepP K x s).1.V:=by
 rcases step_cases K x s with ⟨r,e,_,_⟩|⟨_,_,e|⟨e,hle⟩⟩
 ·rw[e];exact h
 ·rw[e];exact h
 ·rw[e]
  cases hv:s.V with
  |none=>exact Fit.none
  |some V=>
   rw[hv]at h hle
   exact Fit.put h hle
theorem run_fit (L:List Ln): ∀ (f u:Nat) (s:St),Fit s.V→Fit (runP L f u s).2.V
 |0,u,s,h=>by
  rw[runP]
  split<;>exact h
 |f+1,u,s,h=>by
  cases hx:L[s.at_]? with
  |none=>rw[runP,hx];exact h
  |some x=>
   rw[runP_step hx]
   have h2:=step_fit (kindsL L) x h
   split
   ·exact run_fit L f _ _ h2
   ·exact h2
theorem kinds_get {L:List Ln} {i:Nat} {x:Ln} (h:L[i]? =some x):(kindsL L)[i]? =some x.k:=by unfold kindsL;rw[List.getElem?_map,h];rfl
theorem kinds_len (L:List Ln):(kindsL L).length=L.length:=by simp[kindsL]
theorem step_at {L:List Ln} (hn:Nested (kindsL L)) {x:Ln} {s:St} (hx:L[s.at_]? =some x) (hS: ∀ p∈s.S,p.1<L.length):(stepP (kindsL L) x s).1.at_≤L.length∧ ∀ p∈(stepP (kindsL L) x s).1.S,p.1<L.length:=by
 have hk:=kinds_get hx
 have hl:=(List.getElem?_eq_some_iff.1 hx).1
 have hlen:=kinds_len L
 unfold stepP
 by_cases h0:x.k=0
 ·rw[if_pos h0];exact⟨by unfold doneF;dsimp only;omega,hS⟩
 rw[if_neg h0]
 by_cases h1:x.k=1
 ·rw[if_pos h1];exact⟨by unfold doneF;dsimp only;omega,hS⟩
 rw[if_neg h1]
 by_cases h2:x.k=2
 ·rw[if_pos h2];exact⟨by unfold doneF;dsimp only;omega,hS⟩
 rw[if_neg h2]
 by_cases h3:x.k=3
 ·rw[if_pos h3];exact⟨by unfold doneF;dsimp only;omega,hS⟩
 rw[if_neg h3]
 by_cases h4:x.k=4
 ·rw[if_pos h4];exact⟨by unfold doneF;dsimp only;omega,hS⟩
 rw[if_neg h4]
 by_cases h5:x.k=5
 ·rw[if_pos h5];exact⟨by unfold doneF;dsimp only;omega,hS⟩
 rw[if_neg h5]
 by_cases h6:x.k=6
 ·rw[if_pos h6]
  by_cases ha:isName x.a=false
  ·rw[if_pos ha];exact⟨by dsimp only;omega,hS⟩
  rw[if_neg ha]
  by_cases hb:65536<(fillF (varsF s.V) x.tx).length
  ·rw[if_pos hb];exact⟨by dsimp only;omega,hS⟩
  ·rw[if_neg hb];exact⟨by unfold nextF;dsimp only;omega,hS⟩
 rw[if_neg h6]
 by_cases h7:x.k=7
 ·rw[if_pos h7]
  rw[h7]at hk
  have he:=ends_of hn hk (.inl rfl)
  by_cases ha:existsF s.A (fillF (varsF s.V) x.a)=x.nt
  ·rw[if_pos ha]
   refine⟨?_,hS⟩
   dsimp only
   split
   ·rename_i e hee
    have:=(List.getElem?_eq_some_iff.1 (he.els e hee).1).1
    omega
   ·have:=he.lt;omega
  ·rw[if_neg ha];exact⟨by unfold nextF;dsimp only;omega,hS⟩
 rw[if_neg h7]
 by_cases h8:x.k=8
 ·rw[if_pos h8]
  rw[h8]at hk
  have he:=ends_of hn hk (.inr rfl)
  by_cases ha:x.n=0
  ·rw[if_pos ha];exact⟨by have:=he.lt;dsimp only;omega,hS⟩
  ·rw[if_neg ha]
   refine⟨by unfold nextF;dsimp only;omega,fun p hp=> ?_⟩
   rcases List.mem_cons.1 hp with rfl|hp
   ·exact hl
   ·exact hS p hp
 rw[if_neg h8]
 by_cases h9:x.k=9
 ·rw[if_pos h9]
  rw[h9]at hk
  exact⟨by have:=(ende_of hn hk).lt;dsimp only;omega,hS⟩
 rw[if_neg h9]
 by_cases h10:x.k=10
 ·rw[if_pos h10]
  cases hSe:s.S with
  |nil=>exact⟨by unfold nextF;dsimp only;omega,by dsimp only[nextF];rw[hSe];intro p hp;cases hp⟩
  |cons p S=>
   obtain⟨h,n⟩:=p
   dsimp only
   have hh:=hS (h,n) (by rw[hSe];simp)
   by_cases ha:(endsF (kindsL L) h).2=s.at_
   ·rw[if_pos ha]
    by_cases hb:1<n
    ·rw[if_pos hb]
     refine⟨by dsimp only at hh ⊢;omega,fun p hp=> ?_⟩
     rcases List.mem_cons.1 hp with rfl|hp
     ·exact hh
     ·exact hS p (by rw[hSe];exact List.mem_cons_of_mem _ hp)
    ·rw[if_neg hb]
     exact⟨by unfold nextF;dsimp only;omega,fun p hp=>hS p (by rw[hSe];exact List.mem_cons_of_mem _ hp)⟩
   ·rw[if_neg ha];exact⟨by unfold nextF;dsimp only;omega,hS⟩
 rw[if_neg h10]
 by_cases h11:x.k=11
 ·rw[if_pos h11];exact⟨by dsimp only;omega,hS⟩
 ·rw[if_neg h11];exact⟨by unfold nextF;dsimp only;omega,hS⟩
end Go.Run
namespace Go.Vc
variable {P:Program} {H H':Heap}
theorem SemH.lookupNil {t kt et:TypeId} {i:TypeInfo} {z:Value} {k:Bs} {K:Value→Heap→Prop} (ht:P.underlying t=some (.map kt et)) (hk:P.underlying kt=some .string)
  (hi:P.info? et=some i) (hz:i.zero=some z) (h:K z H):SemH P (Instr.lookup t (.map none) (.string (mkS k)) false) H K:=by
 refine⟨fun w hw=>⟨_,w,?_,Same.refl w,by rw[hw];exact h⟩⟩
 have hf:Instr.findNow .string (.string (mkS k)) [] 0=some none:=rfl
 simp[Instr.lookup,Sem.run_bind,underlying_of ht,run_key hk,run_find hk hf,zeroValue,typeInfo_of hi,hz]
theorem Row.dumb {F:Nat→Prop} {a:Option Addr} {cs:List Value} {s:ByteArray} (h:Row H a cs) (k:Only F H H') {j:Nat} (hs:cs≠ []→cs[j]? =some (.string s)) (hF: ∀ b,F b→b<H.size→Dumb H b):Row H' a cs:=h.keep' k fun hne p hp hf=>by
 obtain⟨b,o,ha,hlt,hc⟩:=h.at (List.length_pos_iff.2 hne)
 rw[ha]at hp;cases hp
 have:=(hF _ hf hlt).out _ _ (hc j _ (hs hne))
 cases this
end Go.Vc
namespace Go.Proofs.YtphkaogbcfdllaaGreatDoor
open Go Go.Vc Go.Scr Go.Pth Go.Tre Go.Blk Go.Run
variable {Z:Nat→Prop}
def varV (V:Vars):List (Bs×Value):=V.map fun x=>(x.1,.string (mkS x.2))
theorem var_get: ∀ (V:Vars) (k:Bs),mget (varV V) k=(mget V k).map fun t=>Value.string (mkS t)
 |[],k=>rfl
 |x::V,k=>by
  show(if k=x.1 then some (Value.string (mkS x.2))else mget (varV V) k)=(if k=x.1 then some x.2 else mget V k).map _
  split
  ·rfl
  ·exact var_get V k
theorem var_put: ∀ (V:Vars) (k t:Bs),mput (varV V) k (.string (mkS t))=varV (mput V k t)
 |[],k,t=>rfl
 |x::V,k,t=>by
  show(if k=x.1 then(k,Value.string (mkS t))::varV V else(x.1,Value.string (mkS x.2))::mput (varV V) k (.string (mkS t)))=varV (if k=x.1 then(k,t)::V else x::mput V k t)
  split
  ·rfl
  ·rw[var_put V k t];rfl
def VarsO (H:Heap):Option Nat→Option Vars→Prop
 |none,none=>True
 |some b,some V=>MapO H b (varV V)
 |_,_=>False
theorem VarsO.keep {F:Nat→Prop} {H H':Heap} {vm:Option Nat} {V:Option Vars} (h:VarsO H vm V) (k:Only F H H') (hF: ∀ b,vm=some b→ ¬F b):VarsO H' vm V:=by
 cases vm with
 |none=>cases V with|none=>trivial|some V=>exact h.elim
 |some b=>cases V with|none=>exact h.elim|some V=>exact MapO.keep h k (hF b rfl)
theorem VarsO.ext {H H':Heap} {vm:Option Nat} {V:Option Vars} (h:VarsO H vm V) (k:Ext H H'):VarsO H' vm V:=h.keep k fun _ _=>id
theorem SemH.var {H:Heap} {vm:Option Nat} {V:Option Vars} {k:Bs} {K:Value→Heap→Prop} (h:VarsO H vm V) (hk:K (.string (mkS (getV (varsF V) k))) H):SemH Tryz.prog (Instr.lookup 44 (.map vm) (.string (mkS k)) false) H K:=by
 cases vm with
 |none=>
  cases V with
  |some V=>exact h.elim
  |none=>exact SemH.lookupNil (z:= .string ⟨#[]⟩) rfl rfl rfl rfl hk
 |some b=>
  cases V with
  |none=>exact h.elim
  |some V=>
   refine SemH.lookupS (z:= .string ⟨#[]⟩) h rfl rfl rfl rfl ?_
   rw[var_get]
   have e:((mget V k).map fun t=>Value.string (mkS t)).getD (.string ⟨#[]⟩)= .string (mkS (getV (varsF (some V)) k)):=by
    show _=Value.string (mkS ((mget V k).getD []))
    cases mget V k<;>rfl
   rw[e];exact hk
theorem NextH.appY {H:Heap} {u ty:TypeId} {a:Option Addr} {n cap base m:Nat} {l y:Bs} {x:Value} {cb:Array Bool} {K:Value→Heap→Prop}
  (hown:Own H base 5 1 a n cap (strV l)) (hsrc:Src Tryz.prog H x 1 m (strV y)) (hn:n≤1000000000000) (hm:m≤1000000000000) (hb:base≤H.size) (hu: ∃ d,Tryz.prog.underlying u=some d∧(∀ k,d≠ .int k))
  (hk: ∀ a' cap' H',Own H' base 5 1 a' (n+m) cap' (strV (l++y))→Wr a H H'→K (.slice a' (n+m) cap') H'):NextH Tryz.prog (builtin .append #[33,u] ty cb #[.slice a n cap,x]) H K:=by
 refine Go.Vc.NextH.append (i:=Tryz.t5) (z:= .int .u8 0) rfl hu rfl rfl rfl hown hsrc (by unfold maxLen;omega) ?_ hb fun a' cap' H' h1 h2 _=>hk a' cap' H' (by rw[strV_append];exact h1) h2
 show(n+m)*1≤_
 omega
theorem take_cutv (l v r:Bs) (m:Nat) (hm:m=min v.length 65537):((l++v.take m)++r).take 65537=(l++(v++r)).take 65537:=by
 rcases Nat.lt_or_ge 65537 v.length with h|h
 ·rw[show m=65537 by omega,List.append_assoc,List.take_append,List.take_append,List.take_append,List.take_append (l₁:=v),List.take_take,List.length_take]
  congr 2
  ·rw[Nat.min_eq_left (by omega)]
  ·rw[show 65537-l.length-min 65537 v.length=0 by omega,show 65537-l.length-v.length=0 by omega,List.take_zero]
 ·rw[show m=v.length by omega,List.take_length,List.append_assoc]
theorem lns_dumb {F:Nat→Prop} {H H':Heap} {a:Option Addr} {L:List Ln} (h:Row H a (lnsV L)) (k:Only F H H') (hF: ∀ b,F b→b<H.size→Dumb H b):Row H' a (lnsV L):=by
 cases L with
 |nil=>exact Row.nil _ _
 |cons x L=>exact Row.dumb (j:=1) (s:=mkS x.a) h k (fun _=>rfl) hF
theorem nat_get {l:List Nat} {j n:Nat} (h:l[j]? =some n):(natV l)[j]? =some (.int .i64 (n:Int)):=by unfold natV;rw[List.getElem?_map,h];rfl
theorem nat_set (l:List Nat) (j n:Nat):(natV l).set j (.int .i64 (n:Int))=natV (l.set j n):=by unfold natV;rw[List.map_set]
theorem nat_made (n:Nat):(madeCells (Value.int .i64 0).cells (n*1)).toList=natV (List.replicate n 0):=by
 apply List.ext_getElem?
 intro j
 rw[Nat.mul_one,Array.getElem?_toList]
 simp only[madeCells,Array.getElem?_map,Array.getElem?_range,natV,List.map_replicate,List.getElem?_replicate]
 split
 ·show some ((#[Value.int .i64 0])[j % 1]!)=_;rw[Nat.mod_one];rfl
 ·simp
abbrev Tab (H:Heap) (B g n:Nat) (l:List Nat):Prop:=Own H B 3 1 (some ⟨g,0,none⟩) n n (natV l)
theorem Tab.blk {H:Heap} {B g n:Nat} {l:List Nat} (h:Tab H B g n l) (hl:l.length=n):Blk H g (natV l).toArray 3:=by
 rcases h.out with ⟨h1,_⟩|⟨g',cur,h1,_,hb,_,_,hs,ht⟩
 ·cases h1
 ·cases h1
  have:cur.toList=natV l:=by rw[←ht,List.take_of_length_le];rw[Array.length_toList];omega
  rw[←this];simpa using hb
theorem Tab.dumb {H:Heap} {B g n:Nat} {l:List Nat} (h:Tab H B g n l) (hl:l.length=n):Oth H g:=Oth.blk (h.blk hl) (fun v hv=>by
 have hv:v∈natV l:=by simpa using hv
 obtain⟨n,_,rfl⟩:=List.mem_map.1 hv
 rfl) (by decide)
end Go.Proofs.YtphkaogbcfdllaaGreatDoor
namespace Go.Proofs.YtphkaogbcfdllaaGreatDoor
open Go Go.Vc Go.Scr Go.Pth Go.Tre Go.Blk Go.Run
theorem small_any (c:UInt8) (H:Heap):CallH Tryz.prog 204 [.int .u8 c.toNat] H fun v H'=>v= .bool (lowB c)∧H=H':=by
 have hc:=c.toNat_lt
 unfold lowB
 refine Vc.CallH.body Tryz.func204 Tryz.call204 rfl (by decide+kernel) rfl ?_
 ((conv=>whnf);repeat(any_goals((first|refine Vc.stp ?_|refine Vc.spl ?_ ?_)<;>(intros;(conv=>whnf)))))
 all_goals(refine⟨?_,rfl⟩;first|(rw[decide_eq_true (by omega)];rfl)|(rw[decide_eq_false (by omega)];rfl)|(show Value.bool _=Value.bool _;congr 1;rw[Bool.eq_iff_iff,decide_eq_true_eq,decide_eq_true_eq];omega))
theorem digit_any (c:UInt8) (H:Heap):CallH Tryz.prog 205 [.int .u8 c.toNat] H fun v H'=>v= .bool (digB c)∧H=H':=by
 have hc:=c.toNat_lt
 unfold digB
 refine Vc.CallH.body Tryz.func205 Tryz.call205 rfl (by decide+kernel) rfl ?_
 ((conv=>whnf);repeat(any_goals((first|refine Vc.stp ?_|refine Vc.spl ?_ ?_)<;>(intros;(conv=>whnf)))))
 all_goals(refine⟨?_,rfl⟩;first|(rw[decide_eq_true (by omega)];rfl)|(rw[decide_eq_false (by omega)];rfl)|(show Value.bool _=Value.bool _;congr 1;rw[Bool.eq_iff_iff,decide_eq_true_eq,decide_eq_true_eq];omega))
theorem named_any (s:Bs) (hl:s.length≤1000000000) (H:Heap):CallH Tryz.prog 164 [.string (mkS s)] H fun v H'=>v= .int .i64 (nameN s)∧H=H':=by
 have hsz:(mkS s).size=s.length:=rfl
 by_cases hnil:s=[]
 ·subst hnil
  refine Vc.CallH.body Tryz.func164 Tryz.call164 rfl (by decide+kernel) rfl ?_
  ((conv=>whnf);repeat(any_goals((first|refine Vc.stp ?_|refine Vc.spl ?_ ?_)<;>(intros;(conv=>whnf)))))
  exact⟨rfl,rfl⟩
 obtain⟨c,t,hct⟩: ∃ c t,s=c::t:=by cases s with|nil=>exact absurd rfl hnil|cons c t=>exact⟨c,t,rfl⟩
 have hne:((mkS s).toList==(⟨#[]⟩:ByteArray).toList)=false:=by rw[hct];exact ne_empty c t
 have hs0:=fun H=>small_any c H
 have h0:(mkS s).data.toList.getD 0 0=c:=by rw[hct];rfl
 have hlen:s.length=t.length+1:=by rw[hct];rfl
 refine Vc.CallH.body Tryz.func164 Tryz.call164 rfl (by decide+kernel) rfl ?_
 cases hlow:lowB c with
 |false=>
  rw[hlow]at hs0
  have hnm:nameN s=0:=by rw[hct];show(if lowB c=true then _ else 0)=0;rw[hlow];rfl
  rw[hnm]
  ((conv=>whnf);repeat(any_goals((first|(refine IdxH.nat 0 rfl (by omega) ?_;(conv=>whnf);rw[h0])|(refine(hs0 _).mono ?_;rintro _ _ ⟨rfl,rfl⟩)|refine Vc.stp ?_|refine Vc.spl ?_ ?_)<;>(intros;(conv=>whnf)))))
  exact⟨rfl,rfl⟩
 |true=>
  rw[hlow]at hs0
  have hnm:nameN s=(s.takeWhile fun x=>lowB x || digB x).length:=by
   rw[hct,List.takeWhile_cons,if_pos (by rw[hlow];rfl),List.length_cons]
   show(if lowB c=true then 1+(t.takeWhile fun x=>lowB x || digB x).length else 0)=_
   rw[if_pos hlow];omega
  ((conv=>whnf);repeat(any_goals((first|(refine IdxH.nat 0 rfl (by omega) ?_;(conv=>whnf);rw[h0])|(refine(hs0 _).mono ?_;rintro _ _ ⟨rfl,rfl⟩)|refine Vc.stp ?_|refine Vc.spl ?_ ?_)<;>(intros;(conv=>whnf)))))
  clear hs0 h0 hlow hne
  refine LoopH.intro (fun(i:Nat)=>[(14,.int .i64 i)]) (fun i H'=>H=H'∧i≤s.length∧nameN s=i+((s.drop i).takeWhile fun x=>lowB x || digB x).length) (fun i=>s.length-i) 0 ⟨rfl,trivial⟩ ⟨rfl,Nat.zero_le _,by rw[hnm];simp⟩ ?_
  rintro i _ ⟨rfl,hi,hb⟩
  dsimp only
  by_cases hlt:i<s.length
  ·obtain⟨c,hc,hd⟩:=drop_get hlt
   rw[hd,List.takeWhile_cons]at hb
   have hs1:=fun H=>small_any c H
   have hd1:=fun H=>digit_any c H
   cases hb1:lowB c with
   |true=>
    rw[hb1]at hs1 hb
    rw[Bool.true_or,if_pos rfl,List.length_cons]at hb
    ((conv=>whnf);repeat(any_goals((first|(refine IdxH.nat i rfl (by omega) ?_;(conv=>whnf);rw[hc])|(refine(hs1 _).mono ?_;rintro _ _ ⟨rfl,rfl⟩)|(refine(hd1 _).mono ?_;rintro _ _ ⟨rfl,rfl⟩)|refine Vc.stp ?_|refine Vc.spl ?_ ?_)<;>(intros;(conv=>whnf)))))
    exact⟨i+1,⟨rfl,trivial⟩,⟨rfl,by omega,by omega⟩,by omega⟩
   |false=>
    rw[hb1]at hs1 hb
    cases hb2:digB c with
    |true=>
     rw[hb2]at hd1 hb
     rw[Bool.false_or,if_pos rfl,List.length_cons]at hb
     ((conv=>whnf);repeat(any_goals((first|(refine IdxH.nat i rfl (by omega) ?_;(conv=>whnf);rw[hc])|(refine(hs1 _).mono ?_;rintro _ _ ⟨rfl,rfl⟩)|(refine(hd1 _).mono ?_;rintro _ _ ⟨rfl,rfl⟩)|refine Vc.stp ?_|refine Vc.spl ?_ ?_)<;>(intros;(conv=>whnf)))))
     exact⟨i+1,⟨rfl,trivial⟩,⟨rfl,by omega,by omega⟩,by omega⟩
    |false=>
     rw[hb2]at hd1 hb
     rw[Bool.false_or,if_neg (by decide)]at hb
     ((conv=>whnf);repeat(any_goals((first|(refine IdxH.nat i rfl (by omega) ?_;(conv=>whnf);rw[hc])|(refine(hs1 _).mono ?_;rintro _ _ ⟨rfl,rfl⟩)|(refine(hd1 _).mono ?_;rintro _ _ ⟨rfl,rfl⟩)|refine Vc.stp ?_|refine Vc.spl ?_ ?_)<;>(intros;(conv=>whnf)))))
     exact⟨by rw[hb];rfl,rfl⟩
  ·rw[List.drop_of_length_le (by omega)]at hb
   ((conv=>whnf);repeat(any_goals((first|refine Vc.stp ?_|refine Vc.spl ?_ ?_)<;>(intros;(conv=>whnf)))))
   exact⟨by rw[hb];show Value.int _ _=Value.int _ _;congr 1;simp;omega,rfl⟩
structure TxS where
 i:Nat
 l:Bs
 a:Option Addr
 cap:Nat
set_option maxHeartbeats 2000000 in
theorem vtext_any (g:Nat) (vm:Option Nat) (V:Option Vars) (s:Bs) (hl:s.length≤1000000000) (H:Heap) (hv:VarsO H vm V) (hvm:hcell H ⟨g,4,none⟩=some (.map vm)):
  CallH Tryz.prog 110 [.pointer (some ⟨g,0,none⟩),.string (mkS s)] H fun v H'=>v= .string (mkS ((fillF (varsF V) s).take 65537))∧Ext H H':=by
 have hsz:(mkS s).size=s.length:=rfl
 obtain⟨W,hW⟩: ∃ W,varsF V=W:=⟨_,rfl⟩
 rw[hW]
 refine Vc.CallH.body Tryz.func110 Tryz.call110 rfl (by decide+kernel) rfl ?_
 ((conv=>whnf);repeat(any_goals((first|refine Vc.stp ?_)<;>(intros;(conv=>whnf)))))
 refine LoopH.intro (fun(x:TxS)=>[(6,.int .i64 x.i),(5,.slice x.a x.l.length x.cap)]) (fun x H'=>x.i≤s.length∧x.l.length≤131074∧Own H' H.size 5 1 x.a x.l.length x.cap (strV x.l)∧(fillF W s).take 65537=(x.l++fillF W (s.drop x.i)).take 65537∧Ext H H') (fun x=>s.length-x.i) ⟨0,[],none,0⟩ ⟨rfl,rfl,trivial⟩ ⟨Nat.zero_le _,Nat.zero_le _,Own.nil _ _ _ _,rfl,Ext.refl _⟩ ?_
 rintro⟨i,l,a,cap⟩ H1 ⟨hi,hll,ho,hinv,hx1⟩
 dsimp only at hi hll ho hinv hx1 ⊢
 have hz1:=hx1.size
 by_cases hlt:i<s.length
 ·obtain⟨c,hc,hd⟩:=drop_get hlt
  rw[hd,fillF_cons]at hinv
  by_cases hlm:l.length<65537
  ·by_cases h36:c≠36
   ·rw[if_pos h36]at hinv
    have n36:=ne_nat 36 (by decide) h36
    ((conv=>whnf);repeat(any_goals((first|(refine IdxH.nat i rfl (by omega) ?_;(conv=>whnf);rw[hc])|(refine BndH.nat (i+1+n) (by omega) (by omega) ?_)|(refine BndH.nat m hmin (by omega) ?_;(conv=>whnf);rw[mkS_take])|(refine SemH.var (hv.ext (by exact Vc.xt)) ?_;rw[hW,hv'])|(refine NextH.appY (y:=v.take m) (m:=(mkS (v.take m)).size) ho (Src.str (mkS (v.take m))) (by omega) (by omega) (by omega) ⟨_,rfl,fun _ h=>by cases h⟩ ?_;intro a2 c2 H2 ho2 hw2)|(refine BndH.nat (i+1) (by omega) (by omega) ?_;(conv=>whnf);first|rw[hkey]|rw[mkS_drop,ht])|(refine(hnm _).mono ?_;rintro _ _ ⟨rfl,rfl⟩)|refine Vc.stp ?_)<;>(intros;(conv=>whnf)))))
    rename_i Ha za ba xa a2 c2 H2 ho2 hx2
    exact⟨⟨i+1,l++[c],a2,c2⟩,⟨rfl,sl_snoc a2 l c c2,trivial⟩,⟨by show i+1≤_;omega,by show(l++[c]).length≤_;simp;omega,own_snoc ho2,by show _=((l++[c])++_).take _;rw[hinv,List.append_assoc];rfl,hx2⟩,by show s.length-(i+1)<s.length-i;omega⟩
   ·have h36:c=36:=Classical.not_not.1 h36
    subst h36
    rw[if_neg (by simp)]at hinv
    have n36:(36:UInt8).toNat=36:=rfl
    obtain⟨t,ht⟩: ∃ t,s.drop (i+1)=t:=⟨_,rfl⟩
    have htl:t.length=s.length-(i+1):=by rw[←ht,List.length_drop]
    have hnle:=nameN_le t
    rw[ht]at hinv
    obtain⟨n,hN⟩: ∃ n,nameN t=n:=⟨_,rfl⟩
    rw[hN]at hinv hnle
    have hnm:=fun H=>named_any t (by omega) H
    rw[hN]at hnm
    by_cases hn0:n=0
    ·rw[if_neg (by omega)]at hinv
     subst hn0
     cases t with
     |nil=>
      have hl1:i+1=s.length:=by rw[List.length_nil]at htl;omega
      rw[if_neg (by simp)]at hinv
      ((conv=>whnf);repeat(any_goals((first|(refine IdxH.nat i rfl (by omega) ?_;(conv=>whnf);rw[hc])|(refine BndH.nat (i+1+n) (by omega) (by omega) ?_)|(refine BndH.nat m hmin (by omega) ?_;(conv=>whnf);rw[mkS_take])|(refine SemH.var (hv.ext (by exact Vc.xt)) ?_;rw[hW,hv'])|(refine NextH.appY (y:=v.take m) (m:=(mkS (v.take m)).size) ho (Src.str (mkS (v.take m))) (by omega) (by omega) (by omega) ⟨_,rfl,fun _ h=>by cases h⟩ ?_;intro a2 c2 H2 ho2 hw2)|(refine BndH.nat (i+1) (by omega) (by omega) ?_;(conv=>whnf);first|rw[hkey]|rw[mkS_drop,ht])|(refine(hnm _).mono ?_;rintro _ _ ⟨rfl,rfl⟩)|refine Vc.stp ?_)<;>(intros;(conv=>whnf)))))
      rename_i Ha za ba xa a2 c2 H2 ho2 hx2
      exact⟨⟨i+1,l++[36],a2,c2⟩,⟨rfl,sl_snoc a2 l 36 c2,trivial⟩,⟨by show i+1≤_;omega,by show(l++[36]).length≤_;simp;omega,own_snoc ho2,by show _=((l++[36])++fillF W (s.drop (i+1))).take _;rw[hinv,List.append_assoc,ht];rfl,hx2⟩,by show s.length-(i+1)<s.length-i;omega⟩
     |cons d u=>
      have hl1:i+1<s.length:=by rw[List.length_cons]at htl;omega
      obtain⟨d',hd',hdd⟩:=drop_get hl1
      rw[ht,List.cons.injEq]at hdd
      obtain⟨rfl,hu⟩:=hdd
      by_cases h2:d=36
      ·subst h2
       rw[if_pos (by rfl)]at hinv
       have n37:(36:UInt8).toNat=36:=rfl
       ((conv=>whnf);repeat(any_goals((first|(refine IdxH.nat (i+1) (by omega) (by omega) ?_;(conv=>whnf);rw[hd'])|(refine IdxH.nat i rfl (by omega) ?_;(conv=>whnf);rw[hc])|(refine BndH.nat (i+1+n) (by omega) (by omega) ?_)|(refine BndH.nat m hmin (by omega) ?_;(conv=>whnf);rw[mkS_take])|(refine SemH.var (hv.ext (by exact Vc.xt)) ?_;rw[hW,hv'])|(refine NextH.appY (y:=v.take m) (m:=(mkS (v.take m)).size) ho (Src.str (mkS (v.take m))) (by omega) (by omega) (by omega) ⟨_,rfl,fun _ h=>by cases h⟩ ?_;intro a2 c2 H2 ho2 hw2)|(refine BndH.nat (i+1) (by omega) (by omega) ?_;(conv=>whnf);first|rw[hkey]|rw[mkS_drop,ht])|(refine(hnm _).mono ?_;rintro _ _ ⟨rfl,rfl⟩)|refine Vc.stp ?_)<;>(intros;(conv=>whnf)))))
       rename_i Ha za ba xa a2 c2 H2 ho2 hx2
       exact⟨⟨i+1+1,l++[36],a2,c2⟩,⟨rfl,sl_snoc a2 l 36 c2,trivial⟩,⟨by show i+1+1≤_;omega,by show(l++[36]).length≤_;simp;omega,own_snoc ho2,by show _=((l++[36])++fillF W (s.drop (i+1+1))).take _;rw[hinv,List.append_assoc,←hu];rfl,hx2⟩,by show s.length-(i+1+1)<s.length-i;omega⟩
      ·rw[if_neg (by simpa using h2)]at hinv
       have n37:=ne_nat 36 (by decide) h2
       ((conv=>whnf);repeat(any_goals((first|(refine IdxH.nat (i+1) (by omega) (by omega) ?_;(conv=>whnf);rw[hd'])|(refine IdxH.nat i rfl (by omega) ?_;(conv=>whnf);rw[hc])|(refine BndH.nat (i+1+n) (by omega) (by omega) ?_)|(refine BndH.nat m hmin (by omega) ?_;(conv=>whnf);rw[mkS_take])|(refine SemH.var (hv.ext (by exact Vc.xt)) ?_;rw[hW,hv'])|(refine NextH.appY (y:=v.take m) (m:=(mkS (v.take m)).size) ho (Src.str (mkS (v.take m))) (by omega) (by omega) (by omega) ⟨_,rfl,fun _ h=>by cases h⟩ ?_;intro a2 c2 H2 ho2 hw2)|(refine BndH.nat (i+1) (by omega) (by omega) ?_;(conv=>whnf);first|rw[hkey]|rw[mkS_drop,ht])|(refine(hnm _).mono ?_;rintro _ _ ⟨rfl,rfl⟩)|refine Vc.stp ?_)<;>(intros;(conv=>whnf)))))
       rename_i Ha za ba xa a2 c2 H2 ho2 hx2
       exact⟨⟨i+1,l++[36],a2,c2⟩,⟨rfl,sl_snoc a2 l 36 c2,trivial⟩,⟨by show i+1≤_;omega,by show(l++[36]).length≤_;simp;omega,own_snoc ho2,by show _=((l++[36])++fillF W (s.drop (i+1))).take _;rw[hinv,List.append_assoc,ht];rfl,hx2⟩,by show s.length-(i+1)<s.length-i;omega⟩
    ·rw[if_pos hn0]at hinv
     obtain⟨v,hv'⟩: ∃ v,getV W (t.take n)=v:=⟨_,rfl⟩
     rw[hv']at hinv
     have hkey:(mkS s).extract (i+1) (i+1+n)=mkS (t.take n):=by rw[mkS_ext,ht,show i+1+n-(i+1)=n by omega]
     obtain⟨m,hm⟩: ∃ m,m=min v.length 65537:=⟨_,rfl⟩
     have hmin:min ((v.length:Nat):Int) 65537=(m:Int):=by omega
     have hvl:(mkS v).size=v.length:=rfl
     have hvt:(mkS (v.take m)).size=m:=by show(v.take m).length=m;rw[List.length_take];omega
     ((conv=>whnf);repeat(any_goals((first|(refine IdxH.nat i rfl (by omega) ?_;(conv=>whnf);rw[hc])|(refine BndH.nat (i+1+n) (by omega) (by omega) ?_)|(refine BndH.nat m hmin (by omega) ?_;(conv=>whnf);rw[mkS_take])|(refine SemH.var (hv.ext (by exact Vc.xt)) ?_;rw[hW,hv'])|(refine NextH.appY (y:=v.take m) (m:=(mkS (v.take m)).size) ho (Src.str (mkS (v.take m))) (by omega) (by omega) (by omega) ⟨_,rfl,fun _ h=>by cases h⟩ ?_;intro a2 c2 H2 ho2 hw2)|(refine BndH.nat (i+1) (by omega) (by omega) ?_;(conv=>whnf);first|rw[hkey]|rw[mkS_drop,ht])|(refine(hnm _).mono ?_;rintro _ _ ⟨rfl,rfl⟩)|refine Vc.stp ?_)<;>(intros;(conv=>whnf)))))
     have hx2:Ext H H2:=hx1.wr ho (Nat.le_refl _) hw2
     have hll2:(l++v.take m).length=l.length+(mkS (v.take m)).size:=by rw[List.length_append];rfl
     refine⟨⟨i+n+1,l++v.take m,a2,c2⟩,⟨rfl,by show Value.slice _ _ _=Value.slice _ _ _;rw[hll2],trivial⟩,⟨by show i+n+1≤_;omega,by show(l++v.take m).length≤_;omega,by show Own _ _ _ 1 _ (l++v.take m).length _ _;rw[hll2];exact ho2,?_,hx2⟩,by show s.length-(i+n+1)<s.length-i;omega⟩
     show _=((l++v.take m)++fillF W (s.drop (i+n+1))).take 65537
     rw[hinv,take_cutv l v _ m hm,←ht,List.drop_drop,show i+1+n=i+n+1 by omega]
  ·rw[List.take_append_of_le_length (by omega)]at hinv
   (obtain⟨M,hM⟩: ∃ M,M=min l.length 65537:=⟨_,rfl⟩;have hmn:min ((l.length:Nat):Int) 65537=(M:Int):=(by omega);have hcl:=ho.cap_le;have hrow:=ho.row.take M;rw[strV_take]at hrow;have hMl:(l.take M).length=M:=(by rw[List.length_take];omega);have hfin:l.take M=l.take 65537:=(by rcases Nat.lt_or_ge 65537 l.length with h|h;(rw[show M=65537 by omega]);(rw[List.take_of_length_le (by omega),List.take_of_length_le (by omega)]));((conv=>whnf);repeat(any_goals((first|(refine BndH.nat M hmn (by omega) ?_)|(refine to_string' (l:=l.take M) rfl rfl rfl hrow hMl ?_)|refine Vc.stp ?_)<;>(intros;(conv=>whnf)))));exact⟨(by rw[hinv,←hfin];rfl),hx1⟩)
 ·rw[List.drop_of_length_le (by omega),fillF_nil,List.append_nil]at hinv
  (obtain⟨M,hM⟩: ∃ M,M=min l.length 65537:=⟨_,rfl⟩;have hmn:min ((l.length:Nat):Int) 65537=(M:Int):=(by omega);have hcl:=ho.cap_le;have hrow:=ho.row.take M;rw[strV_take]at hrow;have hMl:(l.take M).length=M:=(by rw[List.length_take];omega);have hfin:l.take M=l.take 65537:=(by rcases Nat.lt_or_ge 65537 l.length with h|h;(rw[show M=65537 by omega]);(rw[List.take_of_length_le (by omega),List.take_of_length_le (by omega)]));((conv=>whnf);repeat(any_goals((first|(refine BndH.nat M hmn (by omega) ?_)|(refine to_string' (l:=l.take M) rfl rfl rfl hrow hMl ?_)|refine Vc.stp ?_)<;>(intros;(conv=>whnf)))));exact⟨(by rw[hinv,←hfin];rfl),hx1⟩)
end Go.Proofs.YtphkaogbcfdllaaGreatDoor
namespace Go.Proofs.YtphkaogbcfdllaaGreatDoor
open Go Go.Vc Go.Scr Go.Pth Go.Tre Go.Blk Go.Run
structure MP where
 B:Nat
 g:Nat
 go:Nat
 gh:Nat
 gm:Nat
 al:Option Addr
 cl:Nat
 n:Nat
 L:List Ln
 O:List Nat
 Hd:List Nat
 b:Nat
 mb:Nat
 vm:Option Nat
def macC (m:MP) (f:Nat):Array Value:= #[.slice (some ⟨m.go,0,none⟩) m.n m.n,.slice (some ⟨m.gh,0,none⟩) m.n m.n,.slice m.al m.n m.cl,.pointer (some ⟨m.b,0,none⟩),.map m.vm,.slice (some ⟨m.gm,0,none⟩) m.n m.n,.int .i64 f]
structure Mac (H:Heap) (m:MP) (s:St) (M:List Nat) (f:Nat):Prop where
 blk:Blk H m.g (macC m f) 139
 oth:Tab H m.B m.go m.n m.O
 hds:Tab H m.B m.gh m.n m.Hd
 mor:Tab H m.B m.gm m.n M
 row:Row H m.al (lnsV m.L)
 len:m.L.length=m.n
 small:m.n≤1000000
 lens: ∀ x∈m.L,x.a.length≤1000000∧x.b.length≤1000000∧x.tx.length≤1000000∧x.n≤1000000
 bnd: ∀ c∈M,c≤1000000
 tree:TreeO no H m.b m.mb s.A
 vars:VarsO H m.vm s.V
 tabs:Go.Blk.Tables (kindsL m.L) m.O m.Hd
 rel:RelM (kindsL m.L) s.at_ s.S M
 okay:Okay s.A
 d1:m.go≠m.gm
 d2:m.gh≠m.gm
 dv: ∀ v,m.vm=some v→v≠m.mb
theorem mac_dumb (m:MP) (f:Nat): ∀ v∈(macC m f).toList,dumbV v=true:=by simp[macC,dumbV]
theorem Mac.othG {H:Heap} {m:MP} {s:St} {M:List Nat} {f:Nat} (h:Mac H m s M f):Oth H m.g:= .blk h.blk (mac_dumb m f) (by decide)
theorem Mac.klen {H:Heap} {m:MP} {s:St} {M:List Nat} {f:Nat} (h:Mac H m s M f):(kindsL m.L).length=m.n:=by rw[kinds_len,h.len]
theorem Mac.vm4 {H:Heap} {m:MP} {s:St} {M:List Nat} {f:Nat} (h:Mac H m s M f):hcell H ⟨m.g,4,none⟩=some (.map m.vm):=by rw[h.blk.cell];rfl
def doM (m:MP) (x:Nat):Prop:=x=m.b∨x=m.mb∨m.vm=some x∨x=m.gm
theorem vars_map {H:Heap} {vm:Option Nat} {V:Option Vars} (h:VarsO H vm V) {v:Nat} (e:vm=some v): ∃ W,V=some W∧MapO H v (varV W):=by
 subst e
 cases V with
 |none=>exact h.elim
 |some W=>exact⟨W,rfl,h⟩
theorem Mac.keep {H H':Heap} {m:MP} {s s':St} {M M':List Nat} {f:Nat} (h:Mac H m s M f) (k:Only (doM m) H H') (hm:Tab H' m.B m.gm m.n M') (ht:TreeO no H' m.b m.mb s'.A) (hv:VarsO H' m.vm s'.V) (hr:RelM (kindsL m.L) s'.at_ s'.S M') (ho:Okay s'.A) (hbd: ∀ c∈M',c≤1000000):Mac H' m s' M' f:=by
 have hMl:M.length=m.n:=by rw[h.rel.len,h.klen]
 have hgm:=h.mor.blk hMl
 have notG: ∀ {g:Nat} {c:Array Value} {t:TypeId},Blk H g c t→t≠133→g≠m.gm→ ¬doM m g:=by
  intro g c t hb ht' hg hd
  rcases hd with e|e|e|e
  ·subst e;exact ht' (blk_one hb h.tree.blk).1
  ·exact h.tree.map.ne hb e.symm
  ·obtain⟨W,_,hW⟩:=vars_map h.vars e
   exact hW.ne hb rfl
  ·exact hg e
 have hgG:m.g≠m.gm:=fun e=>by
  have h1:=h.blk
  rw[e]at h1
  exact absurd (blk_one h1 hgm).1 (by decide)
 have hOl:m.O.length=m.n:=by rw[h.tabs.lenO,h.klen]
 have hHl:m.Hd.length=m.n:=by rw[h.tabs.lenH,h.klen]
 have tabK: ∀ {g:Nat} {l:List Nat},Tab H m.B g m.n l→l.length=m.n→g≠m.gm→Tab H' m.B g m.n l:=by
  intro g l ht' hl hg
  exact ht'.keep k fun p hp hd=>by
   cases hp
   exact notG (ht'.blk hl) (by decide) hg hd
 refine⟨h.blk.keep k (notG h.blk (by decide) hgG),tabK h.oth hOl h.d1,tabK h.hds hHl h.d2,hm,lns_dumb h.row k fun x hx _=> ?_,h.len,h.small,h.lens,hbd,ht,hv,h.tabs,hr,ho,h.d1,h.d2,h.dv⟩
 rcases hx with e|e|e|e
 ·subst e;exact h.tree.oth.dumb
 ·subst e;exact h.tree.map.oth.dumb
 ·obtain⟨W,_,hW⟩:=vars_map h.vars e
  exact .map hW
 ·subst e;exact(h.mor.dumb hMl).dumb
theorem Mac.ext {H H':Heap} {m:MP} {s:St} {M:List Nat} {f:Nat} (h:Mac H m s M f) (k:Ext H H'):Mac H' m s M f:=
 h.keep k.only (h.mor.ext k) (h.tree.ext k) (h.vars.ext k) h.rel h.okay h.bnd
theorem Mac.did {H H1 H':Heap} {m:MP} {s:St} {M:List Nat} {f:Nat} {v:Value} {r:Tr×Nat} (h:Mac H m s M f) (k:Ext H H1) (hd:Did no H1 H' m.b m.mb v r) (ho:Okay r.1) (hh:hdF (kindsL m.L) (s.at_+1)=hdF (kindsL m.L) s.at_):
  Mac H' m (doneF s r).1 M f∧Only (doM m) H H':=by
 have h1:=h.ext k
 have hMl:M.length=m.n:=by rw[h.rel.len,h.klen]
 have hx:Only (doM m) H1 H':=hd.only.mono fun x e=>e.elim .inl fun e=> .inr (.inl e)
 refine⟨h1.keep hx (h1.mor.keep hd.only fun p hp e=> ?_) hd.tree (h1.vars.keep hd.only fun v hv e=> ?_) (h1.rel.same hh) ho h.bnd,k.only.trans hx fun _ _ e=>e⟩
 ·cases hp
  have hb:=h1.mor.blk hMl
  rcases e with e|e
  ·dsimp only at e;rw[e]at hb;exact absurd (blk_one hb h1.tree.blk).1 (by decide)
  ·exact h1.tree.map.ne hb e.symm
 ·obtain⟨W,_,hW⟩:=vars_map h1.vars hv
  rcases e with e|e
  ·exact hW.ne h1.tree.blk e
  ·exact h.dv v hv e
theorem Mac.more {H H1 H':Heap} {m:MP} {s s':St} {M M':List Nat} {f:Nat} (h:Mac H m s M f) (k:Ext H H1) (hm:Tab H' m.B m.gm m.n M') (hb:But m.gm H1 H') (hA:s'.A=s.A) (hV:s'.V=s.V) (hr:RelM (kindsL m.L) s'.at_ s'.S M') (hbd: ∀ c∈M',c≤1000000):
  Mac H' m s' M' f∧Only (doM m) H H':=by
 have h1:=h.ext k
 have hMl:M.length=m.n:=by rw[h.rel.len,h.klen]
 have hgm:=h1.mor.blk hMl
 have hx:Only (doM m) H1 H':=hb.mono fun x e=> .inr (.inr (.inr e))
 refine⟨h1.keep hx hm ?_ ?_ hr (by rw[hA];exact h1.okay) hbd,k.only.trans hx fun _ _ e=>e⟩
 ·rw[hA]
  refine h1.tree.keep hb (fun e=> ?_) (fun e=>h1.tree.map.ne hgm e) fun x e _=>by subst e;exact .inl (h1.mor.dumb hMl)
  have h2:=h1.tree.blk
  rw[e]at h2
  exact absurd (blk_one h2 hgm).1 (by decide)
 ·rw[hV]
  exact h1.vars.keep hb fun v hv e=>by
   obtain⟨W,_,hW⟩:=vars_map h1.vars hv
   exact hW.ne hgm e
theorem Mac.to {H H':Heap} {m:MP} {s s':St} {M:List Nat} {f:Nat} (h:Mac H m s M f) (k:Ext H H') (hA:s'.A=s.A) (hV:s'.V=s.V) (hr:RelM (kindsL m.L) s'.at_ s'.S M):Mac H' m s' M f∧Only (doM m) H H':=
 ⟨h.keep k.only (h.mor.ext k) (by rw[hA];exact h.tree.ext k) (by rw[hV];exact h.vars.ext k) hr (by rw[hA];exact h.okay) h.bnd,k.only⟩
theorem Mac.set {H H1 H':Heap} {m:MP} {s s':St} {M:List Nat} {f:Nat} (h:Mac H m s M f) (k:Ext H H1) (hA:s'.A=s.A) (hv:VarsO H' m.vm s'.V) (hb:Only (fun y=>m.vm=some y) H1 H') (hr:RelM (kindsL m.L) s'.at_ s'.S M):Mac H' m s' M f∧Only (doM m) H H':=by
 have h1:=h.ext k
 have hMl:M.length=m.n:=by rw[h.rel.len,h.klen]
 have hx:Only (doM m) H1 H':=hb.mono fun x e=> .inr (.inr (.inl e))
 refine⟨h1.keep hx (h1.mor.keep hb fun p hp e=> ?_) ?_ hv hr (by rw[hA];exact h1.okay) h.bnd,k.only.trans hx fun _ _ e=>e⟩
 ·cases hp
  obtain⟨W,_,hW⟩:=vars_map h1.vars e
  exact hW.ne (h1.mor.blk hMl) rfl
 ·rw[hA]
  refine h1.tree.keep hb (fun e=> ?_) (fun e=>h.dv _ e rfl) fun x e _=> ?_
  ·obtain⟨W,_,hW⟩:=vars_map h1.vars e
   exact hW.ne h1.tree.blk rfl
  ·obtain⟨W,_,hW⟩:=vars_map h1.vars e
   exact .inl (.map hW)
end Go.Proofs.YtphkaogbcfdllaaGreatDoor
namespace Go.Proofs.YtphkaogbcfdllaaGreatDoor
open Go Go.Vc Go.Scr Go.Pth Go.Tre Go.Blk Go.Run
theorem mapNe {vm:Option Nat} {o1 o2:Operand} {K:Value→Prop} (hk:K (.bool vm.isSome)):PureH Tryz.prog (do eqGuard .neq 44 o1 o2 (.map vm) (.map none);binOp .neq 44 (.map vm) (.map none)) K:=by
 refine⟨⟨_,fun w=> ?_,hk⟩⟩
 cases vm<;>rfl
structure SetV (H H':Heap) (vm:Option Nat) (V:Option Vars) (x:Ln) (v:Value):Prop where
 out:if isName x.a=false then v= .int .i64 72∧Ext H H'
 else if 65536<(fillF (varsF V) x.tx).length then v= .int .i64 55∧Ext H H'
 else v= .int .i64 0∧ ∃ H1,Ext H H1∧VarsO H' vm (V.map fun V=>mput V x.a (fillF V x.tx))∧Only (fun y=>vm=some y) H1 H'
theorem vset_any (g:Nat) (vm:Option Nat) (V:Option Vars) (x:Ln) (hxa:x.a.length≤1000000000) (hxt:x.tx.length≤1000000000) (H:Heap) (hv:VarsO H vm V) (hvm:hcell H ⟨g,4,none⟩=some (.map vm)):
  CallH Tryz.prog 115 [.pointer (some ⟨g,0,none⟩),.agg (lnC x)] H fun v H'=>SetV H H' vm V x v:=by
 have e0:=eq_empty x.a
 have hsz:(mkS x.a).size=x.a.length:=rfl
 obtain⟨F,hF⟩: ∃ F,fillF (varsF V) x.tx=F:=⟨_,rfl⟩
 have hFs:(mkS (F.take 65537)).size=min 65537 F.length:=by show(F.take 65537).length=_;exact List.length_take
 refine Vc.CallH.body Tryz.func115 Tryz.call115 rfl (by decide+kernel) rfl ?_
 by_cases ha:x.a=[]
 ·rw[decide_eq_true ha]at e0
  have hn:isName x.a=false:=by unfold isName;rw[decide_eq_false_iff_not];exact fun h=>h.1 ha
  ((conv=>whnf);repeat(any_goals((first|(refine(vtext_any g _ _ x.tx hxt _ (hv.ext (by exact Vc.xt)) (hcell_keep hvm (by exact Vc.xt) id)).mono ?_;rintro _ H3 ⟨rfl,hx3⟩;have hz3:=hx3.size;rw[hF])|((with_reducible apply mapNe);(focus((conv=>whnf))))|(refine(named_any x.a hxa _).mono ?_;rintro _ _ ⟨rfl,rfl⟩)|((with_reducible refine Vc.DrawH.held [0,1,2,3,4,5,7,8,9,6,10,11,12] [(6,[8])] mixed (by decide+kernel) ?_))|refine Vc.stp ?_)<;>(intros;(conv=>whnf)))))
  exact⟨by rw[if_pos hn];exact⟨rfl,by exact Vc.xt⟩⟩
 rw[decide_eq_false ha]at e0
 by_cases hb:nameN x.a=x.a.length
 ·have hn:isName x.a=true:=by unfold isName;rw[decide_eq_true_eq];exact⟨ha,hb⟩
  by_cases hc:65536<F.length
  ·((conv=>whnf);repeat(any_goals((first|(refine(vtext_any g _ _ x.tx hxt _ (hv.ext (by exact Vc.xt)) (hcell_keep hvm (by exact Vc.xt) id)).mono ?_;rintro _ H3 ⟨rfl,hx3⟩;have hz3:=hx3.size;rw[hF])|((with_reducible apply mapNe);(focus((conv=>whnf))))|(refine(named_any x.a hxa _).mono ?_;rintro _ _ ⟨rfl,rfl⟩)|((with_reducible refine Vc.DrawH.held [0,1,2,3,4,5,7,8,9,6,10,11,12] [(6,[8])] mixed (by decide+kernel) ?_))|refine Vc.stp ?_)<;>(intros;(conv=>whnf)))))
   exact⟨by rw[if_neg (by rw[hn];decide),hF,if_pos hc];exact⟨rfl,by exact Vc.xt⟩⟩
  ·have hFt:F.take 65537=F:=List.take_of_length_le (by omega)
   cases vm with
   |none=>
    cases V with
    |some W=>exact hv.elim
    |none=>
     ((conv=>whnf);repeat(any_goals((first|(refine(vtext_any g _ _ x.tx hxt _ (hv.ext (by exact Vc.xt)) (hcell_keep hvm (by exact Vc.xt) id)).mono ?_;rintro _ H3 ⟨rfl,hx3⟩;have hz3:=hx3.size;rw[hF])|((with_reducible apply mapNe);(focus((conv=>whnf))))|(refine(named_any x.a hxa _).mono ?_;rintro _ _ ⟨rfl,rfl⟩)|((with_reducible refine Vc.DrawH.held [0,1,2,3,4,5,7,8,9,6,10,11,12] [(6,[8])] mixed (by decide+kernel) ?_))|refine Vc.stp ?_)<;>(intros;(conv=>whnf)))))
     exact⟨by rw[if_neg (by rw[hn];decide),hF,if_neg hc];exact⟨rfl,H3,by exact Vc.xt,trivial,Only.refl _ _⟩⟩
   |some b=>
    cases V with
    |none=>exact hv.elim
    |some W=>
     have hmo: ∀ {H':Heap},Ext H H'→MapO H' b (varV W):=fun k=>hv.ext k
     ((conv=>whnf);repeat(any_goals((first|(refine(vtext_any g _ _ x.tx hxt _ (hv.ext (by exact Vc.xt)) (hcell_keep hvm (by exact Vc.xt) id)).mono ?_;rintro _ H3 ⟨rfl,hx3⟩;have hz3:=hx3.size;rw[hF])|((with_reducible apply mapNe);(focus((conv=>whnf))))|(refine(named_any x.a hxa _).mono ?_;rintro _ _ ⟨rfl,rfl⟩)|(refine CondH.pos (show(some b).isSome=true from rfl) ?_)|((with_reducible apply DoH.mapPut);(focus((exact hmo (by exact Vc.xt))));(focus(rfl));(focus(rfl));(focus((intro H4 hz4 hm4 hb4;(conv=>whnf)))))|((with_reducible refine Vc.DrawH.held [0,1,2,3,4,5,7,8,9,6,10,11,12] [(6,[8])] mixed (by decide+kernel) ?_))|refine Vc.stp ?_)<;>(intros;(conv=>whnf)))))
     rw[hFt,var_put]at hm4
     have hvv:VarsO H4 (some b) ((some W).map fun V=>mput V x.a (fillF V x.tx)):=by
      show MapO H4 b (varV (mput W x.a (fillF W x.tx)))
      rw[show fillF W x.tx=F from hF];exact hm4
     exact⟨by rw[if_neg (by rw[hn];decide),hF,if_neg hc];exact⟨rfl,H3,by exact Vc.xt,hvv,hb4.mono fun y e=>by rw[e]⟩⟩
 ·have hn:isName x.a=false:=by unfold isName;rw[decide_eq_false_iff_not];exact fun h=>hb h.2
  ((conv=>whnf);repeat(any_goals((first|(refine(vtext_any g _ _ x.tx hxt _ (hv.ext (by exact Vc.xt)) (hcell_keep hvm (by exact Vc.xt) id)).mono ?_;rintro _ H3 ⟨rfl,hx3⟩;have hz3:=hx3.size;rw[hF])|((with_reducible apply mapNe);(focus((conv=>whnf))))|(refine(named_any x.a hxa _).mono ?_;rintro _ _ ⟨rfl,rfl⟩)|((with_reducible refine Vc.DrawH.held [0,1,2,3,4,5,7,8,9,6,10,11,12] [(6,[8])] mixed (by decide+kernel) ?_))|refine Vc.stp ?_)<;>(intros;(conv=>whnf)))))
  exact⟨by rw[if_pos hn];exact⟨rfl,by exact Vc.xt⟩⟩
theorem behind_any {m:MP} {s:St} {M:List Nat} {f:Nat} {H:Heap} (h:Mac H m s M f) {i o:Nat} {y:Ln} (hi:i<m.n) (hO:m.O[i]? =some o) (hy:m.L[o]? =some y):
  CallH Tryz.prog 116 [.pointer (some ⟨m.g,0,none⟩),.int .i64 i] H fun v H'=>v= .int .i64 (if y.k=9 then 1 else 0)∧H=H':=by
 have hb:=h.blk
 have ho:=(List.getElem?_eq_some_iff.1 hy).1
 have hol:o<m.n:=by rw[←h.len];exact ho
 refine Vc.CallH.body Tryz.func116 Tryz.call116 rfl (by decide+kernel) rfl ?_
 unfold macC at hb
 by_cases h9:y.k=9
 ·rw[if_pos h9]
  ((conv=>whnf);repeat(any_goals((first|(refine IdxA.at1 i rfl hi ?_)|((with_reducible apply SemH.load);(focus(rfl));(focus((exact Own.hcell h.oth (nat_get hO))));(focus((conv=>whnf))))|(refine IdxA.ln h.row h.len o y rfl hy ?_;intro _ _ hci;have hc0:=hci 0 _ rfl)|refine Vc.stp ?_)<;>(intros;(conv=>whnf)))))
  exact⟨rfl,rfl⟩
 ·rw[if_neg h9]
  ((conv=>whnf);repeat(any_goals((first|(refine IdxA.at1 i rfl hi ?_)|((with_reducible apply SemH.load);(focus(rfl));(focus((exact Own.hcell h.oth (nat_get hO))));(focus((conv=>whnf))))|(refine IdxA.ln h.row h.len o y rfl hy ?_;intro _ _ hci;have hc0:=hci 0 _ rfl)|refine Vc.stp ?_)<;>(intros;(conv=>whnf)))))
  exact⟨rfl,rfl⟩
end Go.Proofs.YtphkaogbcfdllaaGreatDoor
namespace Go.Proofs.YtphkaogbcfdllaaGreatDoor
open Go Go.Vc Go.Scr Go.Pth Go.Tre Go.Blk Go.Run
structure DoneM (H H':Heap) (m:MP) (s:St) (x:Ln) (f:Nat) (v:Value):Prop where
 out: ∃ (nx:Nat) (M':List Nat),v= .tuple #[.int .i64 nx,.int .i64 (stepP (kindsL m.L) x s).2]∧((stepP (kindsL m.L) x s).2=0→nx=(stepP (kindsL m.L) x s).1.at_)∧Mac H' m (stepP (kindsL m.L) x s).1 M' f∧Only (doM m) H H'
theorem ends_rep {K:List Nat} (hn:Nested K) {h:Nat} (hk:K[h]? =some 8):(endsF K h).1=none:=by
 cases hel:(endsF K h).1 with
 |none=>rfl
 |some x=>
  obtain⟨h9,hd⟩:=(ends_of hn hk (.inr rfl)).els x hel
  obtain⟨h',t,e,h7,_⟩:=else_head hn h9
  rw[hd_else h9]at hd
  unfold hdF at hd
  rw[e,List.map_cons,List.cons.injEq]at hd
  rw[show h'=h from hd.1,hk]at h7
  cases h7
theorem DoneM.did {H H1 H':Heap} {m:MP} {s:St} {M:List Nat} {f k:Nat} {x:Ln} {v v':Value} {r:Tr×Nat} (h:Mac H m s M f) (hk:(kindsL m.L)[s.at_]? =some k) (hne: ¬(k=7∨k=8)∧k≠9∧k≠10) (e:stepP (kindsL m.L) x s=doneF s r) (ho:Okay r.1) (k1:Ext H H1) (hd:Did no H1 H' m.b m.mb v r) (hv:v'= .tuple #[.int .i64 ((s.at_:Int)+1),.int .i64 r.2]):DoneM H H' m s x f v':=by
 obtain⟨h1,h2⟩:=h.did k1 hd ho (hd_other hk hne.1 hne.2.1 hne.2.2)
 exact⟨s.at_+1,M,by rw[e,hv];rfl,fun _=>by rw[e];rfl,by rw[e];exact h1,h2⟩
theorem DoneM.to {H H':Heap} {m:MP} {s s':St} {M':List Nat} {f nx:Nat} {x:Ln} {v:Value} {e:Nat} (es:stepP (kindsL m.L) x s=(s',e)) (hm:Mac H' m s' M' f) (hx:Only (doM m) H H') (hv:v= .tuple #[.int .i64 nx,.int .i64 e]) (hn:e=0→nx=s'.at_):DoneM H H' m s x f v:=
 ⟨nx,M',by rw[es];exact hv,fun h=>by rw[es]at h ⊢;exact hn h,by rw[es];exact hm,hx⟩
set_option maxHeartbeats 8000000 in
theorem do_any {m:MP} {s:St} {M:List Nat} {f:Nat} {H:Heap} (h:Mac H m s M f) (hn:Nested (kindsL m.L)) {x:Ln} (hx:m.L[s.at_]? =some x):
  CallH Tryz.prog 61 [.pointer (some ⟨m.g,0,none⟩),.int .i64 s.at_] H fun v H'=>DoneM H H' m s x f v:=by
 have hb:=h.blk
 unfold macC at hb
 have hxl:=(List.getElem?_eq_some_iff.1 hx).1
 rw[h.len]at hxl
 have hsm:=h.small
 have hgl:=hb.lt
 obtain⟨hla,hlb,hlt,hlx⟩:=h.lens x (List.mem_of_getElem? hx)
 have hset: ∀ (i c:Nat),c≤1000000→ ∀ d∈M.set i c,d≤1000000:=fun i c hc d hd=>by
  rcases List.mem_or_eq_of_mem_set hd with hd|rfl
  ·exact h.bnd d hd
  ·exact hc
 have hla:x.a.length≤1000000000:=by omega
 have hlb:x.b.length≤1000000000:=by omega
 have hlt:x.tx.length≤1000000000:=by omega
 have hk:=kinds_get hx
 have ht:=fun H' (k:Ext H H') (w:Bs) (hw:w.length≤1000000000)=>vtext_any m.g m.vm s.V w hw H' (h.vars.ext k) (hcell_keep h.vm4 k id)
 obtain⟨W,hW⟩: ∃ W,varsF s.V=W:=⟨_,rfl⟩
 rw[hW]at ht
 obtain⟨FA,hFA⟩: ∃ F,fillF W x.a=F:=⟨_,rfl⟩
 obtain⟨FB,hFB⟩: ∃ F,fillF W x.b=F:=⟨_,rfl⟩
 obtain⟨FT,hFT⟩: ∃ F,fillF W x.tx=F:=⟨_,rfl⟩
 have hFS:(mkS (FT.take 65537)).size=min 65537 FT.length:=by show(FT.take 65537).length=_;exact List.length_take
 have hFw:(mkS (FT.take 65537)).size≤10000000000:=by rw[hFS];omega
 obtain⟨k,hxk⟩: ∃ k,x.k=k:=⟨_,rfl⟩
 rw[hxk]at hk
 by_cases h0:k=0
 ·refine Vc.CallH.body Tryz.func61 Tryz.call61 rfl (by decide+kernel) rfl ?_
  ((conv=>whnf);repeat(any_goals((first|(refine IdxA.ln h.row h.len s.at_ x rfl hx ?_;intro _ _ hci)|((with_reducible apply SemH.load_ln);(focus((exact hci)));(focus((exact Ext.refl _)));(focus((conv=>whnf))))|(refine(ht _ (by exact Vc.xt) x.a hla).mono ?_;rintro _ H2 ⟨rfl,hx2⟩;have hz2:=hx2.size;rw[hFA])|(refine(ht _ (by exact Vc.xt) x.b hlb).mono ?_;rintro _ H3 ⟨rfl,hx3⟩;have hz3:=hx3.size;rw[hFB])|(refine(copy_any (h.tree.ext (by exact Vc.xt)) h.okay _ _).mono ?_;rintro _ H5 hd;obtain rfl:=hd.code;rw[two_cut]at hd ⊢)|((with_reducible refine Vc.DrawH.held [0,1,2,3,4,5,6,7,8,9,10] [(8,[3])] mixed (by decide+kernel) ?_))|((with_reducible refine Vc.DrawH.held [0,1,2,3,4,5,6,7,8,9,10] [(8,[3])] mixed (by decide+kernel) ?_))|((with_reducible refine Vc.DrawH.held [0,1,2,3,4,5,6,7,8,9,10,11] [(8,[3]),(9,[3])] mixed (by decide+kernel) ?_))|((with_reducible refine Vc.DrawH.held [0,1,2,3,4,5,6,7,8,9,10,11] [(8,[3]),(9,[3])] mixed (by decide+kernel) ?_))|((with_reducible refine Vc.DrawH.held [0,1,2,3,4,6,7,5,8] [(5,[7])] mixed (by decide+kernel) ?_))|((with_reducible refine Vc.DrawH.held [0,1,2,3,4,5,6,7,8,9,10,11,12,13] [(10,[4,7])] mixed (by decide+kernel) ?_))|refine Vc.stp ?_)<;>(intros;(conv=>whnf)))))
  exact DoneM.did h hk (by omega) (by unfold stepP;rw[if_pos (by omega:x.k=0),hW,hFA,hFB]) (Okay.twoF h.okay _ _ _) (show Ext H _ by exact Vc.xt) hd rfl
 by_cases h1:k=1
 ·refine Vc.CallH.body Tryz.func61 Tryz.call61 rfl (by decide+kernel) rfl ?_
  ((conv=>whnf);repeat(any_goals((first|(refine IdxA.ln h.row h.len s.at_ x rfl hx ?_;intro _ _ hci)|((with_reducible apply SemH.load_ln);(focus((exact hci)));(focus((exact Ext.refl _)));(focus((conv=>whnf))))|(refine(ht _ (by exact Vc.xt) x.a hla).mono ?_;rintro _ H2 ⟨rfl,hx2⟩;have hz2:=hx2.size;rw[hFA])|(refine(ht _ (by exact Vc.xt) x.tx hlt).mono ?_;rintro _ H3 ⟨rfl,hx3⟩;have hz3:=hx3.size;rw[hFT])|((with_reducible apply SemH.of_string);(focus(rfl));(focus(rfl));(focus(rfl));(focus((rw[hFS];unfold maxLen;omega)));(focus((intro c4 H4 ho4 hx4;have hz4:=hx4.size;replace ho4:Own H4 H3.size 5 1 (some ⟨H3.size,0,none⟩) (mkS (FT.take 65537)).size c4 (strV (FT.take 65537)):=ho4;(conv=>whnf)))))|(refine(write_any (h.tree.ext (by exact Vc.xt)) h.okay _ _ _ _ _ ho4.row rfl hFw).mono ?_;rintro _ H5 hd;obtain rfl:=hd.code;rw[write_cut]at hd ⊢)|((with_reducible refine Vc.DrawH.held [0,1,2,3,4,5,6,7,8,9,10] [(8,[3])] mixed (by decide+kernel) ?_))|((with_reducible refine Vc.DrawH.held [0,1,2,3,4,5,6,7,8,9,10] [(8,[3])] mixed (by decide+kernel) ?_))|((with_reducible refine Vc.DrawH.held [0,1,2,3,4,5,6,7,8,9,10,11] [(8,[3]),(9,[3])] mixed (by decide+kernel) ?_))|((with_reducible refine Vc.DrawH.held [0,1,2,3,4,5,6,7,8,9,10,11] [(8,[3]),(9,[3])] mixed (by decide+kernel) ?_))|((with_reducible refine Vc.DrawH.held [0,1,2,3,4,6,7,5,8] [(5,[7])] mixed (by decide+kernel) ?_))|((with_reducible refine Vc.DrawH.held [0,1,2,3,4,5,6,7,8,9,10,11,12,13] [(10,[4,7])] mixed (by decide+kernel) ?_))|refine Vc.stp ?_)<;>(intros;(conv=>whnf)))))
  exact DoneM.did h hk (by omega) (by unfold stepP;rw[if_neg (by omega: ¬x.k=0),if_pos (by omega:x.k=1),hW,hFA,hFT]) (Okay.writeF h.okay _ _) (show Ext H _ by exact Vc.xt) hd rfl
 by_cases h2:k=2
 ·refine Vc.CallH.body Tryz.func61 Tryz.call61 rfl (by decide+kernel) rfl ?_
  ((conv=>whnf);repeat(any_goals((first|(refine IdxA.ln h.row h.len s.at_ x rfl hx ?_;intro _ _ hci)|((with_reducible apply SemH.load_ln);(focus((exact hci)));(focus((exact Ext.refl _)));(focus((conv=>whnf))))|(refine(ht _ (by exact Vc.xt) x.a hla).mono ?_;rintro _ H2 ⟨rfl,hx2⟩;have hz2:=hx2.size;rw[hFA])|(refine(ht _ (by exact Vc.xt) x.tx hlt).mono ?_;rintro _ H3 ⟨rfl,hx3⟩;have hz3:=hx3.size;rw[hFT])|((with_reducible apply SemH.of_string);(focus(rfl));(focus(rfl));(focus(rfl));(focus((rw[hFS];unfold maxLen;omega)));(focus((intro c4 H4 ho4 hx4;have hz4:=hx4.size;replace ho4:Own H4 H3.size 5 1 (some ⟨H3.size,0,none⟩) (mkS (FT.take 65537)).size c4 (strV (FT.take 65537)):=ho4;(conv=>whnf)))))|(refine(append_any (h.tree.ext (by exact Vc.xt)) h.okay _ _ _ _ _ ho4.row rfl ho4.cap_le hFw).mono ?_;rintro _ H5 hd;obtain rfl:=hd.code;rw[Go.Run.append_cut]at hd ⊢)|((with_reducible refine Vc.DrawH.held [0,1,2,3,4,5,6,7,8,9,10] [(8,[3])] mixed (by decide+kernel) ?_))|((with_reducible refine Vc.DrawH.held [0,1,2,3,4,5,6,7,8,9,10] [(8,[3])] mixed (by decide+kernel) ?_))|((with_reducible refine Vc.DrawH.held [0,1,2,3,4,5,6,7,8,9,10,11] [(8,[3]),(9,[3])] mixed (by decide+kernel) ?_))|((with_reducible refine Vc.DrawH.held [0,1,2,3,4,5,6,7,8,9,10,11] [(8,[3]),(9,[3])] mixed (by decide+kernel) ?_))|((with_reducible refine Vc.DrawH.held [0,1,2,3,4,6,7,5,8] [(5,[7])] mixed (by decide+kernel) ?_))|((with_reducible refine Vc.DrawH.held [0,1,2,3,4,5,6,7,8,9,10,11,12,13] [(10,[4,7])] mixed (by decide+kernel) ?_))|refine Vc.stp ?_)<;>(intros;(conv=>whnf)))))
  exact DoneM.did h hk (by omega) (by unfold stepP;rw[if_neg (by omega: ¬x.k=0),if_neg (by omega: ¬x.k=1),if_pos (by omega:x.k=2),hW,hFA,hFT]) (Okay.appendF h.okay _ _) (show Ext H _ by exact Vc.xt) hd rfl
 by_cases h3:k=3
 ·refine Vc.CallH.body Tryz.func61 Tryz.call61 rfl (by decide+kernel) rfl ?_
  ((conv=>whnf);repeat(any_goals((first|(refine IdxA.ln h.row h.len s.at_ x rfl hx ?_;intro _ _ hci)|((with_reducible apply SemH.load_ln);(focus((exact hci)));(focus((exact Ext.refl _)));(focus((conv=>whnf))))|(refine(ht _ (by exact Vc.xt) x.a hla).mono ?_;rintro _ H2 ⟨rfl,hx2⟩;have hz2:=hx2.size;rw[hFA])|(refine(mkdir_any (h.tree.ext (by exact Vc.xt)) h.okay _).mono ?_;rintro _ H5 hd;obtain rfl:=hd.code;rw[mkdir_cut]at hd ⊢)|((with_reducible refine Vc.DrawH.held [0,1,2,3,4,5,6,7,8,9,10] [(8,[3])] mixed (by decide+kernel) ?_))|((with_reducible refine Vc.DrawH.held [0,1,2,3,4,5,6,7,8,9,10] [(8,[3])] mixed (by decide+kernel) ?_))|((with_reducible refine Vc.DrawH.held [0,1,2,3,4,5,6,7,8,9,10,11] [(8,[3]),(9,[3])] mixed (by decide+kernel) ?_))|((with_reducible refine Vc.DrawH.held [0,1,2,3,4,5,6,7,8,9,10,11] [(8,[3]),(9,[3])] mixed (by decide+kernel) ?_))|((with_reducible refine Vc.DrawH.held [0,1,2,3,4,6,7,5,8] [(5,[7])] mixed (by decide+kernel) ?_))|((with_reducible refine Vc.DrawH.held [0,1,2,3,4,5,6,7,8,9,10,11,12,13] [(10,[4,7])] mixed (by decide+kernel) ?_))|refine Vc.stp ?_)<;>(intros;(conv=>whnf)))))
  exact DoneM.did h hk (by omega) (by unfold stepP;rw[if_neg (by omega: ¬x.k=0),if_neg (by omega: ¬x.k=1),if_neg (by omega: ¬x.k=2),if_pos (by omega:x.k=3),hW,hFA]) (Okay.mkdirF h.okay _) (show Ext H _ by exact Vc.xt) hd rfl
 by_cases h4:k=4
 ·refine Vc.CallH.body Tryz.func61 Tryz.call61 rfl (by decide+kernel) rfl ?_
  ((conv=>whnf);repeat(any_goals((first|(refine IdxA.ln h.row h.len s.at_ x rfl hx ?_;intro _ _ hci)|((with_reducible apply SemH.load_ln);(focus((exact hci)));(focus((exact Ext.refl _)));(focus((conv=>whnf))))|(refine(ht _ (by exact Vc.xt) x.a hla).mono ?_;rintro _ H2 ⟨rfl,hx2⟩;have hz2:=hx2.size;rw[hFA])|(refine(remove_any (h.tree.ext (by exact Vc.xt)) h.okay _).mono ?_;rintro _ H5 hd;obtain rfl:=hd.code;rw[remove_cut]at hd ⊢)|((with_reducible refine Vc.DrawH.held [0,1,2,3,4,5,6,7,8,9,10] [(8,[3])] mixed (by decide+kernel) ?_))|((with_reducible refine Vc.DrawH.held [0,1,2,3,4,5,6,7,8,9,10] [(8,[3])] mixed (by decide+kernel) ?_))|((with_reducible refine Vc.DrawH.held [0,1,2,3,4,5,6,7,8,9,10,11] [(8,[3]),(9,[3])] mixed (by decide+kernel) ?_))|((with_reducible refine Vc.DrawH.held [0,1,2,3,4,5,6,7,8,9,10,11] [(8,[3]),(9,[3])] mixed (by decide+kernel) ?_))|((with_reducible refine Vc.DrawH.held [0,1,2,3,4,6,7,5,8] [(5,[7])] mixed (by decide+kernel) ?_))|((with_reducible refine Vc.DrawH.held [0,1,2,3,4,5,6,7,8,9,10,11,12,13] [(10,[4,7])] mixed (by decide+kernel) ?_))|refine Vc.stp ?_)<;>(intros;(conv=>whnf)))))
  exact DoneM.did h hk (by omega) (by unfold stepP;rw[if_neg (by omega: ¬x.k=0),if_neg (by omega: ¬x.k=1),if_neg (by omega: ¬x.k=2),if_neg (by omega: ¬x.k=3),if_pos (by omega:x.k=4),hW,hFA]) (Okay.removeF h.okay _) (show Ext H _ by exact Vc.xt) hd rfl
 by_cases h5:k=5
 ·refine Vc.CallH.body Tryz.func61 Tryz.call61 rfl (by decide+kernel) rfl ?_
  ((conv=>whnf);repeat(any_goals((first|(refine IdxA.ln h.row h.len s.at_ x rfl hx ?_;intro _ _ hci)|((with_reducible apply SemH.load_ln);(focus((exact hci)));(focus((exact Ext.refl _)));(focus((conv=>whnf))))|(refine(ht _ (by exact Vc.xt) x.a hla).mono ?_;rintro _ H2 ⟨rfl,hx2⟩;have hz2:=hx2.size;rw[hFA])|(refine(ht _ (by exact Vc.xt) x.b hlb).mono ?_;rintro _ H3 ⟨rfl,hx3⟩;have hz3:=hx3.size;rw[hFB])|(refine(rename_any (h.tree.ext (by exact Vc.xt)) h.okay _ _).mono ?_;rintro _ H5 hd;obtain rfl:=hd.code;rw[two_cut]at hd ⊢)|((with_reducible refine Vc.DrawH.held [0,1,2,3,4,5,6,7,8,9,10] [(8,[3])] mixed (by decide+kernel) ?_))|((with_reducible refine Vc.DrawH.held [0,1,2,3,4,5,6,7,8,9,10] [(8,[3])] mixed (by decide+kernel) ?_))|((with_reducible refine Vc.DrawH.held [0,1,2,3,4,5,6,7,8,9,10,11] [(8,[3]),(9,[3])] mixed (by decide+kernel) ?_))|((with_reducible refine Vc.DrawH.held [0,1,2,3,4,5,6,7,8,9,10,11] [(8,[3]),(9,[3])] mixed (by decide+kernel) ?_))|((with_reducible refine Vc.DrawH.held [0,1,2,3,4,6,7,5,8] [(5,[7])] mixed (by decide+kernel) ?_))|((with_reducible refine Vc.DrawH.held [0,1,2,3,4,5,6,7,8,9,10,11,12,13] [(10,[4,7])] mixed (by decide+kernel) ?_))|refine Vc.stp ?_)<;>(intros;(conv=>whnf)))))
  exact DoneM.did h hk (by omega) (by unfold stepP;rw[if_neg (by omega: ¬x.k=0),if_neg (by omega: ¬x.k=1),if_neg (by omega: ¬x.k=2),if_neg (by omega: ¬x.k=3),if_neg (by omega: ¬x.k=4),if_pos (by omega:x.k=5),hW,hFA,hFB]) (Okay.twoF h.okay _ _ _) (show Ext H _ by exact Vc.xt) hd rfl
 have hgml:=(h.mor.blk (by rw[h.rel.len,h.klen])).lt
 have hggm:m.g≠m.gm:=fun e=>by
  have h1:=h.blk
  rw[e]at h1
  exact absurd (blk_one h1 (h.mor.blk (by rw[h.rel.len,h.klen]))).1 (by decide)
 by_cases h6:k=6
 ·have hsetv:=fun H' (k:Ext H H')=>vset_any m.g m.vm s.V x hla hlt H' (h.vars.ext k) (hcell_keep h.vm4 k id)
  refine Vc.CallH.body Tryz.func61 Tryz.call61 rfl (by decide+kernel) rfl ?_
  ((conv=>whnf);repeat(any_goals((first|(refine IdxA.ln h.row h.len s.at_ x rfl hx ?_;intro _ _ hci)|((with_reducible apply SemH.load_ln);(focus((exact hci)));(focus((exact Ext.refl _)));(focus((conv=>whnf))))|(refine(ht _ (by exact Vc.xt) x.a hla).mono ?_;rintro _ H2 ⟨rfl,hx2⟩;have hz2:=hx2.size;rw[hFA])|(refine(hsetv _ (by exact Vc.xt)).mono ?_;rintro v4 H4 hs4;have hx02:=(show Ext H H2 by exact Vc.xt))|((with_reducible refine Vc.DrawH.held [0,1,2,3,4,5,6,7,8,9,10] [(8,[3])] mixed (by decide+kernel) ?_))|((with_reducible refine Vc.DrawH.held [0,1,2,3,4,5,6,7,8,9,10] [(8,[3])] mixed (by decide+kernel) ?_))|((with_reducible refine Vc.DrawH.held [0,1,2,3,4,5,6,7,8,9,10,11] [(8,[3]),(9,[3])] mixed (by decide+kernel) ?_))|((with_reducible refine Vc.DrawH.held [0,1,2,3,4,5,6,7,8,9,10,11] [(8,[3]),(9,[3])] mixed (by decide+kernel) ?_))|((with_reducible refine Vc.DrawH.held [0,1,2,3,4,6,7,5,8] [(5,[7])] mixed (by decide+kernel) ?_))|((with_reducible refine Vc.DrawH.held [0,1,2,3,4,5,6,7,8,9,10,11,12,13] [(10,[4,7])] mixed (by decide+kernel) ?_))|refine Vc.stp ?_)<;>(intros;(conv=>whnf)))))
  have hst:=hs4.out
  by_cases hnm:isName x.a=false
  ·rw[if_pos hnm]at hst
   obtain⟨rfl,hx4⟩:=hst
   obtain⟨h1,h2⟩:=h.to (s':=s) (hx02.trans hx4) rfl rfl h.rel
   exact DoneM.to (nx:=s.at_+1) (e:=72) (by unfold stepP;rw[if_neg (by omega: ¬x.k=0),if_neg (by omega: ¬x.k=1),if_neg (by omega: ¬x.k=2),if_neg (by omega: ¬x.k=3),if_neg (by omega: ¬x.k=4),if_neg (by omega: ¬x.k=5),if_pos (by omega:x.k=6),if_pos hnm]) h1 h2 rfl (fun e=>by cases e)
  rw[if_neg hnm]at hst
  by_cases hbg:65536<(fillF (varsF s.V) x.tx).length
  ·rw[if_pos hbg]at hst
   obtain⟨rfl,hx4⟩:=hst
   obtain⟨h1,h2⟩:=h.to (s':=s) (hx02.trans hx4) rfl rfl h.rel
   exact DoneM.to (nx:=s.at_+1) (e:=55) (by unfold stepP;rw[if_neg (by omega: ¬x.k=0),if_neg (by omega: ¬x.k=1),if_neg (by omega: ¬x.k=2),if_neg (by omega: ¬x.k=3),if_neg (by omega: ¬x.k=4),if_neg (by omega: ¬x.k=5),if_pos (by omega:x.k=6),if_neg hnm,if_pos hbg]) h1 h2 rfl (fun e=>by cases e)
  ·rw[if_neg hbg]at hst
   obtain⟨rfl,H5,hx5,hv5,hb5⟩:=hst
   obtain⟨h1,h2⟩:=h.set (s':={nextF s with V:=s.V.map fun V=>mput V x.a (fillF V x.tx)}) (hx02.trans hx5) rfl hv5 hb5 (h.rel.same (hd_other hk (by omega) (by omega) (by omega)))
   exact DoneM.to (nx:=s.at_+1) (e:=0) (by unfold stepP;rw[if_neg (by omega: ¬x.k=0),if_neg (by omega: ¬x.k=1),if_neg (by omega: ¬x.k=2),if_neg (by omega: ¬x.k=3),if_neg (by omega: ¬x.k=4),if_neg (by omega: ¬x.k=5),if_pos (by omega:x.k=6),if_neg hnm,if_neg hbg]) h1 h2 rfl (fun _=>rfl)
 by_cases h7:k=7
 ·subst h7
  have he:=ends_of hn hk (.inl rfl)
  have hO:=h.tabs.opn s.at_ 7 hk (.inl rfl)
  by_cases hex:existsF s.A FA=x.nt
  ·have hq:(existsF s.A FA==x.nt)=true:=by rw[hex];exact beq_self_eq_true _
   cases hel:(endsF (kindsL m.L) s.at_).1 with
   |some e=>
    rw[hel]at hO
    replace hO:m.O[s.at_]? =some e:=hO
    obtain⟨hk9,hd9⟩:=he.els e hel
    obtain⟨y,hy⟩: ∃ y,m.L[e]? =some y:=⟨_,List.getElem?_eq_getElem (by have:=(List.getElem?_eq_some_iff.1 hk9).1;rw[kinds_len]at this;exact this)⟩
    have hy9:y.k=9:=by have:=kinds_get hy;rw[hk9]at this;exact(Option.some.inj this).symm
    have hcO:=Own.hcell h.oth (nat_get hO)
    have hen:=(List.getElem?_eq_some_iff.1 hy).1
    rw[h.len]at hen
    have hbh:=fun H' (k:Ext H H')=>behind_any (h.ext k) hxl hO hy
    rw[if_pos hy9]at hbh
    refine Vc.CallH.body Tryz.func61 Tryz.call61 rfl (by decide+kernel) rfl ?_
    ((conv=>whnf);repeat(any_goals((first|(refine IdxA.ln h.row h.len s.at_ x rfl hx ?_;intro _ _ hci)|((with_reducible apply SemH.load_ln);(focus((exact hci)));(focus((exact Ext.refl _)));(focus((conv=>whnf))))|(refine(ht _ (by exact Vc.xt) x.a hla).mono ?_;rintro _ H2 ⟨rfl,hx2⟩;have hz2:=hx2.size;rw[hFA])|(refine IdxA.at1 s.at_ rfl hxl ?_)|(refine(exists_any (h.tree.ext (by exact Vc.xt)) _).mono ?_;rintro _ H3 ⟨rfl,hx3⟩;have hz3:=hx3.size;rw[exists_cut])|(refine(hbh _ (by exact Vc.xt)).mono ?_;rintro _ _ ⟨rfl,rfl⟩)|((with_reducible refine Vc.DrawH.held [0,1,2,3,4,5,6,7,8,9,10] [(8,[3])] mixed (by decide+kernel) ?_))|((with_reducible refine Vc.DrawH.held [0,1,2,3,4,5,6,7,8,9,10] [(8,[3])] mixed (by decide+kernel) ?_))|((with_reducible refine Vc.DrawH.held [0,1,2,3,4,5,6,7,8,9,10,11] [(8,[3]),(9,[3])] mixed (by decide+kernel) ?_))|((with_reducible refine Vc.DrawH.held [0,1,2,3,4,5,6,7,8,9,10,11] [(8,[3]),(9,[3])] mixed (by decide+kernel) ?_))|((with_reducible refine Vc.DrawH.held [0,1,2,3,4,6,7,5,8] [(5,[7])] mixed (by decide+kernel) ?_))|((with_reducible refine Vc.DrawH.held [0,1,2,3,4,5,6,7,8,9,10,11,12,13] [(10,[4,7])] mixed (by decide+kernel) ?_))|refine Vc.stp ?_)<;>(intros;(conv=>whnf)))))
    obtain⟨h1,h2⟩:=h.to (s':={s with at_:=e+1}) (show Ext H H3 by exact Vc.xt) rfl rfl (h.rel.into hd9 hk)
    exact DoneM.to (nx:=e+1) (e:=0) (by unfold stepP;rw[if_neg (by omega: ¬x.k=0),if_neg (by omega: ¬x.k=1),if_neg (by omega: ¬x.k=2),if_neg (by omega: ¬x.k=3),if_neg (by omega: ¬x.k=4),if_neg (by omega: ¬x.k=5),if_neg (by omega: ¬x.k=6),if_pos (by omega:x.k=7),hW,hFA,if_pos hex];rw[hel]) h1 h2 rfl (fun _=>rfl)
   |none=>
    rw[hel]at hO
    replace hO:m.O[s.at_]? =some (endsF (kindsL m.L) s.at_).2:=hO
    obtain⟨y,hy⟩: ∃ y,m.L[(endsF (kindsL m.L) s.at_).2]? =some y:=⟨_,List.getElem?_eq_getElem (by have:=he.lt;rw[kinds_len]at this;exact this)⟩
    have hy9:y.k≠9:=by have:=kinds_get hy;rw[he.kind]at this;have:=(Option.some.inj this).symm;omega
    have hcO:=Own.hcell h.oth (nat_get hO)
    have hen:=(List.getElem?_eq_some_iff.1 hy).1
    rw[h.len]at hen
    have hbh:=fun H' (k:Ext H H')=>behind_any (h.ext k) hxl hO hy
    rw[if_neg hy9]at hbh
    refine Vc.CallH.body Tryz.func61 Tryz.call61 rfl (by decide+kernel) rfl ?_
    ((conv=>whnf);repeat(any_goals((first|(refine IdxA.ln h.row h.len s.at_ x rfl hx ?_;intro _ _ hci)|((with_reducible apply SemH.load_ln);(focus((exact hci)));(focus((exact Ext.refl _)));(focus((conv=>whnf))))|(refine(ht _ (by exact Vc.xt) x.a hla).mono ?_;rintro _ H2 ⟨rfl,hx2⟩;have hz2:=hx2.size;rw[hFA])|(refine IdxA.at1 s.at_ rfl hxl ?_)|(refine(exists_any (h.tree.ext (by exact Vc.xt)) _).mono ?_;rintro _ H3 ⟨rfl,hx3⟩;have hz3:=hx3.size;rw[exists_cut])|(refine(hbh _ (by exact Vc.xt)).mono ?_;rintro _ _ ⟨rfl,rfl⟩)|((with_reducible refine Vc.DrawH.held [0,1,2,3,4,5,6,7,8,9,10] [(8,[3])] mixed (by decide+kernel) ?_))|((with_reducible refine Vc.DrawH.held [0,1,2,3,4,5,6,7,8,9,10] [(8,[3])] mixed (by decide+kernel) ?_))|((with_reducible refine Vc.DrawH.held [0,1,2,3,4,5,6,7,8,9,10,11] [(8,[3]),(9,[3])] mixed (by decide+kernel) ?_))|((with_reducible refine Vc.DrawH.held [0,1,2,3,4,5,6,7,8,9,10,11] [(8,[3]),(9,[3])] mixed (by decide+kernel) ?_))|((with_reducible refine Vc.DrawH.held [0,1,2,3,4,6,7,5,8] [(5,[7])] mixed (by decide+kernel) ?_))|((with_reducible refine Vc.DrawH.held [0,1,2,3,4,5,6,7,8,9,10,11,12,13] [(10,[4,7])] mixed (by decide+kernel) ?_))|refine Vc.stp ?_)<;>(intros;(conv=>whnf)))))
    obtain⟨h1,h2⟩:=h.to (s':={s with at_:=(endsF (kindsL m.L) s.at_).2}) (show Ext H H3 by exact Vc.xt) rfl rfl (h.rel.into he.hd hk)
    exact DoneM.to (nx:=(endsF (kindsL m.L) s.at_).2) (e:=0) (by unfold stepP;rw[if_neg (by omega: ¬x.k=0),if_neg (by omega: ¬x.k=1),if_neg (by omega: ¬x.k=2),if_neg (by omega: ¬x.k=3),if_neg (by omega: ¬x.k=4),if_neg (by omega: ¬x.k=5),if_neg (by omega: ¬x.k=6),if_pos (by omega:x.k=7),hW,hFA,if_pos hex];rw[hel]) h1 h2 (by simp only[Int.add_zero];rfl) (fun _=>rfl)
  ·have hq:(existsF s.A FA==x.nt)=false:=by simpa using hex
   refine Vc.CallH.body Tryz.func61 Tryz.call61 rfl (by decide+kernel) rfl ?_
   ((conv=>whnf);repeat(any_goals((first|(refine IdxA.ln h.row h.len s.at_ x rfl hx ?_;intro _ _ hci)|((with_reducible apply SemH.load_ln);(focus((exact hci)));(focus((exact Ext.refl _)));(focus((conv=>whnf))))|(refine(ht _ (by exact Vc.xt) x.a hla).mono ?_;rintro _ H2 ⟨rfl,hx2⟩;have hz2:=hx2.size;rw[hFA])|(refine(exists_any (h.tree.ext (by exact Vc.xt)) _).mono ?_;rintro _ H3 ⟨rfl,hx3⟩;have hz3:=hx3.size;rw[exists_cut])|((with_reducible refine Vc.DrawH.held [0,1,2,3,4,5,6,7,8,9,10] [(8,[3])] mixed (by decide+kernel) ?_))|((with_reducible refine Vc.DrawH.held [0,1,2,3,4,5,6,7,8,9,10] [(8,[3])] mixed (by decide+kernel) ?_))|((with_reducible refine Vc.DrawH.held [0,1,2,3,4,5,6,7,8,9,10,11] [(8,[3]),(9,[3])] mixed (by decide+kernel) ?_))|((with_reducible refine Vc.DrawH.held [0,1,2,3,4,5,6,7,8,9,10,11] [(8,[3]),(9,[3])] mixed (by decide+kernel) ?_))|((with_reducible refine Vc.DrawH.held [0,1,2,3,4,6,7,5,8] [(5,[7])] mixed (by decide+kernel) ?_))|((with_reducible refine Vc.DrawH.held [0,1,2,3,4,5,6,7,8,9,10,11,12,13] [(10,[4,7])] mixed (by decide+kernel) ?_))|refine Vc.stp ?_)<;>(intros;(conv=>whnf)))))
   obtain⟨h1,h2⟩:=h.to (s':=nextF s) (show Ext H H3 by exact Vc.xt) rfl rfl (h.rel.into (hd_open hk (.inl rfl)) hk)
   exact DoneM.to (nx:=s.at_+1) (e:=0) (by unfold stepP;rw[if_neg (by omega: ¬x.k=0),if_neg (by omega: ¬x.k=1),if_neg (by omega: ¬x.k=2),if_neg (by omega: ¬x.k=3),if_neg (by omega: ¬x.k=4),if_neg (by omega: ¬x.k=5),if_neg (by omega: ¬x.k=6),if_pos (by omega:x.k=7),hW,hFA,if_neg hex]) h1 h2 rfl (fun _=>rfl)
 by_cases h8:k=8
 ·subst h8
  have he:=ends_of hn hk (.inr rfl)
  have hO:=h.tabs.opn s.at_ 8 hk (.inr rfl)
  rw[ends_rep hn hk]at hO
  replace hO:m.O[s.at_]? =some (endsF (kindsL m.L) s.at_).2:=hO
  have hML:M.length=m.n:=by rw[h.rel.len,h.klen]
  have hen:=he.lt
  rw[h.klen]at hen
  have hcO:=Own.hcell h.oth (nat_get hO)
  by_cases hx0:x.n=0
  ·refine Vc.CallH.body Tryz.func61 Tryz.call61 rfl (by decide+kernel) rfl ?_
   ((conv=>whnf);repeat(any_goals((first|(refine IdxA.ln h.row h.len s.at_ x rfl hx ?_;intro _ _ hci)|((with_reducible apply SemH.load_ln);(focus((exact hci)));(focus((exact Ext.refl _)));(focus((conv=>whnf))))|(refine(ht _ (by exact Vc.xt) x.a hla).mono ?_;rintro _ H2 ⟨rfl,hx2⟩;have hz2:=hx2.size;rw[hFA])|(refine IdxA.at1 s.at_ rfl hxl ?_)|((with_reducible apply DoH.store_own);(focus((exact h.mor.ext (show Ext H _ by exact Vc.xt))));(focus(rfl));(focus(rfl));(focus(rfl));(focus(omega));(focus((intro H4 hz4 hm4 hb4;have hx04:=And.intro trivial (show Ext H H2 by exact Vc.xt);(conv=>whnf)))))|((with_reducible apply SemH.load);(focus(rfl));(focus((exact hcell_keep (hcell_keep (Own.hcell h.oth (nat_get hO)) hx04.2 id) hb4 h.d1)));(focus((conv=>whnf))))|((with_reducible refine Vc.DrawH.held [0,1,2,3,4,5,6,7,8,9,10] [(8,[3])] mixed (by decide+kernel) ?_))|((with_reducible refine Vc.DrawH.held [0,1,2,3,4,5,6,7,8,9,10] [(8,[3])] mixed (by decide+kernel) ?_))|((with_reducible refine Vc.DrawH.held [0,1,2,3,4,5,6,7,8,9,10,11] [(8,[3]),(9,[3])] mixed (by decide+kernel) ?_))|((with_reducible refine Vc.DrawH.held [0,1,2,3,4,5,6,7,8,9,10,11] [(8,[3]),(9,[3])] mixed (by decide+kernel) ?_))|((with_reducible refine Vc.DrawH.held [0,1,2,3,4,6,7,5,8] [(5,[7])] mixed (by decide+kernel) ?_))|((with_reducible refine Vc.DrawH.held [0,1,2,3,4,5,6,7,8,9,10,11,12,13] [(10,[4,7])] mixed (by decide+kernel) ?_))|refine Vc.stp ?_)<;>(intros;(conv=>whnf)))))
   rw[Nat.zero_add,nat_set]at hm4
   obtain⟨h1,h2⟩:=h.more (s':={s with at_:=(endsF (kindsL m.L) s.at_).2+1}) hx04.2 hm4 hb4 rfl rfl ((h.rel.set hn (by rw[h.klen];omega) x.n).same he.behind) (hset _ _ hlx)
   exact DoneM.to (nx:=(endsF (kindsL m.L) s.at_).2+1) (e:=0) (by unfold stepP;rw[if_neg (by omega: ¬x.k=0),if_neg (by omega: ¬x.k=1),if_neg (by omega: ¬x.k=2),if_neg (by omega: ¬x.k=3),if_neg (by omega: ¬x.k=4),if_neg (by omega: ¬x.k=5),if_neg (by omega: ¬x.k=6),if_neg (by omega: ¬x.k=7),if_pos (by omega:x.k=8),if_pos hx0]) h1 h2 rfl (fun _=>rfl)
  ·refine Vc.CallH.body Tryz.func61 Tryz.call61 rfl (by decide+kernel) rfl ?_
   ((conv=>whnf);repeat(any_goals((first|(refine IdxA.ln h.row h.len s.at_ x rfl hx ?_;intro _ _ hci)|((with_reducible apply SemH.load_ln);(focus((exact hci)));(focus((exact Ext.refl _)));(focus((conv=>whnf))))|(refine(ht _ (by exact Vc.xt) x.a hla).mono ?_;rintro _ H2 ⟨rfl,hx2⟩;have hz2:=hx2.size;rw[hFA])|(refine IdxA.at1 s.at_ rfl hxl ?_)|((with_reducible apply DoH.store_own);(focus((exact h.mor.ext (show Ext H _ by exact Vc.xt))));(focus(rfl));(focus(rfl));(focus(rfl));(focus(omega));(focus((intro H4 hz4 hm4 hb4;have hx04:=And.intro trivial (show Ext H H2 by exact Vc.xt);(conv=>whnf)))))|((with_reducible refine Vc.DrawH.held [0,1,2,3,4,5,6,7,8,9,10] [(8,[3])] mixed (by decide+kernel) ?_))|((with_reducible refine Vc.DrawH.held [0,1,2,3,4,5,6,7,8,9,10] [(8,[3])] mixed (by decide+kernel) ?_))|((with_reducible refine Vc.DrawH.held [0,1,2,3,4,5,6,7,8,9,10,11] [(8,[3]),(9,[3])] mixed (by decide+kernel) ?_))|((with_reducible refine Vc.DrawH.held [0,1,2,3,4,5,6,7,8,9,10,11] [(8,[3]),(9,[3])] mixed (by decide+kernel) ?_))|((with_reducible refine Vc.DrawH.held [0,1,2,3,4,6,7,5,8] [(5,[7])] mixed (by decide+kernel) ?_))|((with_reducible refine Vc.DrawH.held [0,1,2,3,4,5,6,7,8,9,10,11,12,13] [(10,[4,7])] mixed (by decide+kernel) ?_))|refine Vc.stp ?_)<;>(intros;(conv=>whnf)))))
   rw[Nat.zero_add,nat_set]at hm4
   obtain⟨h1,h2⟩:=h.more (s':={nextF s with S:=(s.at_,x.n)::s.S}) hx04.2 hm4 hb4 rfl rfl (h.rel.push hn hk (by omega)) (hset _ _ hlx)
   exact DoneM.to (nx:=s.at_+1) (e:=0) (by unfold stepP;rw[if_neg (by omega: ¬x.k=0),if_neg (by omega: ¬x.k=1),if_neg (by omega: ¬x.k=2),if_neg (by omega: ¬x.k=3),if_neg (by omega: ¬x.k=4),if_neg (by omega: ¬x.k=5),if_neg (by omega: ¬x.k=6),if_neg (by omega: ¬x.k=7),if_pos (by omega:x.k=8),if_neg hx0]) h1 h2 rfl (fun _=>rfl)
 by_cases h11:k=11
 ·refine Vc.CallH.body Tryz.func61 Tryz.call61 rfl (by decide+kernel) rfl ?_
  ((conv=>whnf);repeat(any_goals((first|(refine IdxA.ln h.row h.len s.at_ x rfl hx ?_;intro _ _ hci)|((with_reducible apply SemH.load_ln);(focus((exact hci)));(focus((exact Ext.refl _)));(focus((conv=>whnf))))|(refine(ht _ (by exact Vc.xt) x.a hla).mono ?_;rintro _ H2 ⟨rfl,hx2⟩;have hz2:=hx2.size;rw[hFA])|((with_reducible refine Vc.DrawH.held [0,1,2,3,4,5,6,7,8,9,10] [(8,[3])] mixed (by decide+kernel) ?_))|((with_reducible refine Vc.DrawH.held [0,1,2,3,4,5,6,7,8,9,10] [(8,[3])] mixed (by decide+kernel) ?_))|((with_reducible refine Vc.DrawH.held [0,1,2,3,4,5,6,7,8,9,10,11] [(8,[3]),(9,[3])] mixed (by decide+kernel) ?_))|((with_reducible refine Vc.DrawH.held [0,1,2,3,4,5,6,7,8,9,10,11] [(8,[3]),(9,[3])] mixed (by decide+kernel) ?_))|((with_reducible refine Vc.DrawH.held [0,1,2,3,4,6,7,5,8] [(5,[7])] mixed (by decide+kernel) ?_))|((with_reducible refine Vc.DrawH.held [0,1,2,3,4,5,6,7,8,9,10,11,12,13] [(10,[4,7])] mixed (by decide+kernel) ?_))|refine Vc.stp ?_)<;>(intros;(conv=>whnf)))))
  obtain⟨h1,h2⟩:=h.to (s':=s) (show Ext H H2 by exact Vc.xt) rfl rfl h.rel
  exact DoneM.to (nx:=s.at_+1) (e:=72) (by unfold stepP;rw[if_neg (by omega: ¬x.k=0),if_neg (by omega: ¬x.k=1),if_neg (by omega: ¬x.k=2),if_neg (by omega: ¬x.k=3),if_neg (by omega: ¬x.k=4),if_neg (by omega: ¬x.k=5),if_neg (by omega: ¬x.k=6),if_neg (by omega: ¬x.k=7),if_neg (by omega: ¬x.k=8),if_neg (by omega: ¬x.k=9),if_neg (by omega: ¬x.k=10),if_pos (by omega:x.k=11)]) h1 h2 rfl (fun e=>by cases e)
 by_cases h9:k=9
 ·subst h9
  have hO:=h.tabs.els s.at_ hk
  have hcO:=Own.hcell h.oth (nat_get hO)
  have he:=ende_of hn hk
  refine Vc.CallH.body Tryz.func61 Tryz.call61 rfl (by decide+kernel) rfl ?_
  ((conv=>whnf);repeat(any_goals((first|(refine IdxA.ln h.row h.len s.at_ x rfl hx ?_;intro _ _ hci)|((with_reducible apply SemH.load_ln);(focus((exact hci)));(focus((exact Ext.refl _)));(focus((conv=>whnf))))|(refine(ht _ (by exact Vc.xt) x.a hla).mono ?_;rintro _ H2 ⟨rfl,hx2⟩;have hz2:=hx2.size;rw[hFA])|(refine IdxA.at1 s.at_ rfl hxl ?_)|((with_reducible refine Vc.DrawH.held [0,1,2,3,4,5,6,7,8,9,10] [(8,[3])] mixed (by decide+kernel) ?_))|((with_reducible refine Vc.DrawH.held [0,1,2,3,4,5,6,7,8,9,10] [(8,[3])] mixed (by decide+kernel) ?_))|((with_reducible refine Vc.DrawH.held [0,1,2,3,4,5,6,7,8,9,10,11] [(8,[3]),(9,[3])] mixed (by decide+kernel) ?_))|((with_reducible refine Vc.DrawH.held [0,1,2,3,4,5,6,7,8,9,10,11] [(8,[3]),(9,[3])] mixed (by decide+kernel) ?_))|((with_reducible refine Vc.DrawH.held [0,1,2,3,4,6,7,5,8] [(5,[7])] mixed (by decide+kernel) ?_))|((with_reducible refine Vc.DrawH.held [0,1,2,3,4,5,6,7,8,9,10,11,12,13] [(10,[4,7])] mixed (by decide+kernel) ?_))|refine Vc.stp ?_)<;>(intros;(conv=>whnf)))))
  obtain⟨h1,h2⟩:=h.to (s':={s with at_:=(endsF (kindsL m.L) s.at_).2}) (show Ext H H2 by exact Vc.xt) rfl rfl (h.rel.same he.hd)
  exact DoneM.to (e:=0) (by unfold stepP;rw[if_neg (by omega: ¬x.k=0),if_neg (by omega: ¬x.k=1),if_neg (by omega: ¬x.k=2),if_neg (by omega: ¬x.k=3),if_neg (by omega: ¬x.k=4),if_neg (by omega: ¬x.k=5),if_neg (by omega: ¬x.k=6),if_neg (by omega: ¬x.k=7),if_neg (by omega: ¬x.k=8),if_pos (by omega:x.k=9)]) h1 h2 rfl (fun _=>rfl)
 by_cases h10:k=10
 ·subst h10
  obtain⟨hd,t,hh,hend,hkind,_⟩:=end_head hn hk
  have hHd:=h.tabs.hd s.at_ hk hd t hh
  have hcH:=Own.hcell h.hds (nat_get hHd)
  have hhl:=hd_lt hn (i:=s.at_) (by rw[h.klen];omega) hd (by rw[hh];simp)
  have hhn:hd<m.n:=by omega
  have hML:M.length=m.n:=by rw[h.rel.len,h.klen]
  obtain⟨y,hy⟩: ∃ y,m.L[hd]? =some y:=⟨_,List.getElem?_eq_getElem (by rw[h.len];exact hhn)⟩
  have hky:=kinds_get hy
  rcases hkind with h7'|h8'
  ·have hy7:y.k=7:=by rw[h7']at hky;exact(Option.some.inj hky).symm
   obtain⟨hr,hno⟩:=h.rel.iff hn hk hh h7'
   have hst:stepP (kindsL m.L) x s=(nextF s,0):=by
    unfold stepP;rw[if_neg (by omega: ¬x.k=0),if_neg (by omega: ¬x.k=1),if_neg (by omega: ¬x.k=2),if_neg (by omega: ¬x.k=3),if_neg (by omega: ¬x.k=4),if_neg (by omega: ¬x.k=5),if_neg (by omega: ¬x.k=6),if_neg (by omega: ¬x.k=7),if_neg (by omega: ¬x.k=8),if_neg (by omega: ¬x.k=9),if_pos (by omega:x.k=10)]
    cases hS:s.S with
    |nil=>rfl
    |cons p S'=>
     obtain⟨g,c⟩:=p
     dsimp only
     rw[if_neg (hno (g,c) S' hS)]
   refine Vc.CallH.body Tryz.func61 Tryz.call61 rfl (by decide+kernel) rfl ?_
   ((conv=>whnf);repeat(any_goals((first|(refine IdxA.ln h.row h.len s.at_ x rfl hx ?_;intro _ _ hci)|((with_reducible apply SemH.load_ln);(focus((exact hci)));(focus((exact Ext.refl _)));(focus((conv=>whnf))))|(refine(ht _ (by exact Vc.xt) x.a hla).mono ?_;rintro _ H2 ⟨rfl,hx2⟩;have hz2:=hx2.size;rw[hFA])|(refine IdxA.at1 s.at_ rfl hxl ?_)|(refine IdxA.at1 hd rfl hhn ?_)|(refine IdxA.ln h.row h.len hd y rfl hy ?_;intro _ _ hcj;have hc0:=hcj 0 _ rfl)|((with_reducible refine Vc.DrawH.held [0,1,2,3,4,5,6,7,8,9,10] [(8,[3])] mixed (by decide+kernel) ?_))|((with_reducible refine Vc.DrawH.held [0,1,2,3,4,5,6,7,8,9,10] [(8,[3])] mixed (by decide+kernel) ?_))|((with_reducible refine Vc.DrawH.held [0,1,2,3,4,5,6,7,8,9,10,11] [(8,[3]),(9,[3])] mixed (by decide+kernel) ?_))|((with_reducible refine Vc.DrawH.held [0,1,2,3,4,5,6,7,8,9,10,11] [(8,[3]),(9,[3])] mixed (by decide+kernel) ?_))|((with_reducible refine Vc.DrawH.held [0,1,2,3,4,6,7,5,8] [(5,[7])] mixed (by decide+kernel) ?_))|((with_reducible refine Vc.DrawH.held [0,1,2,3,4,5,6,7,8,9,10,11,12,13] [(10,[4,7])] mixed (by decide+kernel) ?_))|refine Vc.stp ?_)<;>(intros;(conv=>whnf)))))
   obtain⟨h1,h2⟩:=h.to (s':=nextF s) (show Ext H H2 by exact Vc.xt) rfl rfl hr
   exact DoneM.to (nx:=s.at_+1) (e:=0) hst h1 h2 rfl (fun _=>rfl)
  ·have hy8:y.k=8:=by rw[h8']at hky;exact(Option.some.inj hky).symm
   obtain⟨c,S',hS,hM,hc1,_,hr1,hr2⟩:=h.rel.rep hn hk hh h8' hend
   have hcM:=Own.hcell h.mor (nat_get hM)
   have hcb:=h.bnd c (List.mem_of_getElem? hM)
   by_cases hc2:1<c
   ·have hst:stepP (kindsL m.L) x s=({s with at_:=hd+1,S:=(hd,c-1)::S'},0):=by
     unfold stepP;rw[if_neg (by omega: ¬x.k=0),if_neg (by omega: ¬x.k=1),if_neg (by omega: ¬x.k=2),if_neg (by omega: ¬x.k=3),if_neg (by omega: ¬x.k=4),if_neg (by omega: ¬x.k=5),if_neg (by omega: ¬x.k=6),if_neg (by omega: ¬x.k=7),if_neg (by omega: ¬x.k=8),if_neg (by omega: ¬x.k=9),if_pos (by omega:x.k=10)]
     rw[hS]
     dsimp only
     rw[if_pos hend,if_pos hc2]
    refine Vc.CallH.body Tryz.func61 Tryz.call61 rfl (by decide+kernel) rfl ?_
    ((conv=>whnf);repeat(any_goals((first|(refine IdxA.ln h.row h.len s.at_ x rfl hx ?_;intro _ _ hci)|((with_reducible apply SemH.load_ln);(focus((exact hci)));(focus((exact Ext.refl _)));(focus((conv=>whnf))))|(refine(ht _ (by exact Vc.xt) x.a hla).mono ?_;rintro _ H2 ⟨rfl,hx2⟩;have hz2:=hx2.size;rw[hFA])|(refine IdxA.at1 s.at_ rfl hxl ?_)|(refine IdxA.at1 hd rfl hhn ?_)|(refine IdxA.ln h.row h.len hd y rfl hy ?_;intro _ _ hcj;have hc0:=hcj 0 _ rfl)|((with_reducible apply DoH.store_own);(focus((exact h.mor.ext (show Ext H _ by exact Vc.xt))));(focus(rfl));(focus(rfl));(focus(rfl));(focus(omega));(focus((intro H4 hz4 hm4 hb4;have hx04:=And.intro trivial (show Ext H H2 by exact Vc.xt);rw[Nat.zero_add,show((c:Int)-1)=((c-1:Nat):Int)by omega,nat_set]at hm4;have hcN:=Own.hcell hm4 (nat_get (List.getElem?_set_self (by rw[hML];omega)));(conv=>whnf)))))|((with_reducible refine Vc.DrawH.held [0,1,2,3,4,5,6,7,8,9,10] [(8,[3])] mixed (by decide+kernel) ?_))|((with_reducible refine Vc.DrawH.held [0,1,2,3,4,5,6,7,8,9,10] [(8,[3])] mixed (by decide+kernel) ?_))|((with_reducible refine Vc.DrawH.held [0,1,2,3,4,5,6,7,8,9,10,11] [(8,[3]),(9,[3])] mixed (by decide+kernel) ?_))|((with_reducible refine Vc.DrawH.held [0,1,2,3,4,5,6,7,8,9,10,11] [(8,[3]),(9,[3])] mixed (by decide+kernel) ?_))|((with_reducible refine Vc.DrawH.held [0,1,2,3,4,6,7,5,8] [(5,[7])] mixed (by decide+kernel) ?_))|((with_reducible refine Vc.DrawH.held [0,1,2,3,4,5,6,7,8,9,10,11,12,13] [(10,[4,7])] mixed (by decide+kernel) ?_))|refine Vc.stp ?_)<;>(intros;(conv=>whnf)))))
    obtain⟨h1,h2⟩:=h.more (s':={s with at_:=hd+1,S:=(hd,c-1)::S'}) hx04.2 hm4 hb4 rfl rfl (hr1 hc2) (hset _ _ (by omega))
    exact DoneM.to (nx:=hd+1) (e:=0) hst h1 h2 rfl (fun _=>rfl)
   ·have hst:stepP (kindsL m.L) x s=({nextF s with S:=S'},0):=by
     unfold stepP;rw[if_neg (by omega: ¬x.k=0),if_neg (by omega: ¬x.k=1),if_neg (by omega: ¬x.k=2),if_neg (by omega: ¬x.k=3),if_neg (by omega: ¬x.k=4),if_neg (by omega: ¬x.k=5),if_neg (by omega: ¬x.k=6),if_neg (by omega: ¬x.k=7),if_neg (by omega: ¬x.k=8),if_neg (by omega: ¬x.k=9),if_pos (by omega:x.k=10)]
     rw[hS]
     dsimp only
     rw[if_pos hend,if_neg hc2]
    refine Vc.CallH.body Tryz.func61 Tryz.call61 rfl (by decide+kernel) rfl ?_
    ((conv=>whnf);repeat(any_goals((first|(refine IdxA.ln h.row h.len s.at_ x rfl hx ?_;intro _ _ hci)|((with_reducible apply SemH.load_ln);(focus((exact hci)));(focus((exact Ext.refl _)));(focus((conv=>whnf))))|(refine(ht _ (by exact Vc.xt) x.a hla).mono ?_;rintro _ H2 ⟨rfl,hx2⟩;have hz2:=hx2.size;rw[hFA])|(refine IdxA.at1 s.at_ rfl hxl ?_)|(refine IdxA.at1 hd rfl hhn ?_)|(refine IdxA.ln h.row h.len hd y rfl hy ?_;intro _ _ hcj;have hc0:=hcj 0 _ rfl)|((with_reducible apply DoH.store_own);(focus((exact h.mor.ext (show Ext H _ by exact Vc.xt))));(focus(rfl));(focus(rfl));(focus(rfl));(focus(omega));(focus((intro H4 hz4 hm4 hb4;have hx04:=And.intro trivial (show Ext H H2 by exact Vc.xt);rw[Nat.zero_add,show((c:Int)-1)=((c-1:Nat):Int)by omega,nat_set]at hm4;have hcN:=Own.hcell hm4 (nat_get (List.getElem?_set_self (by rw[hML];omega)));(conv=>whnf)))))|((with_reducible refine Vc.DrawH.held [0,1,2,3,4,5,6,7,8,9,10] [(8,[3])] mixed (by decide+kernel) ?_))|((with_reducible refine Vc.DrawH.held [0,1,2,3,4,5,6,7,8,9,10] [(8,[3])] mixed (by decide+kernel) ?_))|((with_reducible refine Vc.DrawH.held [0,1,2,3,4,5,6,7,8,9,10,11] [(8,[3]),(9,[3])] mixed (by decide+kernel) ?_))|((with_reducible refine Vc.DrawH.held [0,1,2,3,4,5,6,7,8,9,10,11] [(8,[3]),(9,[3])] mixed (by decide+kernel) ?_))|((with_reducible refine Vc.DrawH.held [0,1,2,3,4,6,7,5,8] [(5,[7])] mixed (by decide+kernel) ?_))|((with_reducible refine Vc.DrawH.held [0,1,2,3,4,5,6,7,8,9,10,11,12,13] [(10,[4,7])] mixed (by decide+kernel) ?_))|refine Vc.stp ?_)<;>(intros;(conv=>whnf)))))
    obtain⟨h1,h2⟩:=h.more (s':={nextF s with S:=S'}) hx04.2 hm4 hb4 rfl rfl hr2 (hset _ _ (by omega))
    exact DoneM.to (nx:=s.at_+1) (e:=0) hst h1 h2 rfl (fun _=>rfl)
 have hst:stepP (kindsL m.L) x s=(nextF s,0):=by
  unfold stepP
  rw[if_neg (by omega: ¬x.k=0),if_neg (by omega: ¬x.k=1),if_neg (by omega: ¬x.k=2),if_neg (by omega: ¬x.k=3),if_neg (by omega: ¬x.k=4),if_neg (by omega: ¬x.k=5),if_neg (by omega: ¬x.k=6),if_neg (by omega: ¬x.k=7),if_neg (by omega: ¬x.k=8),if_neg (by omega: ¬x.k=9),if_neg (by omega: ¬x.k=10),if_neg (by omega: ¬x.k=11)]
 refine Vc.CallH.body Tryz.func61 Tryz.call61 rfl (by decide+kernel) rfl ?_
 ((conv=>whnf);repeat(any_goals((first|(refine IdxA.ln h.row h.len s.at_ x rfl hx ?_;intro _ _ hci)|((with_reducible apply SemH.load_ln);(focus((exact hci)));(focus((exact Ext.refl _)));(focus((conv=>whnf))))|(refine(ht _ (by exact Vc.xt) x.a hla).mono ?_;rintro _ H2 ⟨rfl,hx2⟩;have hz2:=hx2.size;rw[hFA])|((with_reducible refine Vc.DrawH.held [0,1,2,3,4,5,6,7,8,9,10] [(8,[3])] mixed (by decide+kernel) ?_))|((with_reducible refine Vc.DrawH.held [0,1,2,3,4,5,6,7,8,9,10] [(8,[3])] mixed (by decide+kernel) ?_))|((with_reducible refine Vc.DrawH.held [0,1,2,3,4,5,6,7,8,9,10,11] [(8,[3]),(9,[3])] mixed (by decide+kernel) ?_))|((with_reducible refine Vc.DrawH.held [0,1,2,3,4,5,6,7,8,9,10,11] [(8,[3]),(9,[3])] mixed (by decide+kernel) ?_))|((with_reducible refine Vc.DrawH.held [0,1,2,3,4,6,7,5,8] [(5,[7])] mixed (by decide+kernel) ?_))|((with_reducible refine Vc.DrawH.held [0,1,2,3,4,5,6,7,8,9,10,11,12,13] [(10,[4,7])] mixed (by decide+kernel) ?_))|refine Vc.stp ?_)<;>(intros;(conv=>whnf)))))
 obtain⟨h1,h2⟩:=h.to (s':=nextF s) (show Ext H H2 by exact Vc.xt) rfl rfl (h.rel.same (hd_other hk (by omega) (by omega) (by omega)))
 exact DoneM.to (nx:=s.at_+1) (e:=0) hst h1 h2 rfl (fun _=>rfl)
end Go.Proofs.YtphkaogbcfdllaaGreatDoor
namespace Go.Proofs.YtphkaogbcfdllaaGreatDoor
open Go Go.Vc Go.Scr Go.Pth Go.Tre Go.Blk Go.Run
theorem jumpsB {K:Value→Prop} {o1 o2:Operand} {a b:Option Addr} {n m c d:Nat} (h:K (.agg #[.slice a n c,.slice b m d])):PureH Tryz.prog (Instr.build 136 ((List.map (fun x:Nat×Operand=>x.1) (#[(0,o1),(1,o2)]:Array (Nat×Operand)).toList).zip [.slice a n c,.slice b m d]).toArray) K:=PureH.build _ (by kernel_rfl) h
theorem Tab.ext {H H':Heap} {B g n:Nat} {l:List Nat} (h:Tab H B g n l) (k:Ext H H'):Tab H' B g n l:=Own.ext h k
theorem Tab.but {H H':Heap} {B g b n:Nat} {l:List Nat} (h:Tab H B g n l) (k:But b H H') (hb:g≠b):Tab H' B g n l:=Own.keep h k fun p hp e=>by cases hp;exact hb e
structure FdJ (H H1 H':Heap) (n gj go gh:Nat):Prop where
 blk:Blk H' gj #[.slice (some ⟨go,0,none⟩) n n,.slice (some ⟨gh,0,none⟩) n n] 136
 oth:Tab H' H.size go n (List.replicate n 0)
 hds:Tab H' H.size gh n (List.replicate n 0)
 ne:go≠gh
 low:H1.size≤gj
 lo:H1.size≤go
 lh:H1.size≤gh
 ext:Ext H1 H'
structure FnB (H H2 H':Heap) (n gj go gh:Nat) (O Hd:List Nat):Prop where
 blk:Blk H' gj #[.slice (some ⟨go,0,none⟩) n n,.slice (some ⟨gh,0,none⟩) n n] 136
 res:Blk H' H.size #[Value.slice none 0 0,Value.slice none 0 0] 136
 oth:Tab H' H.size go n O
 hds:Tab H' H.size gh n Hd
 ext:Ext H H'
 lt:gj<H2.size∧go<H2.size∧gh<H2.size∧H.size<H2.size
 ne:go≠gh∧H.size≠gj∧H.size≠go∧H.size≠gh∧gj≠go∧gj≠gh
 low:H2.size≤H'.size
theorem FnB.up {H H2 H' H'':Heap} {n gj go gh:Nat} {O Hd:List Nat} (h:FnB H H2 H' n gj go gh O Hd) (k:Only (fun x=>H2.size≤x) H' H''):FnB H H2 H'' n gj go gh O Hd:=by
 have hl:=h.lt
 have hc:=h.res
 exact⟨h.blk.keep k (by omega),hc.keep k (by omega),h.oth.keep k fun p hp=>by cases hp;dsimp only;omega,h.hds.keep k fun p hp=>by cases hp;dsimp only;omega,Only.trans h.ext k fun b hb e=>by omega,h.lt,h.ne,Nat.le_trans h.low k.size⟩
theorem FnB.ext' {H H2 H' H'':Heap} {n gj go gh:Nat} {O Hd:List Nat} (h:FnB H H2 H' n gj go gh O Hd) (k:Ext H' H''):FnB H H2 H'' n gj go gh O Hd:=h.up (k.mono fun _ e=>e.elim)
theorem FnB.setO {H H2 H' H'':Heap} {n gj go gh:Nat} {O O' Hd:List Nat} (h:FnB H H2 H' n gj go gh O Hd) (hO:Tab H'' H.size go n O') (k:But go H' H''):FnB H H2 H'' n gj go gh O' Hd:=by
 obtain⟨n1,n2,n3,n4,n5,n6⟩:=h.ne
 have hc:=h.res
 have hb:=(h.oth.block _ rfl).1
 dsimp only at hb
 exact⟨h.blk.but k n5,hc.but k n3,hO,Tab.but h.hds k n1.symm,h.ext.but k hb,h.lt,h.ne,Nat.le_trans h.low k.size⟩
theorem FnB.setH {H H2 H' H'':Heap} {n gj go gh:Nat} {O Hd Hd':List Nat} (h:FnB H H2 H' n gj go gh O Hd) (hO:Tab H'' H.size gh n Hd') (k:But gh H' H''):FnB H H2 H'' n gj go gh O Hd':=by
 obtain⟨n1,n2,n3,n4,n5,n6⟩:=h.ne
 have hc:=h.res
 have hb:=(h.hds.block _ rfl).1
 dsimp only at hb
 exact⟨h.blk.but k n6,hc.but k n4,Tab.but h.oth k n1,hO,h.ext.but k hb,h.lt,h.ne,Nat.le_trans h.low k.size⟩
abbrev IntS (H':Heap) (B:Nat) (a:Option Addr) (c:Nat) (l:List Nat):Prop:=Own H' B 3 1 a l.length c (natV l)
def opF (K:List Nat) (i:Nat):List Nat:=((stF K i).map (·.2)).reverse
def hsF (K:List Nat) (i:Nat):List Nat:=((stF K i).map (·.1)).reverse
theorem wr_low {B n cap:Nat} {a:Option Addr} {xs:List Value} {H H':Heap} (ho:Own H B 3 1 a n cap xs) (hw:Wr a H H'):Only (fun x=>B≤x) H H':=hw.mono fun b ⟨p,hp,e⟩=>by have:=(ho.block p hp).1;omega
theorem NextH.pushN {H:Heap} {u ty:TypeId} {a:Option Addr} {cap g base m:Nat} {l:List Nat} {cb:Array Bool} {K:Value→Heap→Prop}
  (hown:IntS H base a cap l) (hlit:Blk H g #[.int .i64 (m:Int)] 3) (hn:l.length≤1000000) (hb:base≤H.size) (hu: ∃ d,Tryz.prog.underlying u=some d∧(∀ k,d≠ .int k))
  (hk: ∀ a' cap' H',IntS H' base a' cap' (l++[m])→Wr a H H'→(∀ p,a'=some p→a'=a∨H.size≤p.block)→K (.slice a' (l.length+1) cap') H'):
  NextH Tryz.prog (builtin .append #[125,u] ty cb #[.slice a l.length cap,.slice (some ⟨g,0,none⟩) 1 1]) H K:=by
 refine NextH.append (i:=Tryz.t3) (z:= .int .i64 0) (m:=1) (news:=[.int .i64 (m:Int)]) rfl hu rfl rfl rfl hown (Src.row (c:=1) (Blk.row (c:=[.int .i64 (m:Int)]) hlit) rfl (by simp[plainV])) (by unfold maxLen;omega) ?_ hb fun a' cap' H' h1 h2 h3=>hk a' cap' H' ?_ h2 h3
 ·show(l.length+1)*8≤_;omega
 ·show Own _ _ _ 1 _ (l++[m]).length _ _
  rw[List.length_append,natV_append];exact h1
theorem stF_len (K:List Nat): ∀ i,(stF K i).length≤i
 |0=>Nat.le_refl _
 |i+1=>by
  have ih:=stF_len K i
  rw[stF]
  split
  ·rename_i k _
   unfold stS
   split
   ·rw[List.length_cons];omega
   split
   ·cases hs:stF K i with
    |nil=>exact Nat.zero_le _
    |cons p t=>rw[hs]at ih;rw[List.length_cons]at ih ⊢;omega
   split
   ·rw[List.length_tail];omega
   ·omega
  ·omega
theorem opF_len (K:List Nat) (i:Nat):(opF K i).length≤i:=by unfold opF;rw[List.length_reverse,List.length_map];exact stF_len K i
theorem hsF_len (K:List Nat) (i:Nat):(hsF K i).length≤i:=by unfold hsF;rw[List.length_reverse,List.length_map];exact stF_len K i
structure FnS where
 i:Nat
 a:Option Addr
 c:Nat
 ah:Option Addr
 ch:Nat
 O:List Nat
 Hd:List Nat
set_option maxHeartbeats 8000000 in
theorem find_any {H:Heap} {al:Option Addr} {cl n:Nat} {L:List Ln} (hr:Row H al (lnsV L)) (hl:L.length=n) (hn:n≤1000000) (hne:Nested (kindsL L)):
  CallH Tryz.prog 60 [.slice al n cl] H fun v H'=>(∃ go gh O Hd,v= .agg #[.slice (some ⟨go,0,none⟩) n n,.slice (some ⟨gh,0,none⟩) n n]∧Tab H' H.size go n O∧Tab H' H.size gh n Hd∧Go.Blk.Tables (kindsL L) O Hd)∧Ext H H':=by
 refine Vc.CallH.body Tryz.func60 Tryz.call60 rfl (by decide+kernel) rfl ?_
 ((conv=>whnf);repeat(any_goals((first|((with_reducible apply SemH.make);(focus(rfl));(focus(rfl));(focus(rfl));(focus((show 8*n≤_;omega)));(focus((unfold maxLen;omega)));(focus((intro H1 ho1 hx1;(conv=>whnf)))))|(first|(with_reducible refine Vc.DrawH.lin (id:=1) mixed ?_)|(with_reducible refine Vc.DrawL.split (es:=[]) 2 5 (by decide) (by decide) (by decide) ?_ ?_)|(with_reducible refine Vc.DrawL.split (es:=[(2,5)]) 2 7 (by decide) (by decide) (by decide) ?_ ?_)|(with_reducible refine Vc.DrawL.split (es:=[(2,7),(2,5)]) 5 7 (by decide) (by decide) (by decide) ?_ ?_)|(with_reducible refine Vc.DrawL.held (es:=[(5,7),(2,7),(2,5)]) [0,1,3,4,2,5,6,7,8] [] (by decide+kernel) ?_)|(with_reducible refine Vc.DrawL.held (es:=[(7,5),(2,7),(2,5)]) [0,1,3,4,2,7,5,6,8] [] (by decide+kernel) ?_)|(with_reducible refine Vc.DrawL.held (es:=[(7,2),(2,5)]) [0,1,3,4,7,2,5,6,8] [] (by decide+kernel) ?_)|(with_reducible refine Vc.DrawL.split (es:=[(5,2)]) 5 7 (by decide) (by decide) (by decide) ?_ ?_)|(with_reducible refine Vc.DrawL.split (es:=[(5,7),(5,2)]) 2 7 (by decide) (by decide) (by decide) ?_ ?_)|(with_reducible refine Vc.DrawL.held (es:=[(2,7),(5,7),(5,2)]) [0,1,3,4,5,2,6,7,8] [] (by decide+kernel) ?_)|(with_reducible refine Vc.DrawL.held (es:=[(7,2),(5,7),(5,2)]) [0,1,3,4,5,7,2,6,8] [] (by decide+kernel) ?_)|(with_reducible refine Vc.DrawL.held (es:=[(7,5),(5,2)]) [0,1,3,4,7,5,2,6,8] [] (by decide+kernel) ?_))|((with_reducible refine Vc.DrawH.held [0,1,2,3,4,5,6,7,8,9,10,11,12,13,14,15,16,17,18,19] [(17,[8])] mixed (by decide+kernel) ?_))|refine Vc.stq ?_|refine Vc.spl ?_ ?_)<;>(intros;(conv=>whnf)))))
 rename_i H1 z1 b1 x1
 have fin: ∀ {env:Env} {H':Heap} {gj go gh:Nat},Blk H' gj #[.slice (some ⟨go,0,none⟩) n n,.slice (some ⟨gh,0,none⟩) n n] 136→Bears env [(3,.pointer (some ⟨gj,0,none⟩))]→Tab H' H.size go n (List.replicate n 0)→Tab H' H.size gh n (List.replicate n 0)→go≠gh→H1.size≤gj→H1.size≤go→H1.size≤gh→Ext H1 H'→
   ∃ s:Nat×Nat×Nat,Bears env [(3,.pointer (some ⟨s.1,0,none⟩))]∧FdJ H H1 H' n s.1 s.2.1 s.2.2:=fun a b c d e f l1 l2 g=>⟨(_,_,_),b,a,c,d,e,f,l1,l2,g⟩
 refine SeqH.cut (fun(x:Nat×Nat×Nat)=>[(3,.pointer (some ⟨x.1,0,none⟩))]) (fun x H'=>FdJ H H1 H' n x.1 x.2.1 x.2.2) ?_ ?_
 ·((conv=>whnf);repeat(any_goals((first|((with_reducible apply SemH.make);(focus(rfl));(focus(rfl));(focus(rfl));(focus((show 8*n≤_;omega)));(focus((unfold maxLen;omega)));(focus((intro Hx hox hxx;replace hox:Tab Hx _ _ n (List.replicate n 0):=(by(show Own _ _ _ 1 _ _ _ (natV (List.replicate n 0)));rw[←nat_made];exact hox);replace hox:Tab Hx H.size _ n (List.replicate n 0):=Go.Vc.Own.base hox (by omega);have hzx:=hxx.size;have hwx:=(show _<Hx.size from(hox.block _ rfl).2);dsimp only at hwx;(conv=>whnf)))))|((with_reducible apply jumpsB);(focus((conv=>whnf))))|(first|(with_reducible refine Vc.DrawH.lin (id:=1) mixed ?_)|(with_reducible refine Vc.DrawL.split (es:=[]) 2 5 (by decide) (by decide) (by decide) ?_ ?_)|(with_reducible refine Vc.DrawL.split (es:=[(2,5)]) 2 7 (by decide) (by decide) (by decide) ?_ ?_)|(with_reducible refine Vc.DrawL.split (es:=[(2,7),(2,5)]) 5 7 (by decide) (by decide) (by decide) ?_ ?_)|(with_reducible refine Vc.DrawL.held (es:=[(5,7),(2,7),(2,5)]) [0,1,3,4,2,5,6,7,8] [] (by decide+kernel) ?_)|(with_reducible refine Vc.DrawL.held (es:=[(7,5),(2,7),(2,5)]) [0,1,3,4,2,7,5,6,8] [] (by decide+kernel) ?_)|(with_reducible refine Vc.DrawL.held (es:=[(7,2),(2,5)]) [0,1,3,4,7,2,5,6,8] [] (by decide+kernel) ?_)|(with_reducible refine Vc.DrawL.split (es:=[(5,2)]) 5 7 (by decide) (by decide) (by decide) ?_ ?_)|(with_reducible refine Vc.DrawL.split (es:=[(5,7),(5,2)]) 2 7 (by decide) (by decide) (by decide) ?_ ?_)|(with_reducible refine Vc.DrawL.held (es:=[(2,7),(5,7),(5,2)]) [0,1,3,4,5,2,6,7,8] [] (by decide+kernel) ?_)|(with_reducible refine Vc.DrawL.held (es:=[(7,2),(5,7),(5,2)]) [0,1,3,4,5,7,2,6,8] [] (by decide+kernel) ?_)|(with_reducible refine Vc.DrawL.held (es:=[(7,5),(5,2)]) [0,1,3,4,7,5,2,6,8] [] (by decide+kernel) ?_))|((with_reducible refine Vc.DrawH.held [0,1,2,3,4,5,6,7,8,9,10,11,12,13,14,15,16,17,18,19] [(17,[8])] mixed (by decide+kernel) ?_))|refine Vc.stp ?_|refine Vc.spl ?_ ?_)<;>(intros;(conv=>whnf)))))
  all_goals(refine fin (by assumption) ⟨rfl,trivial⟩ ?_ ?_ ?_ ?_ ?_ ?_ ?_<;>first|omega|(exact Vc.xt;done)|((repeat(first|assumption|((with_reducible apply Tab.ext);(case k=>assumption))|((with_reducible apply Tab.but);(case k=>assumption);(case hb=>omega))));done))
 ·rintro⟨gj,go,gh⟩ H2 hj
  have hj:FdJ H H1 H2 n gj go gh:=hj
  have hz2:=hj.ext.size
  have hbo:=hj.oth.blk (by simp)
  have hbh:=hj.hds.blk (by simp)
  have hB:FnB H H2 H2 n gj go gh (List.replicate n 0) (List.replicate n 0):=by
   have hlt:=hj.blk.lt
   have h3:=hbo.lt
   have h4:=hbh.lt
   have:=hj.low
   have:=hj.lo
   have:=hj.lh
   refine⟨hj.blk,b1.ext hj.ext,hj.oth,hj.hds,x1.trans hj.ext,by omega,⟨hj.ne,by omega,by omega,by omega,fun e=> ?_,fun e=> ?_⟩,Nat.le_refl _⟩
   ·have:=hj.blk;rw[e]at this;exact absurd (blk_one this hbo).1 (by decide)
   ·have:=hj.blk;rw[e]at this;exact absurd (blk_one this hbh).1 (by decide)
  have hkl:(kindsL L).length=n:=by rw[kinds_len,hl]
  ((conv=>whnf);repeat(any_goals((first|(first|(with_reducible refine Vc.DrawH.lin (id:=1) mixed ?_)|(with_reducible refine Vc.DrawL.split (es:=[]) 2 5 (by decide) (by decide) (by decide) ?_ ?_)|(with_reducible refine Vc.DrawL.split (es:=[(2,5)]) 2 7 (by decide) (by decide) (by decide) ?_ ?_)|(with_reducible refine Vc.DrawL.split (es:=[(2,7),(2,5)]) 5 7 (by decide) (by decide) (by decide) ?_ ?_)|(with_reducible refine Vc.DrawL.held (es:=[(5,7),(2,7),(2,5)]) [0,1,3,4,2,5,6,7,8] [] (by decide+kernel) ?_)|(with_reducible refine Vc.DrawL.held (es:=[(7,5),(2,7),(2,5)]) [0,1,3,4,2,7,5,6,8] [] (by decide+kernel) ?_)|(with_reducible refine Vc.DrawL.held (es:=[(7,2),(2,5)]) [0,1,3,4,7,2,5,6,8] [] (by decide+kernel) ?_)|(with_reducible refine Vc.DrawL.split (es:=[(5,2)]) 5 7 (by decide) (by decide) (by decide) ?_ ?_)|(with_reducible refine Vc.DrawL.split (es:=[(5,7),(5,2)]) 2 7 (by decide) (by decide) (by decide) ?_ ?_)|(with_reducible refine Vc.DrawL.held (es:=[(2,7),(5,7),(5,2)]) [0,1,3,4,5,2,6,7,8] [] (by decide+kernel) ?_)|(with_reducible refine Vc.DrawL.held (es:=[(7,2),(5,7),(5,2)]) [0,1,3,4,5,7,2,6,8] [] (by decide+kernel) ?_)|(with_reducible refine Vc.DrawL.held (es:=[(7,5),(5,2)]) [0,1,3,4,7,5,2,6,8] [] (by decide+kernel) ?_))|((with_reducible refine Vc.DrawH.held [0,1,2,3,4,5,6,7,8,9,10,11,12,13,14,15,16,17,18,19] [(17,[8])] mixed (by decide+kernel) ?_))|refine Vc.stp ?_)<;>(intros;(conv=>whnf)))))
  refine LoopH.intro (fun(x:FnS)=>[(19,.int .i64 x.i),(4,.slice x.a (opF (kindsL L) x.i).length x.c),(5,.slice x.ah (hsF (kindsL L) x.i).length x.ch)]) (fun x H'=>x.i≤n∧FindI (kindsL L) x.i x.O x.Hd∧FnB H H2 H' n gj go gh x.O x.Hd∧IntS H' H2.size x.a x.c (opF (kindsL L) x.i)∧IntS H' H2.size x.ah x.ch (hsF (kindsL L) x.i)∧(∀ p q,x.a=some p→x.ah=some q→p.block≠q.block)) (fun x=>n-x.i) ⟨0,none,0,none,0,List.replicate n 0,List.replicate n 0⟩ ⟨rfl,rfl,rfl,trivial⟩ ⟨Nat.zero_le _,by rw[←hkl];exact FindI.zero _,hB,Own.nil _ _ _ _,Own.nil _ _ _ _,fun p q hp=>by cases hp⟩ ?_
  rintro⟨i,a,ca,ah,ch,O,Hd⟩ H3 ⟨hi,hfi,hB3,ho,hh,hap⟩
  dsimp only at hi hfi hB3 ho hh hap ⊢
  have hz3:=hB3.low
  have hol:=opF_len (kindsL L) i
  have hhl:=hsF_len (kindsL L) i
  by_cases hlt:i<n
  ·obtain⟨x,hx⟩: ∃ x,L[i]? =some x:=⟨_,List.getElem?_eq_getElem (by omega)⟩
   have hk:=kinds_get hx
   obtain⟨k,hxk⟩: ∃ k,x.k=k:=⟨_,rfl⟩
   rw[hxk]at hk
   by_cases h78:k=7∨k=8
   ·have eop:opF (kindsL L) (i+1)=opF (kindsL L) i++[i]:=by unfold opF;rw[stF_succ hk];unfold stS;rw[if_pos h78];simp
    have ehs:hsF (kindsL L) (i+1)=hsF (kindsL L) i++[i]:=by unfold hsF;rw[stF_succ hk];unfold stS;rw[if_pos h78];simp
    have hf2:=hfi.open hk h78
    have end2: ∀ {env:Env} {H5 H6 H7 H8:Heap} {a6 a8:Option Addr} {c6 c8:Nat},Ext H3 H5→FnB H H2 H6 n gj go gh O Hd→IntS H6 H2.size a6 c6 (opF (kindsL L) i++[i])→IntS H6 H2.size ah ch (hsF (kindsL L) i)→H5.size≤H6.size→(∀ p,a6=some p→a6=a∨H5.size≤p.block)→Ext H6 H7→IntS H8 H2.size a8 c8 (hsF (kindsL L) i++[i])→Wr ah H7 H8→(∀ p,a8=some p→a8=ah∨H7.size≤p.block)→
      Bears env [(19,.int .i64 ((i:Int)+1)),(4,.slice a6 ((opF (kindsL L) i).length+1) c6),(5,.slice a8 ((hsF (kindsL L) i).length+1) c8)]→
      ∃ s':FnS,Bears env [(19,.int .i64 s'.i),(4,.slice s'.a (opF (kindsL L) s'.i).length s'.c),(5,.slice s'.ah (hsF (kindsL L) s'.i).length s'.ch)]∧(s'.i≤n∧FindI (kindsL L) s'.i s'.O s'.Hd∧FnB H H2 H8 n gj go gh s'.O s'.Hd∧IntS H8 H2.size s'.a s'.c (opF (kindsL L) s'.i)∧IntS H8 H2.size s'.ah s'.ch (hsF (kindsL L) s'.i)∧(∀ p q,s'.a=some p→s'.ah=some q→p.block≠q.block))∧n-s'.i<n-i:=by
     intro env H5 H6 H7 H8 a6 a8 c6 c8 k35 hB6 ho6 hh6 hz56 hf6 k67 hh8 hw8 hf8 hbe
     have hap6: ∀ p q,a6=some p→ah=some q→p.block≠q.block:=fun p q hp hq=>by
      rcases hf6 p hp with e|e
      ·exact hap p q (e▸hp) hq
      ·have:=(hh.block q hq).2
       have:=k35.size
       omega
     have ho8:IntS H8 H2.size a6 c6 (opF (kindsL L) i++[i]):=(ho6.ext k67).keep hw8 fun p hp ⟨q,hq,e⟩=>hap6 p q hp hq e.symm
     refine⟨⟨i+1,a6,c6,a8,c8,O,Hd⟩,?_,⟨by show i+1≤n;omega,hf2,(hB6.ext' k67).up (wr_low (hh6.ext k67) hw8),by dsimp only;rw[eop];exact ho8,by dsimp only;rw[ehs];exact hh8,fun p q hp hq=> ?_⟩,by show n-(i+1)<n-i;omega⟩
     ·dsimp only
      rw[eop,ehs,List.length_append,List.length_append]
      exact hbe
     ·rcases hf8 q hq with e|e
      ·exact hap6 p q hp (e▸hq)
      ·have:=(ho6.block p hp).2
       have:=k67.size
       omega
    rcases h78 with h7|h7
    ·((conv=>whnf);repeat(any_goals((first|(refine IdxA.ln (hr.ext hB3.ext) hl i x rfl hx ?_;intro _ _ hci)|((with_reducible apply SemH.load_ln);(focus((exact hci)));(focus((exact Ext.refl _)));(focus((conv=>whnf))))|(have:=hh6;rename_i H7 z7 b7 x7;have x67:Ext H6 H7:=x7;refine NextH.pushN (l:=hsF (kindsL L) i) (m:=i) (hh6.ext x67) b7 (by omega) (by omega) ⟨_,rfl,fun _ h=>by cases h⟩ ?_;intro a8 c8 H8 hh8 hw8 hf8)|(have:=ho;rename_i H5 z5 b5 x5;have x35:=And.intro trivial (show Ext H3 H5 by exact Vc.xt);refine NextH.pushN (l:=opF (kindsL L) i) (m:=i) (ho.ext x35.2) b5 (by omega) (by omega) ⟨_,rfl,fun _ h=>by cases h⟩ ?_;intro a6 c6 H6 ho6 hw6 hf6;have hh6:IntS H6 H2.size ah ch (hsF (kindsL L) i):=(hh.ext x35.2).keep hw6 (fun p hp ⟨q,hq,e⟩=>hap q p hq hp e);have hu6:=wr_low (ho.ext x35.2) hw6;have hz6:=hw6.size;have hB6:=(hB3.ext' x35.2).up hu6)|(first|(with_reducible refine Vc.DrawH.lin (id:=1) mixed ?_)|(with_reducible refine Vc.DrawL.split (es:=[]) 2 5 (by decide) (by decide) (by decide) ?_ ?_)|(with_reducible refine Vc.DrawL.split (es:=[(2,5)]) 2 7 (by decide) (by decide) (by decide) ?_ ?_)|(with_reducible refine Vc.DrawL.split (es:=[(2,7),(2,5)]) 5 7 (by decide) (by decide) (by decide) ?_ ?_)|(with_reducible refine Vc.DrawL.held (es:=[(5,7),(2,7),(2,5)]) [0,1,3,4,2,5,6,7,8] [] (by decide+kernel) ?_)|(with_reducible refine Vc.DrawL.held (es:=[(7,5),(2,7),(2,5)]) [0,1,3,4,2,7,5,6,8] [] (by decide+kernel) ?_)|(with_reducible refine Vc.DrawL.held (es:=[(7,2),(2,5)]) [0,1,3,4,7,2,5,6,8] [] (by decide+kernel) ?_)|(with_reducible refine Vc.DrawL.split (es:=[(5,2)]) 5 7 (by decide) (by decide) (by decide) ?_ ?_)|(with_reducible refine Vc.DrawL.split (es:=[(5,7),(5,2)]) 2 7 (by decide) (by decide) (by decide) ?_ ?_)|(with_reducible refine Vc.DrawL.held (es:=[(2,7),(5,7),(5,2)]) [0,1,3,4,5,2,6,7,8] [] (by decide+kernel) ?_)|(with_reducible refine Vc.DrawL.held (es:=[(7,2),(5,7),(5,2)]) [0,1,3,4,5,7,2,6,8] [] (by decide+kernel) ?_)|(with_reducible refine Vc.DrawL.held (es:=[(7,5),(5,2)]) [0,1,3,4,7,5,2,6,8] [] (by decide+kernel) ?_))|((with_reducible refine Vc.DrawH.held [0,1,2,3,4,5,6,7,8,9,10,11,12,13,14,15,16,17,18,19] [(17,[8])] mixed (by decide+kernel) ?_))|refine Vc.stp ?_)<;>(intros;(conv=>whnf)))))
     exact end2 x35.2 hB6 ho6 hh6 hz6 hf6 x67 hh8 hw8 hf8 ⟨rfl,rfl,rfl,trivial⟩
    ·((conv=>whnf);repeat(any_goals((first|(refine IdxA.ln (hr.ext hB3.ext) hl i x rfl hx ?_;intro _ _ hci)|((with_reducible apply SemH.load_ln);(focus((exact hci)));(focus((exact Ext.refl _)));(focus((conv=>whnf))))|(have:=hh6;rename_i H7 z7 b7 x7;have x67:Ext H6 H7:=x7;refine NextH.pushN (l:=hsF (kindsL L) i) (m:=i) (hh6.ext x67) b7 (by omega) (by omega) ⟨_,rfl,fun _ h=>by cases h⟩ ?_;intro a8 c8 H8 hh8 hw8 hf8)|(have:=ho;rename_i H5 z5 b5 x5;have x35:=And.intro trivial (show Ext H3 H5 by exact Vc.xt);refine NextH.pushN (l:=opF (kindsL L) i) (m:=i) (ho.ext x35.2) b5 (by omega) (by omega) ⟨_,rfl,fun _ h=>by cases h⟩ ?_;intro a6 c6 H6 ho6 hw6 hf6;have hh6:IntS H6 H2.size ah ch (hsF (kindsL L) i):=(hh.ext x35.2).keep hw6 (fun p hp ⟨q,hq,e⟩=>hap q p hq hp e);have hu6:=wr_low (ho.ext x35.2) hw6;have hz6:=hw6.size;have hB6:=(hB3.ext' x35.2).up hu6)|(first|(with_reducible refine Vc.DrawH.lin (id:=1) mixed ?_)|(with_reducible refine Vc.DrawL.split (es:=[]) 2 5 (by decide) (by decide) (by decide) ?_ ?_)|(with_reducible refine Vc.DrawL.split (es:=[(2,5)]) 2 7 (by decide) (by decide) (by decide) ?_ ?_)|(with_reducible refine Vc.DrawL.split (es:=[(2,7),(2,5)]) 5 7 (by decide) (by decide) (by decide) ?_ ?_)|(with_reducible refine Vc.DrawL.held (es:=[(5,7),(2,7),(2,5)]) [0,1,3,4,2,5,6,7,8] [] (by decide+kernel) ?_)|(with_reducible refine Vc.DrawL.held (es:=[(7,5),(2,7),(2,5)]) [0,1,3,4,2,7,5,6,8] [] (by decide+kernel) ?_)|(with_reducible refine Vc.DrawL.held (es:=[(7,2),(2,5)]) [0,1,3,4,7,2,5,6,8] [] (by decide+kernel) ?_)|(with_reducible refine Vc.DrawL.split (es:=[(5,2)]) 5 7 (by decide) (by decide) (by decide) ?_ ?_)|(with_reducible refine Vc.DrawL.split (es:=[(5,7),(5,2)]) 2 7 (by decide) (by decide) (by decide) ?_ ?_)|(with_reducible refine Vc.DrawL.held (es:=[(2,7),(5,7),(5,2)]) [0,1,3,4,5,2,6,7,8] [] (by decide+kernel) ?_)|(with_reducible refine Vc.DrawL.held (es:=[(7,2),(5,7),(5,2)]) [0,1,3,4,5,7,2,6,8] [] (by decide+kernel) ?_)|(with_reducible refine Vc.DrawL.held (es:=[(7,5),(5,2)]) [0,1,3,4,7,5,2,6,8] [] (by decide+kernel) ?_))|((with_reducible refine Vc.DrawH.held [0,1,2,3,4,5,6,7,8,9,10,11,12,13,14,15,16,17,18,19] [(17,[8])] mixed (by decide+kernel) ?_))|refine Vc.stp ?_)<;>(intros;(conv=>whnf)))))
     exact end2 x35.2 hB6 ho6 hh6 hz6 hf6 x67 hh8 hw8 hf8 ⟨rfl,rfl,rfl,trivial⟩
   by_cases h9:k=9
   ·subst h9
    obtain⟨h0,t,hst,h07,h0i⟩:=else_head hne hk
    have eo:opF (kindsL L) i=(t.map (·.2)).reverse++[h0]:=by unfold opF;rw[hst];simp
    obtain⟨ga,rfl,hga⟩: ∃ g,a=some ⟨g,0,none⟩∧H2.size≤g:=by
     rcases ho.out with ⟨_,h0',_⟩|⟨g,_,ha,hb,_⟩
     ·rw[eo,List.length_append]at h0';simp at h0'
     ·exact⟨g,ha,hb⟩
    obtain⟨m,hm⟩: ∃ m,(opF (kindsL L) i).length=m+1:=⟨t.length,by rw[eo];simp⟩
    have hget:(opF (kindsL L) i)[m]? =some h0:=by
     rw[eo]at hm ⊢
     rw[List.length_append,List.length_singleton]at hm
     rw[List.getElem?_append_right (by omega),show m-(t.map (·.2)).reverse.length=0 by omega];rfl
    have hc0:=Own.hcell ho (nat_get hget)
    have hbj:=hB3.blk
    obtain⟨l1,l2,l3,l4⟩:=hB3.lt
    have hset:(opF (kindsL L) i).set m i=opF (kindsL L) (i+1):=by
     have e1:opF (kindsL L) (i+1)=(t.map (·.2)).reverse++[i]:=by unfold opF;rw[stF_succ hk,hst];unfold stS;rw[if_neg (by decide),if_pos rfl];simp
     rw[e1,eo]
     rw[eo,List.length_append,List.length_singleton]at hm
     rw[List.set_append_right _ _ (by omega),show m-(t.map (·.2)).reverse.length=0 by omega];rfl
    have ehs:hsF (kindsL L) (i+1)=hsF (kindsL L) i:=by unfold hsF;rw[stF_succ hk,hst];unfold stS;rw[if_neg (by decide),if_pos rfl];rfl
    have elen:(opF (kindsL L) i).length=(opF (kindsL L) (i+1)).length:=by rw[←hset,List.length_set]
    ((conv=>whnf);repeat(any_goals((first|(refine IdxA.ln (hr.ext hB3.ext) hl i x rfl hx ?_;intro _ _ hci)|((with_reducible apply SemH.load_ln);(focus((exact hci)));(focus((exact Ext.refl _)));(focus((conv=>whnf))))|(refine IdxA.at1 m (by omega) (by omega) ?_)|(refine IdxA.at1 h0 rfl (by omega) ?_)|(rename_i H4 z4 b4 k4;have x34:=And.intro trivial (show Ext H3 H4 by exact Vc.xt);refine DoH.store_own (o:=0+h0) (hB3.oth.ext x34.2) rfl rfl rfl (by omega) ?_;intro H5 z5 m5 k5;rw[Nat.zero_add,nat_set]at m5;have hB5:=(hB3.ext' x34.2).setO m5 k5;have ho5:IntS H5 H2.size (some ⟨ga,0,none⟩) ca (opF (kindsL L) i):=(ho.ext x34.2).keep k5 (fun p hp e=>by cases hp;dsimp only at e;omega))|(refine DoH.store_own (o:=0+m) ho5 rfl rfl rfl (by omega) ?_;intro H6 z6 m6 k6;rw[Nat.zero_add,nat_set,hset,elen]at m6)|(first|(with_reducible refine Vc.DrawH.lin (id:=1) mixed ?_)|(with_reducible refine Vc.DrawL.split (es:=[]) 2 5 (by decide) (by decide) (by decide) ?_ ?_)|(with_reducible refine Vc.DrawL.split (es:=[(2,5)]) 2 7 (by decide) (by decide) (by decide) ?_ ?_)|(with_reducible refine Vc.DrawL.split (es:=[(2,7),(2,5)]) 5 7 (by decide) (by decide) (by decide) ?_ ?_)|(with_reducible refine Vc.DrawL.held (es:=[(5,7),(2,7),(2,5)]) [0,1,3,4,2,5,6,7,8] [] (by decide+kernel) ?_)|(with_reducible refine Vc.DrawL.held (es:=[(7,5),(2,7),(2,5)]) [0,1,3,4,2,7,5,6,8] [] (by decide+kernel) ?_)|(with_reducible refine Vc.DrawL.held (es:=[(7,2),(2,5)]) [0,1,3,4,7,2,5,6,8] [] (by decide+kernel) ?_)|(with_reducible refine Vc.DrawL.split (es:=[(5,2)]) 5 7 (by decide) (by decide) (by decide) ?_ ?_)|(with_reducible refine Vc.DrawL.split (es:=[(5,7),(5,2)]) 2 7 (by decide) (by decide) (by decide) ?_ ?_)|(with_reducible refine Vc.DrawL.held (es:=[(2,7),(5,7),(5,2)]) [0,1,3,4,5,2,6,7,8] [] (by decide+kernel) ?_)|(with_reducible refine Vc.DrawL.held (es:=[(7,2),(5,7),(5,2)]) [0,1,3,4,5,7,2,6,8] [] (by decide+kernel) ?_)|(with_reducible refine Vc.DrawL.held (es:=[(7,5),(5,2)]) [0,1,3,4,7,5,2,6,8] [] (by decide+kernel) ?_))|((with_reducible refine Vc.DrawH.held [0,1,2,3,4,5,6,7,8,9,10,11,12,13,14,15,16,17,18,19] [(17,[8])] mixed (by decide+kernel) ?_))|refine Vc.stp ?_)<;>(intros;(conv=>whnf)))))
    have hh6:IntS H6 H2.size ah ch (hsF (kindsL L) i):=((hh.ext x34.2).keep k5 fun p hp e=>by have:=(hh.block p hp).1;omega).keep k6 fun p hp e=>hap ⟨ga,0,none⟩ p rfl hp e.symm
    refine⟨⟨i+1,some ⟨ga,0,none⟩,ca,ah,ch,O.set h0 i,Hd⟩,⟨rfl,by show Value.slice _ _ _=Value.slice _ _ _;rw[elen],by show Value.slice _ _ _=Value.slice _ _ _;rw[ehs],trivial⟩,⟨by show i+1≤n;omega,hfi.else hne hk hst h07 h0i,hB5.up (k6.mono fun b e=>by omega),m6,by dsimp only;rw[ehs];exact hh6,hap⟩,by show n-(i+1)<n-i;omega⟩
   by_cases h10:k=10
   ·subst h10
    obtain⟨h0,x0,t,hst,h0i,x0i⟩:=end_top hne hk
    have eo:opF (kindsL L) i=(t.map (·.2)).reverse++[x0]:=by unfold opF;rw[hst];simp
    have eh:hsF (kindsL L) i=(t.map (·.1)).reverse++[h0]:=by unfold hsF;rw[hst];simp
    obtain⟨ga,rfl,hga⟩: ∃ g,a=some ⟨g,0,none⟩∧H2.size≤g:=by
     rcases ho.out with ⟨_,h0',_⟩|⟨g,_,ha,hb,_⟩
     ·rw[eo,List.length_append]at h0';simp at h0'
     ·exact⟨g,ha,hb⟩
    obtain⟨gb,rfl,hgb⟩: ∃ g,ah=some ⟨g,0,none⟩∧H2.size≤g:=by
     rcases hh.out with ⟨_,h0',_⟩|⟨g,_,ha,hb,_⟩
     ·rw[eh,List.length_append]at h0';simp at h0'
     ·exact⟨g,ha,hb⟩
    obtain⟨m,hm⟩: ∃ m,t.length=m:=⟨_,rfl⟩
    have hml:(opF (kindsL L) i).length=m+1:=by rw[eo];simp[hm]
    have hmh:(hsF (kindsL L) i).length=m+1:=by rw[eh];simp[hm]
    have hg1:(opF (kindsL L) i)[m]? =some x0:=by rw[eo,List.getElem?_append_right (by simp;omega)];simp[hm]
    have hg2:(hsF (kindsL L) i)[m]? =some h0:=by rw[eh,List.getElem?_append_right (by simp;omega)];simp[hm]
    have hc0:=Own.hcell ho (nat_get hg1)
    have hc1:=Own.hcell hh (nat_get hg2)
    have hbj:=hB3.blk
    obtain⟨l1,l2,l3,l4⟩:=hB3.lt
    obtain⟨n1,n2,n3,n4,n5,n6⟩:=hB3.ne
    have hca:=ho.cap_le
    have hcb:=hh.cap_le
    have e1:opF (kindsL L) (i+1)=(opF (kindsL L) i).take m:=by
     have:opF (kindsL L) (i+1)=(t.map (·.2)).reverse:=by unfold opF;rw[stF_succ hk,hst];unfold stS;rw[if_neg (by decide),if_neg (by decide),if_pos rfl];rfl
     rw[this,eo,List.take_left' (by simp[hm])]
    have e2:hsF (kindsL L) (i+1)=(hsF (kindsL L) i).take m:=by
     have:hsF (kindsL L) (i+1)=(t.map (·.1)).reverse:=by unfold hsF;rw[stF_succ hk,hst];unfold stS;rw[if_neg (by decide),if_neg (by decide),if_pos rfl];rfl
     rw[this,eh,List.take_left' (by simp[hm])]
    ((conv=>whnf);repeat(any_goals((first|(refine IdxA.ln (hr.ext hB3.ext) hl i x rfl hx ?_;intro _ _ hci)|((with_reducible apply SemH.load_ln);(focus((exact hci)));(focus((exact Ext.refl _)));(focus((conv=>whnf))))|(refine IdxA.at1 m (by omega) (by omega) ?_)|(refine IdxA.at1 x0 rfl (by omega) ?_)|(refine IdxA.at1 i rfl (by omega) ?_)|(have:=m5;refine DoH.store_own (o:=0+i) hB5.hds rfl rfl rfl (by omega) ?_;intro H6 z6 m6 k6;rw[Nat.zero_add,nat_set]at m6;have hB6:=hB5.setH m6 k6)|(rename_i H4 z4 b4 k4;have x34:=And.intro trivial (show Ext H3 H4 by exact Vc.xt);refine DoH.store_own (o:=0+x0) (hB3.oth.ext x34.2) rfl rfl rfl (by omega) ?_;intro H5 z5 m5 k5;rw[Nat.zero_add,nat_set]at m5;have hB5:=(hB3.ext' x34.2).setO m5 k5;have ho5:IntS H5 H2.size (some ⟨ga,0,none⟩) ca (opF (kindsL L) i):=(ho.ext x34.2).keep k5 (fun p hp e=>by cases hp;dsimp only at e;omega))|(refine BndH.nat m (by omega) (by omega) ?_)|(first|(with_reducible refine Vc.DrawH.lin (id:=1) mixed ?_)|(with_reducible refine Vc.DrawL.split (es:=[]) 2 5 (by decide) (by decide) (by decide) ?_ ?_)|(with_reducible refine Vc.DrawL.split (es:=[(2,5)]) 2 7 (by decide) (by decide) (by decide) ?_ ?_)|(with_reducible refine Vc.DrawL.split (es:=[(2,7),(2,5)]) 5 7 (by decide) (by decide) (by decide) ?_ ?_)|(with_reducible refine Vc.DrawL.held (es:=[(5,7),(2,7),(2,5)]) [0,1,3,4,2,5,6,7,8] [] (by decide+kernel) ?_)|(with_reducible refine Vc.DrawL.held (es:=[(7,5),(2,7),(2,5)]) [0,1,3,4,2,7,5,6,8] [] (by decide+kernel) ?_)|(with_reducible refine Vc.DrawL.held (es:=[(7,2),(2,5)]) [0,1,3,4,7,2,5,6,8] [] (by decide+kernel) ?_)|(with_reducible refine Vc.DrawL.split (es:=[(5,2)]) 5 7 (by decide) (by decide) (by decide) ?_ ?_)|(with_reducible refine Vc.DrawL.split (es:=[(5,7),(5,2)]) 2 7 (by decide) (by decide) (by decide) ?_ ?_)|(with_reducible refine Vc.DrawL.held (es:=[(2,7),(5,7),(5,2)]) [0,1,3,4,5,2,6,7,8] [] (by decide+kernel) ?_)|(with_reducible refine Vc.DrawL.held (es:=[(7,2),(5,7),(5,2)]) [0,1,3,4,5,7,2,6,8] [] (by decide+kernel) ?_)|(with_reducible refine Vc.DrawL.held (es:=[(7,5),(5,2)]) [0,1,3,4,7,5,2,6,8] [] (by decide+kernel) ?_))|((with_reducible refine Vc.DrawH.held [0,1,2,3,4,5,6,7,8,9,10,11,12,13,14,15,16,17,18,19] [(17,[8])] mixed (by decide+kernel) ?_))|refine Vc.stp ?_)<;>(intros;(conv=>whnf)))))
    have ho6:IntS H6 H2.size (some ⟨ga,0,none⟩) ca (opF (kindsL L) (i+1)):=by
     have:=(ho5.keep k6 fun p hp e=>by cases hp;dsimp only at e;omega).cut m (by omega)
     rw[Nat.mul_one]at this
     have el:(opF (kindsL L) (i+1)).length=m:=by rw[e1,List.length_take];omega
     show Own _ _ _ 1 _ (opF (kindsL L) (i+1)).length _ _
     rw[el,e1];unfold natV;rw[List.map_take];exact this
    have hh6:IntS H6 H2.size (some ⟨gb,0,none⟩) ch (hsF (kindsL L) (i+1)):=by
     have:=(((hh.ext x34.2).keep k5 fun p hp e=>by cases hp;dsimp only at e;omega).keep k6 fun p hp e=>by cases hp;dsimp only at e;omega).cut m (by omega)
     rw[Nat.mul_one]at this
     have el:(hsF (kindsL L) (i+1)).length=m:=by rw[e2,List.length_take];omega
     show Own _ _ _ 1 _ (hsF (kindsL L) (i+1)).length _ _
     rw[el,e2];unfold natV;rw[List.map_take];exact this
    have el1:(opF (kindsL L) (i+1)).length=m:=by rw[e1,List.length_take];omega
    have el2:(hsF (kindsL L) (i+1)).length=m:=by rw[e2,List.length_take];omega
    exact⟨⟨i+1,some ⟨ga,0,none⟩,ca,some ⟨gb,0,none⟩,ch,O.set x0 i,Hd.set i h0⟩,⟨rfl,by show Value.slice _ _ _=Value.slice _ _ _;rw[el1],by show Value.slice _ _ _=Value.slice _ _ _;rw[el2],trivial⟩,⟨by show i+1≤n;omega,hfi.end hne hk hst,hB6,ho6,hh6,hap⟩,by show n-(i+1)<n-i;omega⟩
   have eo:opF (kindsL L) (i+1)=opF (kindsL L) i:=by unfold opF;rw[stF_succ hk];unfold stS;rw[if_neg h78,if_neg h9,if_neg h10]
   have eh:hsF (kindsL L) (i+1)=hsF (kindsL L) i:=by unfold hsF;rw[stF_succ hk];unfold stS;rw[if_neg h78,if_neg h9,if_neg h10]
   ((conv=>whnf);repeat(any_goals((first|(refine IdxA.ln (hr.ext hB3.ext) hl i x rfl hx ?_;intro _ _ hci)|((with_reducible apply SemH.load_ln);(focus((exact hci)));(focus((exact Ext.refl _)));(focus((conv=>whnf))))|(first|(with_reducible refine Vc.DrawH.lin (id:=1) mixed ?_)|(with_reducible refine Vc.DrawL.split (es:=[]) 2 5 (by decide) (by decide) (by decide) ?_ ?_)|(with_reducible refine Vc.DrawL.split (es:=[(2,5)]) 2 7 (by decide) (by decide) (by decide) ?_ ?_)|(with_reducible refine Vc.DrawL.split (es:=[(2,7),(2,5)]) 5 7 (by decide) (by decide) (by decide) ?_ ?_)|(with_reducible refine Vc.DrawL.held (es:=[(5,7),(2,7),(2,5)]) [0,1,3,4,2,5,6,7,8] [] (by decide+kernel) ?_)|(with_reducible refine Vc.DrawL.held (es:=[(7,5),(2,7),(2,5)]) [0,1,3,4,2,7,5,6,8] [] (by decide+kernel) ?_)|(with_reducible refine Vc.DrawL.held (es:=[(7,2),(2,5)]) [0,1,3,4,7,2,5,6,8] [] (by decide+kernel) ?_)|(with_reducible refine Vc.DrawL.split (es:=[(5,2)]) 5 7 (by decide) (by decide) (by decide) ?_ ?_)|(with_reducible refine Vc.DrawL.split (es:=[(5,7),(5,2)]) 2 7 (by decide) (by decide) (by decide) ?_ ?_)|(with_reducible refine Vc.DrawL.held (es:=[(2,7),(5,7),(5,2)]) [0,1,3,4,5,2,6,7,8] [] (by decide+kernel) ?_)|(with_reducible refine Vc.DrawL.held (es:=[(7,2),(5,7),(5,2)]) [0,1,3,4,5,7,2,6,8] [] (by decide+kernel) ?_)|(with_reducible refine Vc.DrawL.held (es:=[(7,5),(5,2)]) [0,1,3,4,7,5,2,6,8] [] (by decide+kernel) ?_))|((with_reducible refine Vc.DrawH.held [0,1,2,3,4,5,6,7,8,9,10,11,12,13,14,15,16,17,18,19] [(17,[8])] mixed (by decide+kernel) ?_))|refine Vc.stp ?_)<;>(intros;(conv=>whnf)))))
   rename_i H4 z4 b4 k4
   have x34:Ext H3 H4:=by exact Vc.xt
   exact⟨⟨i+1,a,ca,ah,ch,O,Hd⟩,⟨rfl,by show Value.slice _ _ _=Value.slice _ _ _;rw[eo],by show Value.slice _ _ _=Value.slice _ _ _;rw[eh],trivial⟩,⟨by show i+1≤n;omega,hfi.other hk h78 h9 h10,hB3.ext' x34,by dsimp only;rw[eo];exact ho.ext x34,by dsimp only;rw[eh];exact hh.ext x34,hap⟩,by show n-(i+1)<n-i;omega⟩
  ·obtain rfl:i=n:=by omega
   have hi1:=hB3.res
   have hi2:=hB3.blk
   obtain⟨l1,l2,l3,l4⟩:=hB3.lt
   have n2':=hB3.ne.2.1
   ((conv=>whnf);repeat(any_goals((first|(first|(with_reducible refine Vc.DrawH.lin (id:=1) mixed ?_)|(with_reducible refine Vc.DrawL.split (es:=[]) 2 5 (by decide) (by decide) (by decide) ?_ ?_)|(with_reducible refine Vc.DrawL.split (es:=[(2,5)]) 2 7 (by decide) (by decide) (by decide) ?_ ?_)|(with_reducible refine Vc.DrawL.split (es:=[(2,7),(2,5)]) 5 7 (by decide) (by decide) (by decide) ?_ ?_)|(with_reducible refine Vc.DrawL.held (es:=[(5,7),(2,7),(2,5)]) [0,1,3,4,2,5,6,7,8] [] (by decide+kernel) ?_)|(with_reducible refine Vc.DrawL.held (es:=[(7,5),(2,7),(2,5)]) [0,1,3,4,2,7,5,6,8] [] (by decide+kernel) ?_)|(with_reducible refine Vc.DrawL.held (es:=[(7,2),(2,5)]) [0,1,3,4,7,2,5,6,8] [] (by decide+kernel) ?_)|(with_reducible refine Vc.DrawL.split (es:=[(5,2)]) 5 7 (by decide) (by decide) (by decide) ?_ ?_)|(with_reducible refine Vc.DrawL.split (es:=[(5,7),(5,2)]) 2 7 (by decide) (by decide) (by decide) ?_ ?_)|(with_reducible refine Vc.DrawL.held (es:=[(2,7),(5,7),(5,2)]) [0,1,3,4,5,2,6,7,8] [] (by decide+kernel) ?_)|(with_reducible refine Vc.DrawL.held (es:=[(7,2),(5,7),(5,2)]) [0,1,3,4,5,7,2,6,8] [] (by decide+kernel) ?_)|(with_reducible refine Vc.DrawL.held (es:=[(7,5),(5,2)]) [0,1,3,4,7,5,2,6,8] [] (by decide+kernel) ?_))|((with_reducible refine Vc.DrawH.held [0,1,2,3,4,5,6,7,8,9,10,11,12,13,14,15,16,17,18,19] [(17,[8])] mixed (by decide+kernel) ?_))|refine Vc.stp ?_)<;>(intros;(conv=>whnf)))))
   rename_i H4 z4 b4 k4
   obtain⟨n1,n2,n3,n4,n5,n6⟩:=hB3.ne
   exact⟨⟨go,gh,O,Hd,rfl,Tab.but hB3.oth k4 n3.symm,Tab.but hB3.hds k4 n4.symm,FindI.done hne (by rw[hkl];exact hfi)⟩,hB3.ext.but k4 (Nat.le_refl _)⟩
end Go.Proofs.YtphkaogbcfdllaaGreatDoor
namespace Go.Proofs.YtphkaogbcfdllaaGreatDoor
open Go Go.Vc Go.Scr Go.RowKit
end Go.Proofs.YtphkaogbcfdllaaGreatDoor
namespace Go.Proofs
open Go.Shelf
def Tryz.laysM171_ren:Go.Shelf.Ren:=⟨fun|171=>63|243=>118|246=>169|283=>208|284=>209|285=>210|286=>211|129=>191|317=>245|318=>246|319=>247|320=>248|337=>271|338=>272|n=>n,fun|3=>3|9=>9|2=>2|4=>4|171=>303|0=>0|53=>187|37=>33|5=>5|173=>305|212=>353|51=>234|20=>20|213=>354|46=>226|232=>84|233=>374|n=>n,fun|17=>1|18=>3|19=>4|n=>n⟩
theorem Tryz.laysM171:Go.Proofs.LaysM.n171 Tryz.prog Tryz.laysM171_ren:={
 mixed:=by kernel_rfl
 f129:=Tryz.func191.trans (congrArg some (by kernel_rfl))
 f171:=Tryz.func63.trans (congrArg some (by kernel_rfl))
 f243:=Tryz.func118.trans (congrArg some (by kernel_rfl))
 f246:=Tryz.func169.trans (congrArg some (by kernel_rfl))
 f283:=Tryz.func208.trans (congrArg some (by kernel_rfl))
 f284:=Tryz.func209.trans (congrArg some (by kernel_rfl))
 f285:=Tryz.func210.trans (congrArg some (by kernel_rfl))
 f286:=Tryz.func211.trans (congrArg some (by kernel_rfl))
 f317:=Tryz.func245.trans (congrArg some (by kernel_rfl))
 f318:=Tryz.func246.trans (congrArg some (by kernel_rfl))
 f319:=Tryz.func247.trans (congrArg some (by kernel_rfl))
 f320:=Tryz.func248.trans (congrArg some (by kernel_rfl))
 f337:=Tryz.func271.trans (congrArg some (by kernel_rfl))
 f338:=Tryz.func272.trans (congrArg some (by kernel_rfl))
 t0:=Tryz.underlying0
 a0:=Tryz.isAgg0
 z0:=Tryz.sizeOf0
 v0:=Tryz.zeroValue0
 t2:=Tryz.underlying2
 a2:=Tryz.isAgg2
 z2:=Tryz.sizeOf2
 v2:=Tryz.zeroValue2
 t3:=Tryz.underlying3
 a3:=Tryz.isAgg3
 z3:=Tryz.sizeOf3
 v3:=Tryz.zeroValue3
 t4:=Tryz.underlying4
 a4:=Tryz.isAgg4
 z4:=Tryz.sizeOf4
 v4:=Tryz.zeroValue4
 t5:=Tryz.underlying5
 a5:=Tryz.isAgg5
 z5:=Tryz.sizeOf5
 v5:=Tryz.zeroValue5
 t9:=Tryz.underlying9
 a9:=Tryz.isAgg9
 z9:=Tryz.sizeOf9
 v9:=Tryz.zeroValue9
 t20:=Tryz.underlying20
 a20:=Tryz.isAgg20
 z20:=Tryz.sizeOf20
 v20:=Tryz.zeroValue20
 t37:=Tryz.underlying33
 a37:=Tryz.isAgg33
 z37:=Tryz.sizeOf33
 v37:=Tryz.zeroValue33
 t46:=Tryz.underlying226
 a46:=Tryz.isAgg226
 z46:=Tryz.sizeOf226
 v46:=Tryz.zeroValue226
 t51:=Tryz.underlying234
 a51:=Tryz.isAgg234
 z51:=Tryz.sizeOf234
 v51:=Tryz.zeroValue234
 t53:=Tryz.underlying187
 a53:=Tryz.isAgg187
 z53:=Tryz.sizeOf187
 v53:=Tryz.zeroValue187
 t171:=Tryz.underlying303
 a171:=Tryz.isAgg303
 z171:=Tryz.sizeOf303
 v171:=Tryz.zeroValue303
 t173:=Tryz.underlying305
 a173:=Tryz.isAgg305
 z173:=Tryz.sizeOf305
 v173:=Tryz.zeroValue305
 t212:=Tryz.underlying353
 a212:=Tryz.isAgg353
 z212:=Tryz.sizeOf353
 v212:=Tryz.zeroValue353
 t213:=Tryz.underlying354
 a213:=Tryz.isAgg354
 z213:=Tryz.sizeOf354
 t232:=Tryz.underlying84
 a232:=Tryz.isAgg84
 z232:=Tryz.sizeOf84
 v232:=Tryz.zeroValue84
 t233:=Tryz.underlying374
 a233:=Tryz.isAgg374
 z233:=Tryz.sizeOf374
 v233:=Tryz.zeroValue374
 g17:=by kernel_rfl
 g18:=by kernel_rfl
 g19:=by kernel_rfl
 i0:=by kernel_rfl
 i2:=by kernel_rfl
 i3:=by kernel_rfl
 i4:=by kernel_rfl
 i5:=by kernel_rfl
 i9:=by kernel_rfl
 i20:=by kernel_rfl
 i37:=by kernel_rfl
 i46:=by kernel_rfl
 i51:=by kernel_rfl
 i53:=by kernel_rfl
 i171:=by kernel_rfl
 i173:=by kernel_rfl
 i212:=by kernel_rfl
 i232:=by kernel_rfl
 i233:=by kernel_rfl
 m17:=by kernel_rfl
 m18:=by kernel_rfl
 m19:=by kernel_rfl}
open Go.RowKit Go.Sort Go.Lib in
theorem Tryz.strconv_Itoa (n:Int) (h0: -9223372036854775808≤n) (h1:n≤9223372036854775807) (w:World) (htab:Lib.TabIs Tryz.prog w "internal/strconv.uint64pow10" .u64 Lib.pow10Tab):
  Calls Tryz.prog 63 #[.int .i64 n] w fun e w'=>e= .returned (.string ⟨(Lib.itoa n).toArray⟩)∧ ∃ k os,w'=grow (w.drewN k) os:=Any.strconv_Itoa Tryz.laysM171 n h0 h1 w htab
end Go.Proofs
namespace Go.Vc
variable {P:Program} {H H':Heap}
theorem NextH.method {v:Value} {name:String} {vs:Array Value} {f:FuncId} {args:List Value} {K:Value→Heap→Prop} (hm: ∀ w,(callMethod v name vs).run P w=(callFunc f args.toArray).run P w) (h:CallH P f args H K):NextH P (callMethod v name vs) H K:=
 ⟨fun w hw=>by rw[hm];exact h.out w hw⟩
end Go.Vc
namespace Go.Proofs.YtphkaogbcfdllaaGreatDoor
open Go Go.Vc Go.RowKit
theorem ta_e_f {n:Int} {K:Value→Prop} (hk:K (.tuple #[.pointer none,.bool false])):PureH Tryz.prog (Instr.typeAssert (.iface 34 (.int .i64 n)) 30 208 true) K:=⟨⟨_,fun w=>by kernel_rfl,hk⟩⟩
theorem ta_e_e {n:Int} {K:Value→Prop} (hk:K (.tuple #[.int .i64 n,.bool true])):PureH Tryz.prog (Instr.typeAssert (.iface 34 (.int .i64 n)) 30 34 true) K:=⟨⟨_,fun w=>by kernel_rfl,hk⟩⟩
theorem ta_e_j {n:Int} {K:Value→Prop} (hk:K (.tuple #[.pointer none,.bool false])):PureH Tryz.prog (Instr.typeAssert (.iface 34 (.int .i64 n)) 30 220 true) K:=⟨⟨_,fun w=>by kernel_rfl,hk⟩⟩
theorem ta_e_u {n:Int} {K:Value→Prop} (hk:K (.tuple #[.nilIface,.bool false])):PureH Tryz.prog (Instr.typeAssert (.iface 34 (.int .i64 n)) 30 326 true) K:=⟨⟨_,fun w=>run_typeAssert_lacksB Tryz.underlying326 (by kernel_rfl) (by kernel_rfl) _ _ w,hk⟩⟩
theorem ta_e_w {n:Int} {K:Value→Prop} (hk:K (.tuple #[.nilIface,.bool false])):PureH Tryz.prog (Instr.typeAssert (.iface 34 (.int .i64 n)) 30 328 true) K:=⟨⟨_,fun w=>run_typeAssert_lacksB Tryz.underlying328 (by kernel_rfl) (by kernel_rfl) _ _ w,hk⟩⟩
theorem ta_e_a {n:Int} {K:Value→Prop} (hk:K (.tuple #[.nilIface,.bool false])):PureH Tryz.prog (Instr.typeAssert (.iface 34 (.int .i64 n)) 30 323 true) K:=⟨⟨_,fun w=>run_typeAssert_lacksB Tryz.underlying323 (by kernel_rfl) (by kernel_rfl) _ _ w,hk⟩⟩
theorem ta_f_f {p:Option Addr} {K:Value→Prop} (hk:K (.tuple #[.pointer p,.bool true])):PureH Tryz.prog (Instr.typeAssert (.iface 208 (.pointer p)) 30 208 true) K:=⟨⟨_,fun w=>by kernel_rfl,hk⟩⟩
theorem ta_f_e {p:Option Addr} {K:Value→Prop} (hk:K (.tuple #[.int .i64 0,.bool false])):PureH Tryz.prog (Instr.typeAssert (.iface 208 (.pointer p)) 30 34 true) K:=⟨⟨_,fun w=>by kernel_rfl,hk⟩⟩
theorem ta_f_j {p:Option Addr} {K:Value→Prop} (hk:K (.tuple #[.pointer none,.bool false])):PureH Tryz.prog (Instr.typeAssert (.iface 208 (.pointer p)) 30 220 true) K:=⟨⟨_,fun w=>by kernel_rfl,hk⟩⟩
theorem ta_f_u {p:Option Addr} {K:Value→Prop} (hk:K (.tuple #[.iface 208 (.pointer p),.bool true])):PureH Tryz.prog (Instr.typeAssert (.iface 208 (.pointer p)) 30 326 true) K:=⟨⟨_,fun w=>by kernel_rfl,hk⟩⟩
theorem ta_f_w {p:Option Addr} {K:Value→Prop} (hk:K (.tuple #[.nilIface,.bool false])):PureH Tryz.prog (Instr.typeAssert (.iface 208 (.pointer p)) 30 328 true) K:=⟨⟨_,fun w=>run_typeAssert_lacksB Tryz.underlying328 (by kernel_rfl) (by kernel_rfl) _ _ w,hk⟩⟩
theorem ta_f_a {p:Option Addr} {K:Value→Prop} (hk:K (.tuple #[.nilIface,.bool false])):PureH Tryz.prog (Instr.typeAssert (.iface 208 (.pointer p)) 30 323 true) K:=⟨⟨_,fun w=>run_typeAssert_lacksB Tryz.underlying323 (by kernel_rfl) (by kernel_rfl) _ _ w,hk⟩⟩
theorem ta_j_f {p:Option Addr} {K:Value→Prop} (hk:K (.tuple #[.pointer none,.bool false])):PureH Tryz.prog (Instr.typeAssert (.iface 220 (.pointer p)) 30 208 true) K:=⟨⟨_,fun w=>by kernel_rfl,hk⟩⟩
theorem ta_j_e {p:Option Addr} {K:Value→Prop} (hk:K (.tuple #[.int .i64 0,.bool false])):PureH Tryz.prog (Instr.typeAssert (.iface 220 (.pointer p)) 30 34 true) K:=⟨⟨_,fun w=>by kernel_rfl,hk⟩⟩
theorem ta_j_j {p:Option Addr} {K:Value→Prop} (hk:K (.tuple #[.pointer p,.bool true])):PureH Tryz.prog (Instr.typeAssert (.iface 220 (.pointer p)) 30 220 true) K:=⟨⟨_,fun w=>by kernel_rfl,hk⟩⟩
theorem ta_j_u {p:Option Addr} {K:Value→Prop} (hk:K (.tuple #[.nilIface,.bool false])):PureH Tryz.prog (Instr.typeAssert (.iface 220 (.pointer p)) 30 326 true) K:=⟨⟨_,fun w=>run_typeAssert_lacksB Tryz.underlying326 (by kernel_rfl) (by kernel_rfl) _ _ w,hk⟩⟩
theorem ta_j_w {p:Option Addr} {K:Value→Prop} (hk:K (.tuple #[.iface 220 (.pointer p),.bool true])):PureH Tryz.prog (Instr.typeAssert (.iface 220 (.pointer p)) 30 328 true) K:=⟨⟨_,fun w=>by kernel_rfl,hk⟩⟩
theorem ta_j_a {p:Option Addr} {K:Value→Prop} (hk:K (.tuple #[.nilIface,.bool false])):PureH Tryz.prog (Instr.typeAssert (.iface 220 (.pointer p)) 30 323 true) K:=⟨⟨_,fun w=>run_typeAssert_lacksB Tryz.underlying323 (by kernel_rfl) (by kernel_rfl) _ _ w,hk⟩⟩
theorem unwrap_f (p:Option Addr) (w:World):(callMethod (.iface 208 (.pointer p)) "Unwrap" #[]).run Tryz.prog w=(callFunc 311 [.pointer p].toArray).run Tryz.prog w:=by kernel_rfl
theorem unwrap_j (p:Option Addr) (w:World):(callMethod (.iface 220 (.pointer p)) "Unwrap" #[]).run Tryz.prog w=(callFunc 312 [.pointer p].toArray).run Tryz.prog w:=by kernel_rfl
theorem eq_ee {n m:Int} {ox oy:Operand} {K:Value→Prop} (hk:K (.bool (n==m))):PureH Tryz.prog (do eqGuard .eql 30 ox oy (.iface 34 (.int .i64 n)) (.iface 34 (.int .i64 m));binOp .eql 30 (.iface 34 (.int .i64 n)) (.iface 34 (.int .i64 m))) K:=⟨⟨_,fun w=>by kernel_rfl,hk⟩⟩
theorem eq_fe {p:Option Addr} {m:Int} {ox oy:Operand} {K:Value→Prop} (hk:K (.bool false)):PureH Tryz.prog (do eqGuard .eql 30 ox oy (.iface 208 (.pointer p)) (.iface 34 (.int .i64 m));binOp .eql 30 (.iface 208 (.pointer p)) (.iface 34 (.int .i64 m))) K:=⟨⟨_,fun w=>by kernel_rfl,hk⟩⟩
theorem eq_je {p:Option Addr} {m:Int} {ox oy:Operand} {K:Value→Prop} (hk:K (.bool false)):PureH Tryz.prog (do eqGuard .eql 30 ox oy (.iface 220 (.pointer p)) (.iface 34 (.int .i64 m));binOp .eql 30 (.iface 220 (.pointer p)) (.iface 34 (.int .i64 m))) K:=⟨⟨_,fun w=>by kernel_rfl,hk⟩⟩
abbrev Chain:=List (Bs×Bs)
def WrV (H:Heap):Chain→(Value→Prop)→Value→Prop
 |[],P,v=>P v
 |x::ws,P,v=>∃ g v',v= .iface 208 (.pointer (some ⟨g,0,none⟩))∧Blk H g #[.string (mkS x.1),.string (mkS x.2),v'] 210∧WrV H ws P v'
def NumV (n:Int) (v:Value):Prop:=v= .iface 34 (.int .i64 n)
inductive Bas
 |num (n:Int)
 |join (l:List (Chain×Int))
def BasV (H:Heap):Bas→Value→Prop
 | .num n,v=>NumV n v
 | .join l,v=>∃ g a cap vs,v= .iface 220 (.pointer (some ⟨g,0,none⟩))∧Blk H g #[.slice a l.length cap] 223∧l.length≤cap∧Row H a vs∧vs.length=l.length∧ ∀ (i:Nat) c v,l[i]? =some c→vs[i]? =some v→WrV H c.1 (NumV c.2) v
theorem WrV.mono {H H':Heap} {P P':Value→Prop} (k:Ext H H') (hP: ∀ v,P v→P' v): ∀ (ws:Chain) (v:Value),WrV H ws P v→WrV H' ws P' v
 |[],v,h=>hP v h
 |x::ws,v,⟨g,v',h1,h2,h3⟩=>⟨g,v',h1,h2.ext k,WrV.mono k hP ws v' h3⟩
theorem BasV.ext {H H':Heap} (k:Ext H H'): ∀ (b:Bas) (v:Value),BasV H b v→BasV H' b v
 | .num n,v,h=>h
 | .join l,v,⟨g,a,cap,vs,h1,h2,h3,h4,h5,h6⟩=>⟨g,a,cap,vs,h1,h2.ext k,h3,h4.ext k,h5,fun i c v hc hv=>WrV.mono k (fun _ h=>h) _ _ (h6 i c v hc hv)⟩
abbrev ErV (H:Heap) (ws:Chain) (b:Bas) (v:Value):Prop:=WrV H ws (BasV H b) v
theorem ErV.ext {H H':Heap} {ws:Chain} {b:Bas} {v:Value} (h:ErV H ws b v) (k:Ext H H'):ErV H' ws b v:=WrV.mono k (BasV.ext k b) ws v h
theorem none_num (n:Int) (H:Heap):CallH Tryz.prog 117 [.iface 34 (.int .i64 n)] H fun v H'=>v= .bool (n==0)∧H=H':=by
 refine Vc.CallH.body Tryz.func117 Tryz.call117 rfl (by decide+kernel) rfl ?_
 ((conv=>whnf);repeat(any_goals((first|(with_reducible apply ta_e_f)|(with_reducible apply ta_e_e)|(with_reducible apply ta_e_j)|(with_reducible apply ta_e_i)|(with_reducible apply ta_e_u)|(with_reducible apply ta_e_w)|(with_reducible apply ta_e_a)|(with_reducible apply ta_f_f)|(with_reducible apply ta_f_e)|(with_reducible apply ta_f_j)|(with_reducible apply ta_f_i)|(with_reducible apply ta_f_u)|(with_reducible apply ta_f_w)|(with_reducible apply ta_f_a)|(with_reducible apply ta_j_f)|(with_reducible apply ta_j_e)|(with_reducible apply ta_j_j)|(with_reducible apply ta_j_i)|(with_reducible apply ta_j_u)|(with_reducible apply ta_j_w)|(with_reducible apply ta_j_a)|refine Vc.stp ?_|refine Vc.spl ?_ ?_)<;>(intros;(conv=>whnf)))))
 exact⟨rfl,rfl⟩
theorem none_f (p:Option Addr) (H:Heap):CallH Tryz.prog 117 [.iface 208 (.pointer p)] H fun v H'=>v= .bool false∧H=H':=by
 refine Vc.CallH.body Tryz.func117 Tryz.call117 rfl (by decide+kernel) rfl ?_
 ((conv=>whnf);repeat(any_goals((first|(with_reducible apply ta_e_f)|(with_reducible apply ta_e_e)|(with_reducible apply ta_e_j)|(with_reducible apply ta_e_i)|(with_reducible apply ta_e_u)|(with_reducible apply ta_e_w)|(with_reducible apply ta_e_a)|(with_reducible apply ta_f_f)|(with_reducible apply ta_f_e)|(with_reducible apply ta_f_j)|(with_reducible apply ta_f_i)|(with_reducible apply ta_f_u)|(with_reducible apply ta_f_w)|(with_reducible apply ta_f_a)|(with_reducible apply ta_j_f)|(with_reducible apply ta_j_e)|(with_reducible apply ta_j_j)|(with_reducible apply ta_j_i)|(with_reducible apply ta_j_u)|(with_reducible apply ta_j_w)|(with_reducible apply ta_j_a)|refine Vc.stp ?_|refine Vc.spl ?_ ?_)<;>(intros;(conv=>whnf)))))
 exact⟨rfl,rfl⟩
theorem none_j (p:Option Addr) (H:Heap):CallH Tryz.prog 117 [.iface 220 (.pointer p)] H fun v H'=>v= .bool false∧H=H':=by
 refine Vc.CallH.body Tryz.func117 Tryz.call117 rfl (by decide+kernel) rfl ?_
 ((conv=>whnf);repeat(any_goals((first|(with_reducible apply ta_e_f)|(with_reducible apply ta_e_e)|(with_reducible apply ta_e_j)|(with_reducible apply ta_e_i)|(with_reducible apply ta_e_u)|(with_reducible apply ta_e_w)|(with_reducible apply ta_e_a)|(with_reducible apply ta_f_f)|(with_reducible apply ta_f_e)|(with_reducible apply ta_f_j)|(with_reducible apply ta_f_i)|(with_reducible apply ta_f_u)|(with_reducible apply ta_f_w)|(with_reducible apply ta_f_a)|(with_reducible apply ta_j_f)|(with_reducible apply ta_j_e)|(with_reducible apply ta_j_j)|(with_reducible apply ta_j_i)|(with_reducible apply ta_j_u)|(with_reducible apply ta_j_w)|(with_reducible apply ta_j_a)|refine Vc.stp ?_|refine Vc.spl ?_ ?_)<;>(intros;(conv=>whnf)))))
 exact⟨rfl,rfl⟩
def noneB:Chain→Bas→Bool
 |[],.num n=>n==0
 |_,_=>false
theorem none_any {H:Heap} {ws:Chain} {b:Bas} {v:Value} (h:ErV H ws b v):CallH Tryz.prog 117 [v] H fun u H'=>u= .bool (noneB ws b)∧H=H':=by
 match ws,b,h with
 |[],.num n,h=>obtain rfl:=h;exact none_num n H
 |[],.join l,h=>obtain⟨g,a,cap,vs,rfl,_⟩:=h;exact none_j _ H
 |x::ws,.num n,h=>obtain⟨g,v',rfl,_⟩:=h;exact none_f _ H
 |x::ws,.join l,h=>obtain⟨g,v',rfl,_⟩:=h;exact none_f _ H
theorem ErV.iface {H:Heap} {ws:Chain} {b:Bas} {v:Value} (h:ErV H ws b v): ∃ t x,v= .iface t x:=by
 match ws,b,h with
 |[],.num n,h=>exact⟨_,_,h⟩
 |[],.join l,h=>obtain⟨g,a,cap,vs,rfl,_⟩:=h;exact⟨_,_,rfl⟩
 |x::ws,_,h=>obtain⟨g,v',rfl,_⟩:=h;exact⟨_,_,rfl⟩
theorem wrap_any (op nm:Bs) {H:Heap} {ws:Chain} {b:Bas} {v:Value} (h:ErV H ws b v):CallH Tryz.prog 62 [.string (mkS op),.string (mkS nm),v] H fun u H'=>(if noneB ws b then u= .nilIface else ErV H' ((op,nm)::ws) b u)∧Ext H H':=by
 have hn:=fun H' (k:Ext H H')=>none_any (h.ext k)
 obtain⟨ty,pl,rfl⟩:=h.iface
 cases hb:noneB ws b with
 |true=>
  rw[hb]at hn
  refine Vc.CallH.body Tryz.func62 Tryz.call62 rfl (by decide+kernel) rfl ?_
  ((conv=>whnf);repeat(any_goals((first|(refine(hn _ (by exact Vc.xt)).mono ?_;rintro _ _ ⟨rfl,rfl⟩)|refine Vc.stp ?_|refine Vc.spl ?_ ?_)<;>(intros;(conv=>whnf)))))
  exact⟨rfl,Ext.refl _⟩
 |false=>
  rw[hb]at hn
  refine Vc.CallH.body Tryz.func62 Tryz.call62 rfl (by decide+kernel) rfl ?_
  ((conv=>whnf);repeat(any_goals((first|(refine(hn _ (by exact Vc.xt)).mono ?_;rintro _ _ ⟨rfl,rfl⟩)|(refine PureH.build #[.string (mkS op),.string (mkS nm),.iface ty pl] (by kernel_rfl) ?_)|refine Vc.stp ?_|refine Vc.spl ?_ ?_)<;>(intros;(conv=>whnf)))))
  rename_i H1 hs1 hb1 hx1
  exact⟨⟨_,_,rfl,hb1,h.ext hx1⟩,hx1⟩
end Go.Proofs.YtphkaogbcfdllaaGreatDoor
namespace Go.Proofs.YtphkaogbcfdllaaGreatDoor
open Go Go.Vc Go.RowKit Go.Sort
structure Glb (H:Heap):Prop where
 et:hcell H ⟨0,0,none⟩=some (.iface 318 (.agg #[.pointer (some ⟨7,30,none⟩)]))
 tab: ∃ t fr,H[1]? =some (.cells (Lib.pow10Tab.map fun z=>Value.int .u64 z).toArray t fr)
theorem Glb.ext {H H':Heap} (h:Glb H) (k:Ext H H'):Glb H':=by
 refine⟨hcell_keep h.et k id,?_⟩
 obtain⟨t,fr,h1⟩:=h.tab
 exact⟨t,fr,by rw[k.same 1 (Array.getElem?_eq_some_iff.1 h1).1 id];exact h1⟩
theorem grow_drewN (w:World) (k:Nat) (os:Array Obj):Same w (grow (w.drewN k) os)∧Ext w.heap (grow (w.drewN k) os).heap:=by
 have h:(w.drewN k).heap=w.heap∧(w.drewN k).os=w.os∧(w.drewN k).tape=w.tape∧(w.drewN k).output=w.output:=⟨rfl,rfl,rfl,rfl⟩
 obtain⟨h1,h2,h3,h4⟩:=h
 refine⟨⟨h2,h3,h4⟩,?_,fun b hb _=> ?_⟩
 ·show w.heap.size≤((w.drewN k).heap++os).size
  rw[h1,Array.size_append];omega
 ·show((w.drewN k).heap++os)[b]? =_
  rw[h1,Array.getElem?_append_left hb]
theorem itoa_any {H:Heap} (hg:Glb H) (n:Int) (h0: -9223372036854775808≤n) (h1:n≤9223372036854775807):CallH Tryz.prog 63 [.int .i64 n] H fun v H'=>v= .string (mkS (Lib.itoa n))∧Ext H H':=by
 refine CallH.calls Tryz.call63 fun w hw=> ?_
 obtain⟨t,fr,ht⟩:=hg.tab
 refine Calls.mono (Any.strconv_Itoa Tryz.laysM171 n h0 h1 w ?_) ?_
 ·show(Option.bind (some _) _)=_
  rw[hw]
  simp[ht]
 ·rintro e w' ⟨h1,k,os,rfl⟩
  obtain⟨h2,h3⟩:=grow_drewN w k os
  exact⟨_,h1,h2,rfl,hw▸h3⟩
def errS (n:Int):Bs:=[101,114,114,32]++Lib.itoa n
def wrS:Chain→Bs→Bs
 |[],t=>t
 |x::ws,t=>x.1++32::(x.2++58::32::wrS ws t)
def I64 (n:Int):Prop:= -9223372036854775808≤n∧n≤9223372036854775807
theorem dd_len: ∀ (k u:Nat),u<10 ^ (k+1)→(Lib.decDigits u).length≤k+1
 |k,u,h=>by
  rw[Lib.decDigits]
  split
  ·simp
  ·cases k with
   |zero=>omega
   |succ k=>
    have:=dd_len k (u / 10) (by rw[Nat.pow_succ]at h;omega)
    simp;omega
theorem itoa_len (n:Int) (h:I64 n):(Lib.itoa n).length≤30:=by
 unfold I64 at h
 unfold Lib.itoa
 split
 ·have:=dd_len 18 n.natAbs (by show n.natAbs<10 ^ 19;omega)
  simp;omega
 ·have:=dd_len 18 n.toNat (by show n.toNat<10 ^ 19;omega)
  omega
theorem error_num {H:Heap} (hg:Glb H) (n:Int) (h:I64 n):CallH Tryz.prog 138 [.int .i64 n] H fun v H'=>v= .string (mkS (errS n))∧Ext H H':=by
 have hl:=itoa_len n h
 have h1:(mkS (Lib.itoa n)).size=(Lib.itoa n).length:=rfl
 have h2:(⟨#[101,114,114,32]⟩:ByteArray).size=4:=rfl
 refine Vc.CallH.body Tryz.func138 Tryz.call138 rfl (by decide+kernel) rfl ?_
 ((conv=>whnf);repeat(any_goals((first|(refine(itoa_any (hg.ext (by exact Vc.xt)) n h.1 h.2).mono ?_;rintro _ H1 ⟨rfl,hx1⟩;have hz1:=hx1.size)|refine Vc.stp ?_|refine Vc.spl ?_ ?_)<;>(intros;(conv=>whnf)))))
 exact⟨congrArg Value.string (mkS_app [101,114,114,32] _),hx1⟩
theorem said_num {H:Heap} (hg:Glb H) (n:Int) (h:I64 n):CallH Tryz.prog 78 [.iface 34 (.int .i64 n)] H fun v H'=>v= .string (mkS (errS n))∧Ext H H':=by
 refine Vc.CallH.body Tryz.func78 Tryz.call78 rfl (by decide+kernel) rfl ?_
 ((conv=>whnf);repeat(any_goals((first|(with_reducible apply ta_e_f)|(with_reducible apply ta_e_e)|(with_reducible apply ta_e_j)|(with_reducible apply ta_e_i)|(with_reducible apply ta_e_u)|(with_reducible apply ta_e_w)|(with_reducible apply ta_e_a)|(with_reducible apply ta_f_f)|(with_reducible apply ta_f_e)|(with_reducible apply ta_f_j)|(with_reducible apply ta_f_i)|(with_reducible apply ta_f_u)|(with_reducible apply ta_f_w)|(with_reducible apply ta_f_a)|(with_reducible apply ta_j_f)|(with_reducible apply ta_j_e)|(with_reducible apply ta_j_j)|(with_reducible apply ta_j_i)|(with_reducible apply ta_j_u)|(with_reducible apply ta_j_w)|(with_reducible apply ta_j_a)|(refine(error_num (hg.ext (by exact Vc.xt)) n h).mono ?_;rintro _ H1 ⟨rfl,hx1⟩;have hz1:=hx1.size)|refine Vc.stp ?_|refine Vc.spl ?_ ?_)<;>(intros;(conv=>whnf)))))
 exact⟨rfl,hx1⟩
def Small (ws:Chain):Prop:=ws.length≤20∧ ∀ x∈ws,x.1.length≤100∧x.2.length≤100
theorem Small.tail {x:Bs×Bs} {ws:Chain} (h:Small (x::ws)):Small ws:=⟨by have:=h.1;simp only[List.length_cons]at this;omega,fun y hy=>h.2 y (by simp[hy])⟩
theorem wrS_len: ∀ (ws:Chain) (t:Bs),Small ws→(wrS ws t).length≤300*ws.length+t.length
 |[],t,_=>by simp[wrS]
 |x::ws,t,h=>by
  have h1:=wrS_len ws t h.tail
  have h2:=h.2 x (by simp)
  simp only[wrS,List.length_append,List.length_cons];omega
theorem said_wr {P:Heap→Value→Prop} {t:Bs} (ht:t.length≤1000000) (hP: ∀ H H' v,P H v→Ext H H'→P H' v) (hi: ∀ H v,P H v→ ∃ t x,v= .iface t x)
  (hs: ∀ H v,Glb H→P H v→CallH Tryz.prog 78 [v] H fun u H'=>u= .string (mkS t)∧Ext H H'):
  ∀ (ws:Chain) (H:Heap) (v:Value),Small ws→Glb H→WrV H ws (P H) v→CallH Tryz.prog 78 [v] H fun u H'=>u= .string (mkS (wrS ws t))∧Ext H H'
 |[],H,v,_,hg,h=>hs H v hg h
 |x::ws,H,v,hsm,hg,⟨g,v',hv,hb,hw⟩=>by
  subst hv
  have ih:=fun H' (k:Ext H H')=>said_wr ht hP hi hs ws H' v' hsm.tail (hg.ext k) (WrV.mono k (fun u hu=>hP _ _ _ hu k) ws v' hw)
  obtain⟨ty,pl,rfl⟩: ∃ t x,v'= .iface t x:=by
   cases ws with
   |nil=>exact hi _ _ hw
   |cons y ws=>obtain⟨g2,v2,h2,_⟩:=hw;exact⟨_,_,h2⟩
  have hxl:=hsm.2 x (by simp)
  have hwl:=wrS_len ws t hsm.tail
  have hwn:=hsm.1
  simp only[List.length_cons]at hwn
  have htext: ∀ H' (k:Ext H H'),CallH Tryz.prog 31 [.iface ty pl] H' fun u H''=>u= .string (mkS (wrS ws t))∧Ext H' H'':=by
   intro H1 k
   refine Vc.CallH.body Tryz.func31 Tryz.call31 rfl (by decide+kernel) rfl ?_
   ((conv=>whnf);repeat(any_goals((first|(refine(ih _ (k.trans (by exact Vc.xt))).mono ?_;rintro _ H2 ⟨rfl,hx2⟩;have hz2:=hx2.size)|refine Vc.stp ?_|refine Vc.spl ?_ ?_)<;>(intros;(conv=>whnf)))))
   exact⟨rfl,hx2⟩
  have herr:CallH Tryz.prog 137 [.pointer (some ⟨g,0,none⟩)] H fun u H'=>u= .string (mkS (wrS (x::ws) t))∧Ext H H':=by
   have h1:(mkS x.1).size=x.1.length:=rfl
   have h2:(mkS x.2).size=x.2.length:=rfl
   have h3:(mkS (wrS ws t)).size=(wrS ws t).length:=rfl
   have h4:(⟨#[32]⟩:ByteArray).size=1:=rfl
   have h5:(⟨#[58,32]⟩:ByteArray).size=2:=rfl
   refine Vc.CallH.body Tryz.func137 Tryz.call137 rfl (by decide+kernel) rfl ?_
   ((conv=>whnf);repeat(any_goals((first|(refine(htext _ (by exact Vc.xt)).mono ?_;rintro _ H1 ⟨rfl,hx1⟩;have hz1:=hx1.size)|(refine NeedH.mk ⟨by(simp only[ByteArray.size_append];omega),?_⟩)|refine Vc.stp ?_|refine Vc.spl ?_ ?_)<;>(intros;(conv=>whnf)))))
   all_goals exact⟨by show Value.string ((((mkS x.1++mkS [32])++mkS x.2)++mkS [58,32])++mkS (wrS ws t))=_;simp only[mkS_app,wrS,List.append_assoc];rfl,by exact Vc.xt⟩
  refine Vc.CallH.body Tryz.func78 Tryz.call78 rfl (by decide+kernel) rfl ?_
  ((conv=>whnf);repeat(any_goals((first|(with_reducible apply ta_e_f)|(with_reducible apply ta_e_e)|(with_reducible apply ta_e_j)|(with_reducible apply ta_e_i)|(with_reducible apply ta_e_u)|(with_reducible apply ta_e_w)|(with_reducible apply ta_e_a)|(with_reducible apply ta_f_f)|(with_reducible apply ta_f_e)|(with_reducible apply ta_f_j)|(with_reducible apply ta_f_i)|(with_reducible apply ta_f_u)|(with_reducible apply ta_f_w)|(with_reducible apply ta_f_a)|(with_reducible apply ta_j_f)|(with_reducible apply ta_j_e)|(with_reducible apply ta_j_j)|(with_reducible apply ta_j_i)|(with_reducible apply ta_j_u)|(with_reducible apply ta_j_w)|(with_reducible apply ta_j_a)|(refine herr.mono ?_;rintro _ H1 ⟨rfl,hx1⟩;have hz1:=hx1.size)|refine Vc.stp ?_|refine Vc.spl ?_ ?_)<;>(intros;(conv=>whnf)))))
  exact⟨rfl,hx1⟩
end Go.Proofs.YtphkaogbcfdllaaGreatDoor
namespace Go.Proofs.YtphkaogbcfdllaaGreatDoor
open Go Go.Vc Go.Scr Go.Pth Go.Tre Go.Blk Go.Run
theorem Mac.fuel {H H':Heap} {m:MP} {s:St} {M:List Nat} {f f':Nat} (h:Mac H m s M f) (hb:Blk H' m.g (macC m f') 139) (k:But m.g H H'):Mac H' m s M f':=by
 have hMl:M.length=m.n:=by rw[h.rel.len,h.klen]
 have hOl:m.O.length=m.n:=by rw[h.tabs.lenO,h.klen]
 have hHl:m.Hd.length=m.n:=by rw[h.tabs.lenH,h.klen]
 have tabK: ∀ {g:Nat} {l:List Nat},Tab H m.B g m.n l→l.length=m.n→Tab H' m.B g m.n l:=fun{g l} ht hl=>ht.keep k fun p hp e=>by
  cases hp
  dsimp only at e
  have h1:=ht.blk hl
  rw[e]at h1
  exact absurd (blk_one h1 h.blk).1 (by decide)
 refine⟨hb,tabK h.oth hOl,tabK h.hds hHl,tabK h.mor hMl,lns_dumb h.row k fun x e _=>by subst e;exact h.othG.dumb,h.len,h.small,h.lens,h.bnd,h.tree.keep k (fun e=> ?_) (fun e=>h.tree.map.ne h.blk e) (fun x e _=>by subst e;exact .inl h.othG),h.vars.keep k (fun v hv e=> ?_),h.tabs,h.rel,h.okay,h.d1,h.d2,h.dv⟩
 ·have h1:=h.tree.blk
  rw[e]at h1
  exact absurd (blk_one h1 h.blk).1 (by decide)
 ·obtain⟨W,_,hW⟩:=vars_map h.vars hv
  exact hW.ne h.blk e
theorem macB {K:Value→Prop} {o1 o2 o3 o4 o5 o6:Operand} {go gh gm al:Option Addr} {n c1 n2 c2 n3 c3 n4 c4:Nat} {p:Option Addr} {vm:Option Nat} {f:Int} (h:K (.agg #[.slice go n c1,.slice gh n2 c2,.slice al n3 c3,.pointer p,.map vm,.slice gm n4 c4,.int .i64 f])):
  PureH Tryz.prog (Instr.build 139 ((List.map (fun x:Nat×Operand=>x.1) (#[(0,o1),(1,o2),(2,o3),(3,o4),(4,o5),(5,o6)]:Array (Nat×Operand)).toList).zip [.agg #[.slice go n c1,.slice gh n2 c2],.slice al n3 c3,.pointer p,.map vm,.slice gm n4 c4,.int .i64 f]).toArray) K:=PureH.build _ (by kernel_rfl) h
structure RunJ (H H':Heap) (L:List Ln) (al:Option Addr) (cl n b mb:Nat) (vm:Option Nat) (s:St) (F:Nat) (m:MP):Prop where
 mac:Mac H' m s (List.replicate n 0) F
 eqs:m.al=al∧m.cl=cl∧m.n=n∧m.L=L∧m.b=b∧m.mb=mb∧m.vm=vm
 low:H.size≤m.g∧H.size≤m.go∧H.size≤m.gh∧H.size≤m.gm
 ext:Ext H H'
structure RnS where
 s:St
 M:List Nat
 u:Nat
 f:Nat
theorem Glb.keep {F:Nat→Prop} {H H':Heap} (h:Glb H) (k:Only F H H') (hF: ¬F 0∧ ¬F 1):Glb H':=by
 refine⟨hcell_keep h.et k hF.1,?_⟩
 obtain⟨t,fr,h1⟩:=h.tab
 exact⟨t,fr,by rw[k.same 1 (Array.getElem?_eq_some_iff.1 h1).1 hF.2];exact h1⟩
set_option maxHeartbeats 4000000 in
theorem run_any {H:Heap} {al:Option Addr} {cl n b mb:Nat} {vm:Option Nat} {V:Option Vars} {A:Tr} {L:List Ln} (hr:Row H al (lnsV L)) (hl:L.length=n) (hn:n≤1000000) (hne:Nested (kindsL L)) (hlens: ∀ x∈L,x.a.length≤1000000∧x.b.length≤1000000∧x.tx.length≤1000000∧x.n≤1000000)
  (ht:TreeO no H b mb A) (hv:VarsO H vm V) (hA:Okay A) (hdv: ∀ v,vm=some v→v≠mb) (hg:Glb H) (hlow:2≤b∧2≤mb∧ ∀ v,vm=some v→2≤v) (hH:2≤H.size) (fuel:Int) (F:Nat) (hF:min (max fuel 0) 65536=(F:Int)):
  CallH Tryz.prog 18 [.slice al n cl,.pointer (some ⟨b,0,none⟩),.map vm,.int .i64 fuel] H fun v H'=>∃ er,v= .tuple #[.int .i64 (runP L F 0 ⟨0,A,V,[]⟩).1.1,.int .i64 (runP L F 0 ⟨0,A,V,[]⟩).2.at_,er]∧
   (if(runP L F 0 ⟨0,A,V,[]⟩).1.2=0 then er= .nilIface else ErV H' [([108,105,110,101],Lib.itoa ((runP L F 0 ⟨0,A,V,[]⟩).2.at_:Int))] (.num (runP L F 0 ⟨0,A,V,[]⟩).1.2) er)∧
   TreeO no H' b mb (runP L F 0 ⟨0,A,V,[]⟩).2.A∧VarsO H' vm (runP L F 0 ⟨0,A,V,[]⟩).2.V∧Only (fun x=>x=b∨x=mb∨vm=some x) H H':=by
 refine Vc.CallH.body Tryz.func18 Tryz.call18 rfl (by decide+kernel) rfl ?_
 ((conv=>whnf);repeat(any_goals((first|(first|(with_reducible refine Vc.DrawH.lin (id:=1) mixed ?_)|(with_reducible refine Vc.DrawL.split (es:=[]) 1 7 (by decide) (by decide) (by decide) ?_ ?_)|(with_reducible refine Vc.DrawL.held (es:=[(1,7)]) [0,2,3,4,5,6,8,9,10,1,7,11,12,13] [] (by decide+kernel) ?_)|(with_reducible refine Vc.DrawL.held (es:=[(7,1)]) [0,2,3,4,5,6,8,9,10,7,1,11,12,13] [] (by decide+kernel) ?_))|((with_reducible refine Vc.DrawH.held [0,1,2,3,4,5,6,7,9,10,8,11,12,13,14] [(8,[4]),(11,[4])] mixed (by decide+kernel) ?_))|refine Vc.stq ?_|refine Vc.spl ?_ ?_)<;>(intros;(conv=>whnf)))))
 have hkl:(kindsL L).length=n:=by rw[kinds_len,hl]
 have fin: ∀ {env:Env} {H':Heap} {g go gh gm:Nat} {O Hd:List Nat},Blk H' g #[.slice (some ⟨go,0,none⟩) n n,.slice (some ⟨gh,0,none⟩) n n,.slice al n cl,.pointer (some ⟨b,0,none⟩),.map vm,.slice (some ⟨gm,0,none⟩) n n,.int .i64 (min (max fuel 0) 65536)] 139→Bears env [(11,.pointer (some ⟨g,0,none⟩))]→Tab H' H.size go n O→Tab H' H.size gh n Hd→Go.Blk.Tables (kindsL L) O Hd→Tab H' H.size gm n (List.replicate n 0)→go≠gm→gh≠gm→H.size≤g→Ext H H'→
   ∃ m:MP,Bears env [(11,.pointer (some ⟨m.g,0,none⟩))]∧RunJ H H' L al cl n b mb vm ⟨0,A,V,[]⟩ F m:=by
  intro env H' g go gh gm O Hd hb hbe hO hHd htb hM h1 h2 hg hx
  rw[hF]at hb
  refine⟨⟨H.size,g,go,gh,gm,al,cl,n,L,O,Hd,b,mb,vm⟩,hbe,⟨⟨hb,hO,hHd,hM,hr.ext hx,hl,hn,hlens,fun c hc=>by rw[List.eq_of_mem_replicate hc];omega,ht.ext hx,hv.ext hx,htb,?_,hA,h1,h2,hdv⟩,⟨rfl,rfl,rfl,rfl,rfl,rfl,rfl⟩,⟨hg,(hO.block _ rfl).1,(hHd.block _ rfl).1,(hM.block _ rfl).1⟩,hx⟩⟩
  have:=RelM.zero (kindsL L)
  rw[hkl]at this
  exact this
 refine SeqH.cut (fun(m:MP)=>[(11,.pointer (some ⟨m.g,0,none⟩))]) (fun m H'=>RunJ H H' L al cl n b mb vm ⟨0,A,V,[]⟩ F m) ?_ ?_
 ·((conv=>whnf);repeat(any_goals((first|((with_reducible apply SemH.make);(focus(rfl));(focus(rfl));(focus(rfl));(focus((show 8*n≤_;omega)));(focus((unfold maxLen;omega)));(focus((intro Hx hox hxx;replace hox:Tab Hx _ _ n (List.replicate n 0):=(by(show Own _ _ _ 1 _ _ _ (natV (List.replicate n 0)));rw[←nat_made];exact hox);have hzx:=hxx.size;have hwx:=(show _<Hx.size from(hox.block _ rfl).2);dsimp only at hwx;(conv=>whnf)))))|(refine(find_any (hr.ext (by exact Vc.xt)) hl hn hne).mono ?_;rintro _ Hf ⟨⟨go,gh,O,Hd,rfl,hO,hHd,htb⟩,hxf⟩;have hzf:=hxf.size)|((with_reducible apply macB);(focus((conv=>whnf))))|(first|(with_reducible refine Vc.DrawH.lin (id:=1) mixed ?_)|(with_reducible refine Vc.DrawL.split (es:=[]) 1 7 (by decide) (by decide) (by decide) ?_ ?_)|(with_reducible refine Vc.DrawL.held (es:=[(1,7)]) [0,2,3,4,5,6,8,9,10,1,7,11,12,13] [] (by decide+kernel) ?_)|(with_reducible refine Vc.DrawL.held (es:=[(7,1)]) [0,2,3,4,5,6,8,9,10,7,1,11,12,13] [] (by decide+kernel) ?_))|((with_reducible refine Vc.DrawH.held [0,1,2,3,4,5,6,7,9,10,8,11,12,13,14] [(8,[4]),(11,[4])] mixed (by decide+kernel) ?_))|refine Vc.stp ?_|refine Vc.spl ?_ ?_)<;>(intros;(conv=>whnf)))))
  ·rename_i H4 z4 b4 x4
   have h1:=(hO.block _ rfl).2
   have h2:=(hHd.block _ rfl).2
   dsimp only at h1 h2
   exact fin b4 ⟨rfl,trivial⟩ (hO.ext (hxx.trans x4)) (hHd.ext (hxx.trans x4)) htb ((Go.Vc.Own.base hox (by omega)).ext x4) (by omega) (by omega) (by omega) (hxf.trans (hxx.trans x4))
  ·rename_i H4 z4 b4 x4
   have h1:=(hO.block _ rfl).1
   have h2:=(hHd.block _ rfl).1
   dsimp only at h1 h2
   exact fin b4 ⟨rfl,trivial⟩ (Go.Vc.Own.ext (Go.Vc.Own.base hO (by omega)) x4) (Go.Vc.Own.ext (Go.Vc.Own.base hHd (by omega)) x4) htb (Go.Vc.Own.ext hox (hxf.trans x4)) (by omega) (by omega) (by omega) (hxx.trans (hxf.trans x4))
 ·rintro m H2 hj
  obtain⟨rfl,rfl,rfl,rfl,rfl,rfl,rfl⟩:=hj.eqs
  have hm:=hj.mac
  have hsm:=hm.small
  have hb2:=hm.blk
  unfold macC at hb2
  ((conv=>whnf);repeat(any_goals((first|(first|(with_reducible refine Vc.DrawH.lin (id:=1) mixed ?_)|(with_reducible refine Vc.DrawL.split (es:=[]) 1 7 (by decide) (by decide) (by decide) ?_ ?_)|(with_reducible refine Vc.DrawL.held (es:=[(1,7)]) [0,2,3,4,5,6,8,9,10,1,7,11,12,13] [] (by decide+kernel) ?_)|(with_reducible refine Vc.DrawL.held (es:=[(7,1)]) [0,2,3,4,5,6,8,9,10,7,1,11,12,13] [] (by decide+kernel) ?_))|((with_reducible refine Vc.DrawH.held [0,1,2,3,4,5,6,7,9,10,8,11,12,13,14] [(8,[4]),(11,[4])] mixed (by decide+kernel) ?_))|refine Vc.stp ?_)<;>(intros;(conv=>whnf)))))
  refine LoopH.intro (fun(x:RnS)=>[(13,.int .i64 x.s.at_)]) (fun x H'=>Mac H' m x.s x.M x.f∧x.u+x.f=F∧runP m.L F 0 ⟨0,A,V,[]⟩=runP m.L x.f x.u x.s∧x.s.at_≤m.n∧(∀ p∈x.s.S,p.1<m.L.length)∧Only (fun y=>doM m y∨y=m.g) H2 H') (fun x=>x.f) ⟨⟨0,A,V,[]⟩,List.replicate m.n 0,0,F⟩ ⟨rfl,trivial⟩ ⟨hm,by simp,rfl,Nat.zero_le _,(fun p hp=>(by cases hp)),Only.refl _ _⟩ ?_
  rintro⟨s,M,u,f⟩ H3 ⟨hm3,huf,hrun,hat,hS,hx3⟩
  dsimp only at hm3 huf hrun hat hS hx3 ⊢
  rw[hrun]
  have hb3:=hm3.blk
  unfold macC at hb3
  have hz3:=hx3.size
  have hdo: ∀ y,(doM m y∨y=m.g)→y=m.b∨y=m.mb∨m.vm=some y∨H.size≤y:=fun y e=>by
   obtain⟨l1,l2,l3,l4⟩:=hj.low
   rcases e with (e|e|e|e)|e
   ·exact .inl e
   ·exact .inr (.inl e)
   ·exact .inr (.inr (.inl e))
   ·exact .inr (.inr (.inr (by omega)))
   ·exact .inr (.inr (.inr (by omega)))
  have hG: ∀ {H4:Heap},Only (fun y=>doM m y∨y=m.g) H2 H4→Glb H4:=fun{H4} k=>hg.keep (F:=fun y=>2≤y) (Only.trans hj.ext.only k fun y _ e=>by
   rcases hdo y e with e|e|e|e
   ·rw[e];exact hlow.1
   ·rw[e];exact hlow.2.1
   ·exact hlow.2.2 y e
   ·show 2≤y;omega) (by omega)
  have hG3:=hG hx3
  have post: ∀ {H4:Heap} {s4:St} {M4:List Nat} {f4:Nat},Mac H4 m s4 M4 f4→Only (fun y=>doM m y∨y=m.g) H2 H4→TreeO no H4 m.b m.mb s4.A∧VarsO H4 m.vm s4.V∧Only (fun x=>x=m.b∨x=m.mb∨m.vm=some x) H H4:=fun{H4 s4 M4 f4} hm4 k=>⟨hm4.tree,hm4.vars,Only.trans hj.ext.only k fun y hy e=>by
   rcases hdo y e with e|e|e|e
   ·exact .inl e
   ·exact .inr (.inl e)
   ·exact .inr (.inr e)
   ·omega⟩
  by_cases hlt:s.at_<m.n
  ·obtain⟨x,hx⟩: ∃ x,m.L[s.at_]? =some x:=⟨_,List.getElem?_eq_getElem (by rw[hm3.len];exact hlt)⟩
   cases f with
   |zero=>
    rw[runP_out (by rw[hm3.len];exact hlt)]
    ((conv=>whnf);repeat(any_goals((first|(refine(itoa_any (hG3.ext (by exact Vc.xt)) (s.at_:Int) (by omega) (by omega)).mono ?_;rintro _ H6 ⟨rfl,hx6⟩;have hz6:=hx6.size)|(have:=hx6;refine(wrap_any [108,105,110,101] (Lib.itoa (s.at_:Int)) (ws:=[]) (b:= .num 73) (show ErV _ [] (.num 73) _ from rfl)).mono ?_;rintro er H7 ⟨her,hx7⟩;have hz7:=hx7.size)|(first|(with_reducible refine Vc.DrawH.lin (id:=1) mixed ?_)|(with_reducible refine Vc.DrawL.split (es:=[]) 1 7 (by decide) (by decide) (by decide) ?_ ?_)|(with_reducible refine Vc.DrawL.held (es:=[(1,7)]) [0,2,3,4,5,6,8,9,10,1,7,11,12,13] [] (by decide+kernel) ?_)|(with_reducible refine Vc.DrawL.held (es:=[(7,1)]) [0,2,3,4,5,6,8,9,10,7,1,11,12,13] [] (by decide+kernel) ?_))|((with_reducible refine Vc.DrawH.held [0,1,2,3,4,5,6,7,9,10,8,11,12,13,14] [(8,[4]),(11,[4])] mixed (by decide+kernel) ?_))|refine Vc.stp ?_)<;>(intros;(conv=>whnf)))))
    have x37:=hx6.trans hx7
    obtain⟨p1,p2,p3⟩:=post (hm3.ext x37) (hx3.ext x37)
    rw[if_neg (by decide)]at her
    exact⟨er,by show Value.tuple #[.int .i64 ((F:Int)-((0:Nat):Int)),_,_]=Value.tuple #[.int .i64 (u:Int),_,_];rw[show(F:Int)-((0:Nat):Int)=u by omega],by rw[if_neg (show ¬(73:Nat)=0 by decide)];exact her,p1,p2,p3⟩
   |succ f=>
    have hst:=step_at (L:=m.L) hne hx hS
    have hnx:=hm3.len
    rw[runP_step hx]
    have hgl:=hb3.lt
    by_cases he:(stepP (kindsL m.L) x s).2=0
    ·rw[if_pos he]
     ((conv=>whnf);repeat(any_goals((first|(refine DoH.store1 (o:=0+6) hb3 rfl rfl rfl (show 6<7 by decide) ?_;intro H4 z4 b4 k4;rw[show(((f+1:Nat):Int)-1)=(f:Int)by omega]at b4;have b4:Blk H4 m.g (macC m f) 139:=b4;have hm4:=hm3.fuel b4 k4;have hx4:=Only.trans hx3 k4 fun y _ e=>(.inr e:doM m y∨y=m.g))|(have:=hm4;refine(do_any hm4 hne hx).mono ?_;rintro v5 H5 hd5;obtain⟨nx,M5,rfl,hnx5,hm5,ho5⟩:=hd5.out;have hx5:=Only.trans hx4 ho5 fun y _ e=>(.inl e:doM m y∨y=m.g);rw[he]at hnx5 ⊢;have hnx5:=hnx5 rfl)|(first|(with_reducible refine Vc.DrawH.lin (id:=1) mixed ?_)|(with_reducible refine Vc.DrawL.split (es:=[]) 1 7 (by decide) (by decide) (by decide) ?_ ?_)|(with_reducible refine Vc.DrawL.held (es:=[(1,7)]) [0,2,3,4,5,6,8,9,10,1,7,11,12,13] [] (by decide+kernel) ?_)|(with_reducible refine Vc.DrawL.held (es:=[(7,1)]) [0,2,3,4,5,6,8,9,10,7,1,11,12,13] [] (by decide+kernel) ?_))|((with_reducible refine Vc.DrawH.held [0,1,2,3,4,5,6,7,9,10,8,11,12,13,14] [(8,[4]),(11,[4])] mixed (by decide+kernel) ?_))|refine Vc.stp ?_)<;>(intros;(conv=>whnf)))))
     refine⟨⟨(stepP (kindsL m.L) x s).1,M5,u+1,f⟩,⟨by show Value.int _ _=Value.int _ _;rw[hnx5],trivial⟩,⟨hm5,by show u+1+f=F;omega,rfl,by show(stepP (kindsL m.L) x s).1.at_≤m.n;omega,hst.2,hx5⟩,by show f<f+1;omega⟩
    ·rw[if_neg he]
     obtain⟨E,hE⟩: ∃ E,(stepP (kindsL m.L) x s).2=E:=⟨_,rfl⟩
     rw[hE]at he
     have hEl:=step_code (kindsL m.L) x s
     rw[hE]at hEl
     have heb:((E:Int) != 0)=true:=by rw[bne_iff_ne];omega
     ((conv=>whnf);repeat(any_goals((first|(refine DoH.store1 (o:=0+6) hb3 rfl rfl rfl (show 6<7 by decide) ?_;intro H4 z4 b4 k4;rw[show(((f+1:Nat):Int)-1)=(f:Int)by omega]at b4;have b4:Blk H4 m.g (macC m f) 139:=b4;have hm4:=hm3.fuel b4 k4;have hx4:=Only.trans hx3 k4 fun y _ e=>(.inr e:doM m y∨y=m.g))|(have:=hm4;refine(do_any hm4 hne hx).mono ?_;rintro v5 H5 hd5;obtain⟨nx,M5,rfl,hnx5,hm5,ho5⟩:=hd5.out;have hx5:=Only.trans hx4 ho5 fun y _ e=>(.inl e:doM m y∨y=m.g);rw[hE];have hb5:=hm5.blk;unfold macC at hb5;have hz5:=hx5.size)|(refine(itoa_any ((hG hx5).ext (by exact Vc.xt)) (s.at_:Int) (by omega) (by omega)).mono ?_;rintro _ H6 ⟨rfl,hx6⟩;have hz6:=hx6.size)|(have:=hx6;refine(wrap_any [108,105,110,101] (Lib.itoa (s.at_:Int)) (ws:=[]) (b:= .num E) (show ErV _ [] (.num E) _ from rfl)).mono ?_;rintro er H7 ⟨her,hx7⟩;have hz7:=hx7.size)|(first|(with_reducible refine Vc.DrawH.lin (id:=1) mixed ?_)|(with_reducible refine Vc.DrawL.split (es:=[]) 1 7 (by decide) (by decide) (by decide) ?_ ?_)|(with_reducible refine Vc.DrawL.held (es:=[(1,7)]) [0,2,3,4,5,6,8,9,10,1,7,11,12,13] [] (by decide+kernel) ?_)|(with_reducible refine Vc.DrawL.held (es:=[(7,1)]) [0,2,3,4,5,6,8,9,10,7,1,11,12,13] [] (by decide+kernel) ?_))|((with_reducible refine Vc.DrawH.held [0,1,2,3,4,5,6,7,9,10,8,11,12,13,14] [(8,[4]),(11,[4])] mixed (by decide+kernel) ?_))|refine Vc.stp ?_)<;>(intros;(conv=>whnf)))))
     have x57:=hx6.trans hx7
     obtain⟨p1,p2,p3⟩:=post (hm5.ext x57) (hx5.ext x57)
     rw[if_neg (by show ¬((E:Int)==0)=true;rw[beq_iff_eq];omega)]at her
     exact⟨er,by show Value.tuple #[.int .i64 ((F:Int)-(f:Int)),_,_]=Value.tuple #[.int .i64 ((u+1:Nat):Int),_,_];rw[show(F:Int)-(f:Int)=((u+1:Nat):Int)by omega],by rw[if_neg he];exact her,p1,p2,p3⟩
  ·rw[runP_end (by rw[hm3.len];omega)]
   ((conv=>whnf);repeat(any_goals((first|(first|(with_reducible refine Vc.DrawH.lin (id:=1) mixed ?_)|(with_reducible refine Vc.DrawL.split (es:=[]) 1 7 (by decide) (by decide) (by decide) ?_ ?_)|(with_reducible refine Vc.DrawL.held (es:=[(1,7)]) [0,2,3,4,5,6,8,9,10,1,7,11,12,13] [] (by decide+kernel) ?_)|(with_reducible refine Vc.DrawL.held (es:=[(7,1)]) [0,2,3,4,5,6,8,9,10,7,1,11,12,13] [] (by decide+kernel) ?_))|((with_reducible refine Vc.DrawH.held [0,1,2,3,4,5,6,7,9,10,8,11,12,13,14] [(8,[4]),(11,[4])] mixed (by decide+kernel) ?_))|refine Vc.stp ?_)<;>(intros;(conv=>whnf)))))
   obtain⟨p1,p2,p3⟩:=post hm3 hx3
   have ha:s.at_=m.n:=by omega
   exact⟨.nilIface,by show Value.tuple #[.int .i64 ((F:Int)-f),_,_]=Value.tuple #[.int .i64 (u:Int),.int .i64 (s.at_:Int),_];rw[ha,show(F:Int)-f=u by omega],by rw[if_pos rfl],p1,p2,p3⟩
end Go.Proofs.YtphkaogbcfdllaaGreatDoor
