import Derived.Test.YtjdieklgoepdjaaGreatDoorKb
set_option linter.unusedVariables false
set_option linter.unusedSimpArgs false
set_option maxRecDepth 100000
/- Orders: of numbers, texts, pairs, lists; versions and spans, plain. -/
namespace Go.Slv
open Go.Scr Go.Tre
structure Lin {α:Type} (f:α→α→Int):Prop where
 rng: ∀ a b,f a b= -1∨f a b=0∨f a b=1
 neg: ∀ a b,f b a= -f a b
 eq: ∀ a b,f a b=0↔a=b
 tr: ∀ a b c,f a b= -1→f b c= -1→f a c= -1
theorem Lin.refl {α:Type} {f:α→α→Int} (h:Lin f) (a:α):f a a=0:=(h.eq a a).2 rfl
theorem Lin.gt {α:Type} {f:α→α→Int} (h:Lin f) {a b:α}:f a b=1↔f b a= -1:=by
 have:=h.neg a b
 constructor<;>intro e<;>omega
theorem Lin.trg {α:Type} {f:α→α→Int} (h:Lin f) {a b c:α} (h1:f a b=1) (h2:f b c=1):f a c=1:=h.gt.2 (h.tr _ _ _ (h.gt.1 h2) (h.gt.1 h1))
def cmpI (a b:Int):Int:=if a<b then-1 else if b<a then 1 else 0
theorem lin_int:Lin cmpI where
 rng a b:=by unfold cmpI;(repeat' split)<;>simp
 neg a b:=by unfold cmpI;(repeat' split)<;>omega
 eq a b:=by unfold cmpI;(repeat' split)<;>omega
 tr a b c h1 h2:=by
  unfold cmpI at h1 h2 ⊢
  have k1:a<b:=by
   (repeat' split at h1)<;>omega
  have k2:b<c:=by
   (repeat' split at h2)<;>omega
  rw[if_pos (by omega)]
theorem lt_as {a b:Txt} (h:Op.bytesLess a b=true):Op.bytesLess b a=false:=by
 cases hb:Op.bytesLess b a
 ·rfl
 ·exact absurd rfl (lt_ne (lt_trans h hb))
def cmpT (a b:Txt):Int:=if Op.bytesLess a b=true then-1 else if Op.bytesLess b a=true then 1 else 0
theorem cmpT_lt {a b:Txt}:cmpT a b= -1↔Op.bytesLess a b=true:=by
 unfold cmpT
 by_cases h:Op.bytesLess a b=true
 ·simp[h]
 ·by_cases h2:Op.bytesLess b a=true<;>simp[h,h2]
theorem lin_text:Lin cmpT where
 rng a b:=by unfold cmpT;(repeat' split)<;>simp
 neg a b:=by
  unfold cmpT
  by_cases h:Op.bytesLess a b=true
  ·simp[h,lt_as h]
  ·by_cases h2:Op.bytesLess b a=true<;>simp[h,h2]
 eq a b:=by
  unfold cmpT
  by_cases h:Op.bytesLess a b=true
  ·simp[h,lt_ne h]
  ·by_cases h2:Op.bytesLess b a=true
   ·simp[h,h2,(lt_ne h2).symm]
   ·rw[if_neg h,if_neg h2]
    refine⟨fun _=> ?_,fun _=>rfl⟩
    by_cases e:a=b
    ·exact e
    ·exact absurd (lt_tri (by simpa using h) e) h2
 tr a b c h1 h2:=cmpT_lt.2 (lt_trans (cmpT_lt.1 h1) (cmpT_lt.1 h2))
def lexC {α β:Type} (f:α→α→Int) (g:β→β→Int) (x y:α×β):Int:=if f x.1 y.1=0 then g x.2 y.2 else f x.1 y.1
theorem Lin.lex {α β:Type} {f:α→α→Int} {g:β→β→Int} (hf:Lin f) (hg:Lin g):Lin (lexC f g) where
 rng x y:=by
  unfold lexC
  split
  ·exact hg.rng _ _
  ·exact hf.rng _ _
 neg x y:=by
  unfold lexC
  have h:=hf.neg x.1 y.1
  by_cases e:f x.1 y.1=0
  ·rw[if_pos e,if_pos (by omega)];exact hg.neg _ _
  ·rw[if_neg e,if_neg (by omega)];exact h
 eq x y:=by
  unfold lexC
  by_cases e:f x.1 y.1=0
  ·rw[if_pos e,hg.eq]
   exact⟨fun h=>Prod.ext ((hf.eq _ _).1 e) h,fun h=>by rw[h]⟩
  ·rw[if_neg e]
   exact⟨fun h=>absurd h e,fun h=>by subst h;exact absurd ((hf.eq _ _).2 rfl) e⟩
 tr x y z h1 h2:=by
  unfold lexC at h1 h2 ⊢
  by_cases e1:f x.1 y.1=0
  ·have k1:=(hf.eq _ _).1 e1
   rw[if_pos e1]at h1
   rw[k1]
   by_cases e2:f y.1 z.1=0
   ·rw[if_pos e2]at h2 ⊢;exact hg.tr _ _ _ h1 h2
   ·rw[if_neg e2]at h2 ⊢;exact h2
  ·rw[if_neg e1]at h1
   by_cases e2:f y.1 z.1=0
   ·have k2:=(hf.eq _ _).1 e2
    rw[←k2,if_neg e1];exact h1
   ·rw[if_neg e2]at h2
    have:=hf.tr _ _ _ h1 h2
    rw[if_neg (by omega)];exact this
def listC {α:Type} (f:α→α→Int):List α→List α→Int
 |[],[]=>0
 |[],_::_=> -1
 |_::_,[]=>1
 |a::l,b::m=>if f a b=0 then listC f l m else f a b
theorem Lin.list {α:Type} {f:α→α→Int} (hf:Lin f):Lin (listC f) where
 rng x:=by
  induction x with
  |nil=>intro y;cases y<;>simp[listC]
  |cons a l ih=>
   intro y
   cases y with
   |nil=>simp[listC]
   |cons b m=>
    unfold listC
    split
    ·exact ih m
    ·exact hf.rng _ _
 neg x:=by
  induction x with
  |nil=>intro y;cases y<;>simp[listC]
  |cons a l ih=>
   intro y
   cases y with
   |nil=>simp[listC]
   |cons b m=>
    have h:=hf.neg a b
    unfold listC
    by_cases e:f a b=0
    ·rw[if_pos e,if_pos (by omega)];exact ih m
    ·rw[if_neg e,if_neg (by omega)];exact h
 eq x:=by
  induction x with
  |nil=>intro y;cases y<;>simp[listC]
  |cons a l ih=>
   intro y
   cases y with
   |nil=>simp[listC]
   |cons b m=>
    unfold listC
    by_cases e:f a b=0
    ·rw[if_pos e,ih m,(hf.eq _ _).1 e];simp
    ·rw[if_neg e]
     exact⟨fun h=>absurd h e,fun h=>by cases h;exact absurd ((hf.eq _ _).2 rfl) e⟩
 tr x:=by
  induction x with
  |nil=>
   intro y z h1 h2
   cases z with
   |nil=>cases y<;>simp[listC]at h1 h2
   |cons c n=>rfl
  |cons a l ih=>
   intro y z h1 h2
   cases y with
   |nil=>simp[listC]at h1
   |cons b m=>
    cases z with
    |nil=>simp[listC]at h2
    |cons c n=>
     unfold listC at h1 h2 ⊢
     by_cases e1:f a b=0
     ·have k1:=(hf.eq _ _).1 e1
      rw[if_pos e1]at h1
      rw[k1]
      by_cases e2:f b c=0
      ·rw[if_pos e2]at h2 ⊢;exact ih _ _ h1 h2
      ·rw[if_neg e2]at h2 ⊢;exact h2
     ·rw[if_neg e1]at h1
      by_cases e2:f b c=0
      ·have k2:=(hf.eq _ _).1 e2
       rw[←k2,if_neg e1];exact h1
      ·rw[if_neg e2]at h2
       have:=hf.tr _ _ _ h1 h2
       rw[if_neg (by omega)];exact this
theorem Lin.map {α β:Type} {f:α→α→Int} (hf:Lin f) (g:β→α) (hg: ∀ a b,g a=g b→a=b):Lin (fun a b=>f (g a) (g b)) where
 rng a b:=hf.rng _ _
 neg a b:=hf.neg _ _
 eq a b:=⟨fun h=>hg _ _ ((hf.eq _ _).1 h),fun h=>by rw[h];exact hf.refl _⟩
 tr a b c h1 h2:=hf.tr _ _ _ h1 h2
def digB (c:UInt8):Bool:=decide (48≤c.toNat∧c.toNat≤57)
def digP (s:Txt):Bool:=decide (s≠ [])&&s.all digB
def markK (s:Txt):Int×Int×Txt:=(if digP s then 0 else 1,if digP s then s.length else 0,s)
def markC (a b:Txt):Int:=lexC cmpI (lexC cmpI cmpT) (markK a) (markK b)
theorem lin_mark:Lin markC:=(lin_int.lex (lin_int.lex lin_text)).map markK fun a b h=>by
 have:=congrArg (fun x:Int×Int×Txt=>x.2.2) h
 exact this
structure VerP where
 ma:Nat
 mi:Nat
 pa:Nat
 pre:List Txt
deriving DecidableEq
def verK (v:VerP):Int×Int×Int×Int×List Txt:=(v.ma,v.mi,v.pa,if v.pre=[]then 1 else 0,v.pre)
def cmpV (a b:VerP):Int:=lexC cmpI (lexC cmpI (lexC cmpI (lexC cmpI (listC markC)))) (verK a) (verK b)
theorem lin_ver:Lin cmpV:=(lin_int.lex (lin_int.lex (lin_int.lex (lin_int.lex lin_mark.list)))).map verK fun a b h=>by
 cases a;cases b
 simp only[verK,Prod.mk.injEq,Int.ofNat_inj]at h
 obtain⟨h1,h2,h3,_,h4⟩:=h
 subst h1;subst h2;subst h3;subst h4
 rfl
structure BndP where
 sign:Txt
 v:VerP
deriving DecidableEq
structure SpnP where
 any:Bool
 or_:List (List BndP)
deriving DecidableEq
def holdsP (b:BndP) (v:VerP):Bool:=
 if b.sign=[61]then decide (cmpV v b.v=0)
 else if b.sign=[60]then decide (cmpV v b.v<0)
 else if b.sign=[60,61]then decide (cmpV v b.v≤0)
 else if b.sign=[62]then decide (0<cmpV v b.v)
 else if b.sign=[62,61]then decide (0≤cmpV v b.v)
 else false
def nearP (b:BndP) (v:VerP):Bool:=decide (b.v.pre≠ [])&&decide (b.v.ma=v.ma)&&decide (b.v.mi=v.mi)&&decide (b.v.pa=v.pa)
def hasP (s:SpnP) (v:VerP):Bool:=
 if s.any=true then decide (v.pre=[])else s.or_.any fun l=>l.all (fun b=>holdsP b v)&&(decide (v.pre=[]) || l.any fun b=>nearP b v)
structure NeedP where
 name:Txt
 span:SpnP
 text:Txt
deriving DecidableEq
structure RowP where
 name:Txt
 v:VerP
 sum:Txt
 size:Int
 needs:List NeedP
deriving DecidableEq
structure PinP where
 name:Txt
 v:VerP
 sum:Txt
deriving DecidableEq
abbrev Cho:=Txt→Option Nat
def MetC (R:List RowP) (c:Cho) (n:NeedP):Prop:=∃ i r,c n.name=some i∧R[i]? =some r∧hasP n.span r.v=true
inductive Reach (R:List RowP) (N:List NeedP) (c:Cho):Txt→Prop
 |root {n:NeedP}:n∈N→Reach R N c n.name
 |step {k:Txt} {i:Nat} {r:RowP} {n:NeedP}:Reach R N c k→c k=some i→R[i]? =some r→n∈r.needs→Reach R N c n.name
structure Sol (R:List RowP) (N:List NeedP) (c:Cho):Prop where
 row: ∀ k i,c k=some i→ ∃ r,R[i]? =some r∧r.name=k
 root: ∀ n∈N,MetC R c n
 all: ∀ k i r,c k=some i→R[i]? =some r→ ∀ n∈r.needs,MetC R c n
 reach: ∀ k i,c k=some i→Reach R N c k
def Apart (R:List RowP):Prop:=∀ (i j:Nat) (r s:RowP),R[i]? =some r→R[j]? =some s→r.name=s.name→r.v=s.v→i=j
def candLt (R:List RowP):Option Nat→Option Nat→Prop
 |some i,some j=>∃ r s,R[i]? =some r∧R[j]? =some s∧cmpV r.v s.v=1
 |some _,none=>True
 |none,_=>False
theorem candLt_irrefl {R:List RowP} {x:Option Nat}: ¬candLt R x x:=by
 cases x with
 |none=>exact id
 |some i=>
  rintro⟨r,s,h1,h2,h3⟩
  rw[h1]at h2
  cases h2
  rw[lin_ver.refl]at h3
  cases h3
theorem candLt_asymm {R:List RowP} {x y:Option Nat} (h:candLt R x y): ¬candLt R y x:=by
 cases x with
 |none=>exact h.elim
 |some i=>
  cases y with
  |none=>exact id
  |some j=>
   obtain⟨r,s,h1,h2,h3⟩:=h
   rintro⟨r',s',h4,h5,h6⟩
   rw[h1]at h5;cases h5
   rw[h2]at h4;cases h4
   have:=lin_ver.neg r.v s.v
   omega
theorem candLt_trans {R:List RowP} {x y z:Option Nat} (h:candLt R x y) (k:candLt R y z):candLt R x z:=by
 cases x with
 |none=>exact h.elim
 |some i=>
  cases y with
  |none=>exact k.elim
  |some j=>
   cases z with
   |none=>trivial
   |some m=>
    obtain⟨r,s,h1,h2,h3⟩:=h
    obtain⟨r',s',h4,h5,h6⟩:=k
    rw[h2]at h4;cases h4
    exact⟨r,s',h1,h5,lin_ver.trg h3 h6⟩
def Ahead (R:List RowP):List Txt→Cho→Cho→Prop
 |[],_,_=>False
 |k::ks,c,d=>candLt R (c k) (d k)∨(c k=d k∧Ahead R ks c d)
theorem ahead_append {R:List RowP}: ∀ {ks js:List Txt} {c d:Cho},Ahead R (ks++js) c d↔Ahead R ks c d∨((∀ k∈ks,c k=d k)∧Ahead R js c d)
 |[],js,c,d=>by simp[Ahead]
 |k::ks,js,c,d=>by
  show(candLt R (c k) (d k)∨(c k=d k∧Ahead R (ks++js) c d))↔(candLt R (c k) (d k)∨(c k=d k∧Ahead R ks c d))∨_
  rw[ahead_append]
  constructor
  ·rintro(h|⟨e,h|⟨h,g⟩⟩)
   ·exact .inl (.inl h)
   ·exact .inl (.inr ⟨e,h⟩)
   ·exact .inr ⟨fun x hx=>by
     rcases List.mem_cons.1 hx with rfl|hx
     ·exact e
     ·exact h x hx,g⟩
  ·rintro((h|⟨e,h⟩)|⟨h,g⟩)
   ·exact .inl h
   ·exact .inr ⟨e,.inl h⟩
   ·exact .inr ⟨h k List.mem_cons_self,.inr ⟨fun x hx=>h x (List.mem_cons_of_mem _ hx),g⟩⟩
theorem cand_tri {R:List RowP} (ha:Apart R) {N M:List NeedP} {c d:Cho} (h:Sol R N c) (h':Sol R M d) (k:Txt):c k=d k∨candLt R (c k) (d k)∨candLt R (d k) (c k):=by
 cases e:c k with
 |none=>
  cases e':d k with
  |none=>exact .inl rfl
  |some j=>exact .inr (.inr trivial)
 |some i=>
  cases e':d k with
  |none=>exact .inr (.inl trivial)
  |some j=>
   obtain⟨r,h1,h2⟩:=h.row k i e
   obtain⟨s,h3,h4⟩:=h'.row k j e'
   rcases lin_ver.rng r.v s.v with h5|h5|h5
   ·exact .inr (.inr ⟨s,r,h3,h1,lin_ver.gt.2 h5⟩)
   ·exact .inl (by rw[ha i j r s h1 h3 (h2.trans h4.symm) ((lin_ver.eq _ _).1 h5)])
   ·exact .inr (.inl ⟨r,s,h1,h3,h5⟩)
structure Best (R:List RowP) (N:List NeedP) (ks:List Txt) (c:Cho):Prop where
 sol:Sol R N c
 best: ∀ d,Sol R N d→(∀ k∈ks,c k=d k)∨Ahead R ks c d
abbrev Fix:=Txt→Option (Option Nat)
def Obey (f:Fix) (c:Cho):Prop:=∀ k x,f k=some x→c k=x
abbrev Stk:=List (Txt×Nat)
def needsR (R:List RowP) (i:Nat):List NeedP:=match R[i]? with
 |some r=>r.needs
 |none=>[]
def askedL (R:List RowP) (N:List NeedP) (st:Stk):List NeedP:=N++st.flatMap fun p=>needsR R p.2
def Over (st:Stk) (d:Cho):Prop:=∀ p∈st,d p.1=some p.2
theorem asked_met {R:List RowP} {N:List NeedP} {st:Stk} {d:Cho} (h:Sol R N d) (ho:Over st d) {n:NeedP} (hn:n∈askedL R N st):MetC R d n:=by
 rcases List.mem_append.1 hn with hn|hn
 ·exact h.root n hn
 ·obtain⟨p,hp,hn⟩:=List.mem_flatMap.1 hn
  unfold needsR at hn
  split at hn
  ·rename_i r hr
   exact h.all p.1 p.2 r (ho p hp) hr n hn
  ·cases hn
def choS (st:Stk):Cho:=fun k=>(st.find? fun p=>p.1==k).map (·.2)
theorem choS_mem {st:Stk} {k:Txt} {i:Nat} (h:choS st k=some i):(k,i)∈st:=by
 unfold choS at h
 obtain⟨p,hp,rfl⟩:=Option.map_eq_some_iff.1 h
 have h1:=List.find?_some hp
 have h2:=List.mem_of_find?_eq_some hp
 rw[beq_iff_eq]at h1
 subst h1
 exact h2
theorem choS_of {st:Stk} (hn:(st.map (·.1)).Nodup) {k:Txt} {i:Nat} (h:(k,i)∈st):choS st k=some i:=by
 cases e:choS st k with
 |none=>
  unfold choS at e
  rw[Option.map_eq_none_iff,List.find?_eq_none]at e
  have:=e (k,i) h
  simp at this
 |some j=>
  have h2:=choS_mem e
  have: ∀ (l:Stk),(l.map (·.1)).Nodup→(k,i)∈l→(k,j)∈l→j=i:=fun l=>by
   induction l with
   |nil=>intro _ h;cases h
   |cons q l ih=>
    intro hn h1 h2
    rw[List.map_cons,List.nodup_cons]at hn
    rcases List.mem_cons.1 h1 with e1|h1
    ·rcases List.mem_cons.1 h2 with e2|h2
     ·rw[←e1]at e2;cases e2;rfl
     ·exact absurd (List.mem_map.2 ⟨_,h2,by rw[←e1]⟩) hn.1
    ·rcases List.mem_cons.1 h2 with e2|h2
     ·exact absurd (List.mem_map.2 ⟨_,h1,by rw[←e2]⟩) hn.1
     ·exact ih hn.2 h1 h2
  rw[this st hn h h2]
theorem choS_none {st:Stk} {k:Txt}:choS st k=none↔k∉st.map (·.1):=by
 unfold choS
 rw[Option.map_eq_none_iff,List.find?_eq_none]
 constructor
 ·rintro h hm
  obtain⟨p,hp,rfl⟩:=List.mem_map.1 hm
  have:=h p hp
  simp at this
 ·intro h p hp e
  rw[beq_iff_eq]at e
  exact h (List.mem_map.2 ⟨p,hp,e⟩)
structure Good (R:List RowP) (N:List NeedP) (f:Fix) (st:Stk):Prop where
 nodup:(st.map (·.1)).Nodup
 row: ∀ p∈st,∃ r,R[p.2]? =some r∧r.name=p.1
 has: ∀ n∈askedL R N st,∀ i,(n.name,i)∈st→ ∀ r,R[i]? =some r→hasP n.span r.v=true
 reach: ∀ p∈st,Reach R N (choS st) p.1
 fixed: ∀ p∈st,∀ x,f p.1=some x→x=some p.2
theorem Good.nil (R:List RowP) (N:List NeedP) (f:Fix):Good R N f []:=⟨List.nodup_nil,fun p h=>(by cases h),fun n _ i h=>(by cases h),fun p h=>(by cases h),fun p h=>(by cases h)⟩
theorem Reach.mono {R:List RowP} {N:List NeedP} {c d:Cho} (h: ∀ k i,c k=some i→d k=some i) {k:Txt} (hr:Reach R N c k):Reach R N d k:=by
 induction hr with
 |root hn=>exact .root hn
 |step _ h1 h2 h3 ih=>exact .step ih (h _ _ h1) h2 h3
structure May (R:List RowP) (N:List NeedP) (f:Fix) (st:Stk) (k:Txt) (i:Nat):Prop where
 row: ∃ r,R[i]? =some r∧r.name=k∧ ∀ n∈askedL R N st,n.name=k→hasP n.span r.v=true
 fixed: ∀ x,f k=some x→x=some i
theorem asked_snoc (R:List RowP) (N:List NeedP) (st:Stk) (k:Txt) (i:Nat):askedL R N (st++[(k,i)])=askedL R N st++needsR R i:=by
 unfold askedL
 simp
theorem Good.push {R:List RowP} {N:List NeedP} {f:Fix} {st:Stk} {k:Txt} {i:Nat} (h:Good R N f st) (hk:k∉st.map (·.1)) (hm:May R N f st k i) (ha: ∃ n∈askedL R N st,n.name=k)
  (hs: ∀ n∈needsR R i,∀ j,(n.name,j)∈st++[(k,i)]→ ∀ r,R[j]? =some r→hasP n.span r.v=true):Good R N f (st++[(k,i)]):=by
 have hnd:((st++[(k,i)]).map (·.1)).Nodup:=by
  rw[List.map_append,List.map_singleton,List.nodup_append]
  exact⟨h.nodup,by simp,fun a hma b hb e=>by rw[List.mem_singleton]at hb;subst hb;subst e;exact hk hma⟩
 have hsub: ∀ k' j,choS st k'=some j→choS (st++[(k,i)]) k'=some j:=fun k' j e=>choS_of hnd (List.mem_append_left _ (choS_mem e))
 obtain⟨r,hr,hrn,hrh⟩:=hm.row
 refine⟨hnd,fun p hp=> ?_,fun n hn j hj s hs'=> ?_,fun p hp=> ?_,fun p hp x hx=> ?_⟩
 ·rcases List.mem_append.1 hp with hp|hp
  ·exact h.row p hp
  ·rw[List.mem_singleton]at hp;subst hp;exact⟨r,hr,hrn⟩
 ·rw[asked_snoc]at hn
  rcases List.mem_append.1 hn with hn|hn
  ·rcases List.mem_append.1 hj with hj|hj
   ·exact h.has n hn j hj s hs'
   ·rw[List.mem_singleton]at hj
    cases hj
    rw[hr]at hs';cases hs'
    exact hrh n hn rfl
  ·exact hs n hn j hj s hs'
 ·rcases List.mem_append.1 hp with hp|hp
  ·exact(h.reach p hp).mono hsub
  ·rw[List.mem_singleton]at hp
   subst hp
   obtain⟨n,hn,rfl⟩:=ha
   rcases List.mem_append.1 hn with hn|hn
   ·exact .root hn
   ·obtain⟨q,hq,hn⟩:=List.mem_flatMap.1 hn
    unfold needsR at hn
    split at hn
    ·rename_i s hs'
     exact .step ((h.reach q hq).mono hsub) (choS_of hnd (List.mem_append_left _ hq)) hs' hn
    ·cases hn
 ·rcases List.mem_append.1 hp with hp|hp
  ·exact h.fixed p hp x hx
  ·rw[List.mem_singleton]at hp;subst hp;exact hm.fixed x hx
theorem Good.sol {R:List RowP} {N:List NeedP} {f:Fix} {st:Stk} (h:Good R N f st) (hall: ∀ n∈askedL R N st,n.name∈st.map (·.1)):Sol R N (choS st):=by
 have met: ∀ n∈askedL R N st,MetC R (choS st) n:=fun n hn=>by
  obtain⟨p,hp,e⟩:=List.mem_map.1 (hall n hn)
  obtain⟨r,hr,hrn⟩:=h.row p hp
  have hp':(n.name,p.2)∈st:=by rw[←e];exact hp
  exact⟨p.2,r,choS_of h.nodup hp',hr,h.has n hn p.2 hp' r hr⟩
 refine⟨fun k i e=>h.row (k,i) (choS_mem e),fun n hn=>met n (List.mem_append_left _ hn),fun k i r e hr n hn=>met n (List.mem_append_right _ (List.mem_flatMap.2 ⟨(k,i),choS_mem e,?_⟩)),fun k i e=>h.reach (k,i) (choS_mem e)⟩
 unfold needsR
 dsimp only
 rw[hr]
 exact hn
inductive Far (R:List RowP) (N:List NeedP) (f:Fix) (st:Stk):Txt→Prop
 |base {n:NeedP}:n∈askedL R N st→Far R N f st n.name
 |step {k:Txt} {i:Nat} {r:RowP} {n:NeedP}:Far R N f st k→(∀ j,(k,j)∈st→i=j)→R[i]? =some r→r.name=k→(∀ x,f k=some x→x=some i)→n∈r.needs→Far R N f st n.name
theorem far_reach {R:List RowP} {N:List NeedP} {f:Fix} {st:Stk} {d:Cho} (h:Sol R N d) (ho:Over st d) (hf:Obey f d) {k:Txt} (hr:Reach R N d k):Far R N f st k:=by
 induction hr with
 |root hn=>exact .base (List.mem_append_left _ hn)
 |step _ h1 h2 h3 ih=>
  rename_i k i r n _
  obtain⟨r',h4,h5⟩:=h.row _ _ h1
  rw[h2]at h4;cases h4
  exact .step ih (fun j hj=>by have:=ho _ hj;dsimp only at this;rw[h1]at this;exact Option.some.inj this) h2 h5 (fun x hx=>by rw[←hf _ _ hx,h1]) h3
theorem far_none {R:List RowP} {N:List NeedP} {f:Fix} {st:Stk} {k:Txt} {i:Nat} (hk:f k=some (some i)) (hn: ¬Far R N f st k) {d:Cho} (h:Sol R N d) (ho:Over st d) (hf:Obey f d):False:=
 hn (far_reach h ho hf (h.reach k i (hf _ _ hk)))
theorem far_end {R:List RowP} {N:List NeedP} {f:Fix} {st:Stk} (h:Good R N f st) (hall: ∀ n∈askedL R N st,n.name∈st.map (·.1)) {k:Txt} (hk:Far R N f st k):k∈st.map (·.1):=by
 induction hk with
 |base hn=>exact hall _ hn
 |step _ h1 h2 h3 h4 h5 ih=>
  rename_i k i r n _
  obtain⟨p,hp,e⟩:=List.mem_map.1 ih
  have hp':(k,p.2)∈st:=by rw[←e];exact hp
  obtain rfl:=h1 p.2 hp'
  refine hall n (List.mem_append_right _ (List.mem_flatMap.2 ⟨p,hp,?_⟩))
  unfold needsR
  rw[h2]
  exact h5
theorem Good.obey {R:List RowP} {N:List NeedP} {f:Fix} {st:Stk} (h:Good R N f st) (hall: ∀ n∈askedL R N st,n.name∈st.map (·.1)) (hfar: ∀ k i,f k=some (some i)→Far R N f st k):Obey f (choS st):=by
 intro k x hx
 cases x with
 |none=>
  cases e:choS st k with
  |none=>rfl
  |some i=>have:=h.fixed (k,i) (choS_mem e) _ hx;cases this
 |some i=>
  obtain⟨p,hp,e⟩:=List.mem_map.1 (far_end h hall (hfar k i hx))
  have hp':(k,p.2)∈st:=by rw[←e];exact hp
  have:=h.fixed (k,p.2) hp' _ hx
  cases this
  exact choS_of h.nodup hp'
theorem may_of {R:List RowP} {N:List NeedP} {f:Fix} {st:Stk} {d:Cho} (h:Sol R N d) (ho:Over st d) (hf:Obey f d) {k:Txt} (ha: ∃ n∈askedL R N st,n.name=k): ∃ i,d k=some i∧May R N f st k i:=by
 obtain⟨n,hn,rfl⟩:=ha
 obtain⟨i,r,h1,h2,h3⟩:=asked_met h ho hn
 obtain⟨r',h4,h5⟩:=h.row _ _ h1
 rw[h2]at h4;cases h4
 refine⟨i,h1,⟨r,h2,h5,fun m hm e=> ?_⟩,fun x hx=>by rw[←hf _ _ hx,h1]⟩
 obtain⟨i',r',g1,g2,g3⟩:=asked_met h ho hm
 rw[e,h1]at g1;cases g1
 rw[h2]at g2;cases g2
 exact g3
theorem over_push {st:Stk} {d:Cho} {k:Txt} {i:Nat} (ho:Over st d) (h:d k=some i):Over (st++[(k,i)]) d:=fun p hp=>by
 rcases List.mem_append.1 hp with hp|hp
 ·exact ho p hp
 ·rw[List.mem_singleton]at hp;subst hp;exact h
theorem unmet_none {R:List RowP} {N:List NeedP} {st:Stk} {d:Cho} (h:Sol R N d) (ho:Over st d) {n:NeedP} (hn:n∈askedL R N st) {j:Nat} {r:RowP} (hj:(n.name,j)∈st) (hr:R[j]? =some r) (hb:hasP n.span r.v=false):False:=by
 obtain⟨i,s,h1,h2,h3⟩:=asked_met h ho hn
 have:=ho _ hj
 dsimp only at this
 rw[h1]at this;cases this
 rw[hr]at h2;cases h2
 rw[hb]at h3;cases h3
def NoSol (R:List RowP) (N:List NeedP) (f:Fix) (st:Stk):Prop:=∀ d,Sol R N d→Over st d→Obey f d→False
theorem nosol_all {R:List RowP} {N:List NeedP} {f:Fix} {st:Stk} {k:Txt} (ha: ∃ n∈askedL R N st,n.name=k) (h: ∀ i,May R N f st k i→NoSol R N f (st++[(k,i)])):NoSol R N f st:=fun d hs ho hf=>by
 obtain⟨i,h1,h2⟩:=may_of hs ho hf ha
 exact h i h2 d hs (over_push ho h1) hf
def Beats (R:List RowP) (N:List NeedP) (ks:List Txt) (c:Cho):Prop:=∀ d,Sol R N d→(∀ k∈ks,c k=d k)∨Ahead R ks c d
theorem ahead_congr {R:List RowP}: ∀ {ks:List Txt} {c c' d:Cho},(∀ k∈ks,c k=c' k)→Ahead R ks c d→Ahead R ks c' d
 |[],_,_,_,_,h=>h
 |k::ks,c,c',d,hc,h=>by
  rcases h with h|⟨e,h⟩
  ·exact .inl (by rw[←hc k List.mem_cons_self];exact h)
  ·exact .inr ⟨by rw[←hc k List.mem_cons_self];exact e,ahead_congr (fun x hx=>hc x (List.mem_cons_of_mem _ hx)) h⟩
theorem beats_snoc {R:List RowP} (ha:Apart R) {N:List NeedP} {ks:List Txt} {k:Txt} {c c':Cho} (h:Beats R N ks c) (hs:Sol R N c') (hc: ∀ j∈ks,c j=c' j)
  (hno: ∀ d,Sol R N d→(∀ j∈ks,c j=d j)→ ¬candLt R (d k) (c' k)):Beats R N (ks++[k]) c':=by
 intro d hd
 rcases h d hd with g|g
 ·rcases cand_tri ha hs hd k with e|e|e
  ·refine .inl fun j hj=> ?_
   rcases List.mem_append.1 hj with hj|hj
   ·exact(hc j hj).symm.trans (g j hj)
   ·rw[List.mem_singleton]at hj;subst hj;exact e
  ·exact .inr (ahead_append.2 (.inr ⟨fun j hj=>(hc j hj).symm.trans (g j hj),.inl e⟩))
  ·exact absurd e (hno d hd g)
 ·exact .inr (ahead_append.2 (.inl (ahead_congr hc g)))
theorem beats_nil {R:List RowP} {N:List NeedP} {c:Cho}:Beats R N [] c:=fun d _=> .inl fun k hk=>by cases hk
def pinR (r:RowP):PinP:=⟨r.name,r.v,r.sum⟩
def pinAt (R:List RowP) (c:Cho) (k:Txt):Option PinP:=match c k with
 |none=>none
 |some i=>R[i]?.map pinR
def pinsOf (R:List RowP) (ks:List Txt) (c:Cho):List PinP:=ks.filterMap (pinAt R c)
def idxR (R:List RowP) (k:Txt) (v:VerP):Option Nat:=R.findIdx? fun r=>decide (r.name=k)&&decide (cmpV r.v v=0)
def choP (R:List RowP) (P:List PinP):Cho:=fun k=>(P.find? fun p=>p.name==k).bind fun p=>idxR R p.name p.v
def SortP (P:List PinP):Prop:=P.Pairwise fun p q=>Op.bytesLess p.name q.name=true
def SortT (l:List Txt):Prop:=l.Pairwise fun p q=>Op.bytesLess p q=true
structure FitsP (R:List RowP) (N:List NeedP) (P:List PinP):Prop where
 sorted:SortP P
 row: ∀ p∈P,∃ r∈R,pinR r=p
 sol:Sol R N (choP R P)
theorem idx_some {R:List RowP} {k:Txt} {v:VerP} {i:Nat} (h:idxR R k v=some i): ∃ r,R[i]? =some r∧r.name=k∧r.v=v:=by
 unfold idxR at h
 obtain⟨hi,hp,_⟩:=List.findIdx?_eq_some_iff_getElem.1 h
 simp only[Bool.and_eq_true,decide_eq_true_eq]at hp
 exact⟨R[i],List.getElem?_eq_getElem hi,hp.1,(lin_ver.eq _ _).1 hp.2⟩
theorem idx_of {R:List RowP} (ha:Apart R) {i:Nat} {r:RowP} (h:R[i]? =some r):idxR R r.name r.v=some i:=by
 cases e:idxR R r.name r.v with
 |none=>
  unfold idxR at e
  rw[List.findIdx?_eq_none_iff]at e
  have:=e r (List.mem_of_getElem? h)
  simp[lin_ver.refl]at this
 |some j=>
  obtain⟨s,h1,h2,h3⟩:=idx_some e
  rw[ha i j r s h h1 h2.symm h3.symm]
theorem find_sorted: ∀ {P:List PinP},SortP P→ ∀ {p:PinP},p∈P→P.find? (fun q=>q.name==p.name)=some p
 |[],_,p,h=>by cases h
 |q::P,hs,p,h=>by
  rw[SortP,List.pairwise_cons]at hs
  rw[List.find?_cons]
  rcases List.mem_cons.1 h with rfl|h
  ·simp
  ·have:=lt_ne (hs.1 p h)
   rw[show(q.name==p.name)=false by simpa using this]
   exact find_sorted hs.2 h
theorem cho_mem {R:List RowP} (ha:Apart R) {P:List PinP} (hs:SortP P) {p:PinP} (hp:p∈P) {i:Nat} {r:RowP} (hr:R[i]? =some r) (e:pinR r=p):choP R P p.name=some i:=by
 unfold choP
 rw[find_sorted hs hp]
 subst e
 exact idx_of ha hr
theorem cho_none {R:List RowP} {P:List PinP} {k:Txt} (h: ∀ p∈P,p.name≠k):choP R P k=none:=by
 unfold choP
 rw[List.find?_eq_none.2 fun p hp e=>h p hp (by simpa using e)]
 rfl
theorem pin_mem {R:List RowP} {ks:List Txt} {c:Cho} {p:PinP} (h:p∈pinsOf R ks c): ∃ k∈ks,∃ i r,c k=some i∧R[i]? =some r∧pinR r=p:=by
 obtain⟨k,hk,e⟩:=List.mem_filterMap.1 h
 unfold pinAt at e
 split at e
 ·cases e
 ·rename_i i hi
  obtain⟨r,hr,rfl⟩:=Option.map_eq_some_iff.1 e
  exact⟨k,hk,i,r,hi,hr,rfl⟩
def Named (R:List RowP) (c:Cho):Prop:=∀ k i,c k=some i→ ∃ r,R[i]? =some r∧r.name=k
theorem pins_sorted {R:List RowP} {c:Cho} (hc:Named R c): ∀ {ks:List Txt},SortT ks→SortP (pinsOf R ks c)
 |[],_=>List.Pairwise.nil
 |k::ks,hs=>by
  rw[SortT,List.pairwise_cons]at hs
  have ih:=pins_sorted hc (ks:=ks) hs.2
  unfold pinsOf
  rw[List.filterMap_cons]
  split
  ·exact ih
  ·rename_i p hp
   refine List.Pairwise.cons (fun q hq=> ?_) ih
   obtain⟨j,hj,i,r,h1,h2,rfl⟩:=pin_mem hq
   obtain⟨r',h3,h4⟩:=hc j i h1
   rw[h2]at h3;cases h3
   unfold pinAt at hp
   split at hp
   ·cases hp
   ·rename_i i' hi'
    obtain⟨s,h5,rfl⟩:=Option.map_eq_some_iff.1 hp
    obtain⟨s',h6,h7⟩:=hc k i' hi'
    rw[h5]at h6;cases h6
    show Op.bytesLess s.name r.name=true
    rw[h7,h4]
    exact hs.1 j hj
theorem cho_pins {R:List RowP} (ha:Apart R) {c:Cho} (hc:Named R c) {ks:List Txt} (hs:SortT ks) (hk: ∀ r∈R,r.name∈ks):choP R (pinsOf R ks c)=c:=by
 funext k
 cases e:c k with
 |none=>
  refine cho_none fun p hp e'=> ?_
  obtain⟨j,hj,i,r,h1,h2,rfl⟩:=pin_mem hp
  obtain⟨r',h3,h4⟩:=hc j i h1
  rw[h2]at h3;cases h3
  have:r.name=k:=e'
  rw[←this,h4]at e
  rw[e]at h1;cases h1
 |some i=>
  obtain⟨r,h1,rfl⟩:=hc k i e
  refine cho_mem ha (pins_sorted hc hs) (p:=pinR r) (List.mem_filterMap.2 ⟨r.name,hk r (List.mem_of_getElem? h1),?_⟩) h1 rfl
  unfold pinAt
  rw[e]
  dsimp only
  rw[h1];rfl
theorem pins_fit {R:List RowP} (ha:Apart R) {N:List NeedP} {c:Cho} (h:Sol R N c) {ks:List Txt} (hs:SortT ks) (hk: ∀ r∈R,r.name∈ks):FitsP R N (pinsOf R ks c):=
 ⟨pins_sorted h.row hs,fun p hp=>by
  obtain⟨k,_,i,r,_,h2,h3⟩:=pin_mem hp
  exact⟨r,List.mem_of_getElem? h2,h3⟩,by rw[cho_pins ha h.row hs hk];exact h⟩
theorem named_cho {R:List RowP} {P:List PinP}:Named R (choP R P):=fun k i e=>by
 unfold choP at e
 obtain⟨p,hp,e⟩:=Option.bind_eq_some_iff.1 e
 obtain⟨r,h1,h2,h3⟩:=idx_some e
 have:=List.find?_some hp
 rw[beq_iff_eq]at this
 exact⟨r,h1,h2.trans this⟩
theorem pins_cho {R:List RowP} (ha:Apart R): ∀ {ks:List Txt} {P:List PinP},SortT ks→SortP P→(∀ p∈P,p.name∈ks∧ ∃ r∈R,pinR r=p)→pinsOf R ks (choP R P)=P:=by
 intro ks P hs hp hr
 have key: ∀ (ks:List Txt) (Q:List PinP),SortT ks→SortP Q→(∀ p∈Q,p.name∈ks)→(∀ p∈Q,pinAt R (choP R P) p.name=some p)→(∀ k∈ks,(∀ p∈Q,p.name≠k)→pinAt R (choP R P) k=none)→pinsOf R ks (choP R P)=Q:=by
  intro ks
  induction ks with
  |nil=>
   intro Q _ _ h _ _
   cases Q with
   |nil=>rfl
   |cons q Q=>exact absurd (h q List.mem_cons_self) (by simp)
  |cons k ks ih=>
   intro Q hs hq hm hat hno
   rw[SortT,List.pairwise_cons]at hs
   unfold pinsOf
   rw[List.filterMap_cons]
   cases Q with
   |nil=>
    rw[hno k List.mem_cons_self fun p hp=>by cases hp]
    exact ih [] hs.2 List.Pairwise.nil (fun p hp=>by cases hp) (fun p hp=>by cases hp) fun j hj h=>hno j (List.mem_cons_of_mem _ hj) h
   |cons q Q=>
    have hq':=hq
    rw[SortP,List.pairwise_cons]at hq
    by_cases e:q.name=k
    ·subst e
     rw[hat q List.mem_cons_self]
     dsimp only
     congr 1
     refine ih Q hs.2 hq.2 (fun p hp=> ?_) (fun p hp=>hat p (List.mem_cons_of_mem _ hp)) fun j hj h=>hno j (List.mem_cons_of_mem _ hj) fun p hp=> ?_
     ·rcases List.mem_cons.1 (hm p (List.mem_cons_of_mem _ hp))with e|h
      ·exact absurd e.symm (lt_ne (hq.1 p hp))
      ·exact h
     ·rcases List.mem_cons.1 hp with rfl|hp
      ·exact lt_ne (hs.1 j hj)
      ·exact h p hp
    ·have hmq: ∀ p∈q::Q,p.name∈ks:=by
      have hqk:q.name∈ks:=by
       rcases List.mem_cons.1 (hm q List.mem_cons_self)with h|h
       ·exact absurd h e
       ·exact h
      intro p hp
      rcases List.mem_cons.1 (hm p hp)with h|h
      ·rcases List.mem_cons.1 hp with rfl|hp
       ·exact absurd h e
       ·have h1:=hq.1 p hp
        have h2:=hs.1 _ hqk
        rw[h]at h1
        have:=lt_as h1
        rw[h2]at this;cases this
      ·exact h
     rw[hno k List.mem_cons_self fun p hp e'=>by
      have:=hs.1 _ (hmq p hp)
      rw[e',lt_irrefl]at this;cases this]
     exact ih (q::Q) hs.2 hq' hmq hat fun j hj h=>hno j (List.mem_cons_of_mem _ hj) h
 refine key ks P hs hp (fun p h=>(hr p h).1) (fun p h=> ?_) fun k _ h=> ?_
 ·obtain⟨r,h1,h2⟩:=(hr p h).2
  obtain⟨i,hi⟩:=List.getElem?_of_mem h1
  unfold pinAt
  rw[cho_mem ha hp h hi h2]
  dsimp only
  rw[hi,Option.map_some,h2]
 ·unfold pinAt
  rw[cho_none h]
def betterP:List PinP→List PinP→Bool
 |[],_=>false
 |_::_,[]=>true
 |p::P,q::Q=>if Op.bytesLess p.name q.name=true then true else if Op.bytesLess q.name p.name=true then false else if cmpV p.v q.v=0 then betterP P Q else decide (0<cmpV p.v q.v)
theorem better_ahead {R:List RowP} (ha:Apart R) {c d:Cho} (hc:Named R c) (hd:Named R d): ∀ {ks:List Txt},SortT ks→(betterP (pinsOf R ks c) (pinsOf R ks d)=true↔Ahead R ks c d)
 |[],_=>by simp[pinsOf,betterP,Ahead]
 |k::ks,hs=>by
  have hs':=hs
  rw[SortT,List.pairwise_cons]at hs
  have ih:=better_ahead ha hc hd (ks:=ks) hs.2
  have tail: ∀ {e:Cho},Named R e→ ∀ q∈pinsOf R ks e,Op.bytesLess k q.name=true:=fun{e} he q hq=>by
   obtain⟨j,hj,i,r,h1,h2,rfl⟩:=pin_mem hq
   obtain⟨r',h3,h4⟩:=he j i h1
   rw[h2]at h3;cases h3
   show Op.bytesLess k r.name=true
   rw[h4];exact hs.1 j hj
  have head: ∀ {e:Cho},pinsOf R (k::ks) e=match pinAt R e k with|none=>pinsOf R ks e|some p=>p::pinsOf R ks e:=fun{e}=>by
   show List.filterMap _ (k::ks)=_
   rw[List.filterMap_cons]
   cases pinAt R e k<;>rfl
  rw[head,head]
  show _↔candLt R (c k) (d k)∨(c k=d k∧Ahead R ks c d)
  cases ec:c k with
  |none=>
   have h1:pinAt R c k=none:=by unfold pinAt;rw[ec]
   rw[h1]
   cases ed:d k with
   |none=>
    have h2:pinAt R d k=none:=by unfold pinAt;rw[ed]
    rw[h2]
    simp only[candLt,false_or,true_and]
    exact ih
   |some j=>
    obtain⟨s,h3,h4⟩:=hd k j ed
    have h2:pinAt R d k=some (pinR s):=by unfold pinAt;rw[ed];dsimp only;rw[h3];rfl
    rw[h2]
    simp only[candLt,false_or,reduceCtorEq,false_and,iff_false]
    cases hP:pinsOf R ks c with
    |nil=>simp[betterP]
    |cons p P=>
     have:=tail hc p (by rw[hP];exact List.mem_cons_self)
     have e1:(pinR s).name=k:=h4
     simp[betterP,e1,this,lt_as this]
  |some i=>
   obtain⟨r,h5,h6⟩:=hc k i ec
   have h1:pinAt R c k=some (pinR r):=by unfold pinAt;rw[ec];dsimp only;rw[h5];rfl
   rw[h1]
   cases ed:d k with
   |none=>
    have h2:pinAt R d k=none:=by unfold pinAt;rw[ed]
    rw[h2]
    simp only[candLt,true_or,iff_true]
    cases hQ:pinsOf R ks d with
    |nil=>rfl
    |cons q Q=>
     have:=tail hd q (by rw[hQ];exact List.mem_cons_self)
     have e1:(pinR r).name=k:=h6
     simp[betterP,e1,this]
   |some j=>
    obtain⟨s,h3,h4⟩:=hd k j ed
    have h2:pinAt R d k=some (pinR s):=by unfold pinAt;rw[ed];dsimp only;rw[h3];rfl
    rw[h2]
    have e1:(pinR r).name=k:=h6
    have e2:(pinR s).name=k:=h4
    have e3:(pinR r).v=r.v:=rfl
    have e4:(pinR s).v=s.v:=rfl
    simp only[betterP,e1,e2,e3,e4,lt_irrefl,if_false,Bool.false_eq_true]
    by_cases e0:cmpV r.v s.v=0
    ·have:i=j:=ha i j r s h5 h3 (h6.trans h4.symm) ((lin_ver.eq _ _).1 e0)
     subst this
     rw[if_pos e0]
     rw[ih]
     constructor
     ·intro h;exact .inr ⟨rfl,h⟩
     ·rintro(h|⟨_,h⟩)
      ·exact absurd h candLt_irrefl
      ·exact h
    ·rw[if_neg e0,decide_eq_true_eq]
     constructor
     ·intro h
      rcases lin_ver.rng r.v s.v with g|g|g
      ·omega
      ·omega
      ·exact .inl ⟨r,s,h5,h3,g⟩
     ·rintro(⟨r',s',g1,g2,g3⟩|⟨g,_⟩)
      ·rw[h5]at g1;cases g1
       rw[h3]at g2;cases g2
       omega
      ·cases g
       rw[h5]at h3;cases h3
       exact absurd (lin_ver.refl _) e0
def NoFit (R:List RowP) (N:List NeedP) (ks:List Txt) (P:List PinP):Prop:=∀ d,Sol R N d→(∀ k∈ks,d k=choP R P k)→False
structure Found (R:List RowP) (N:List NeedP) (ks js:List Txt) (P:List PinP) (c:Cho):Prop where
 sol:Sol R N c
 over: ∀ k∈ks,c k=choP R P k
 best: ∀ d,Sol R N d→(∀ k∈ks,d k=choP R P k)→(∀ k∈js,c k=d k)∨Ahead R js c d
structure PinsOk (R:List RowP) (ks:List Txt) (P:List PinP):Prop where
 sorted:SortP P
 row: ∀ p∈P,p.name∈ks∧ ∃ r∈R,pinR r=p
theorem PinsOk.nil (R:List RowP):PinsOk R [] []:=⟨List.Pairwise.nil,fun p h=>by cases h⟩
theorem PinsOk.skip {R:List RowP} {ks:List Txt} {P:List PinP} (h:PinsOk R ks P) (k:Txt):PinsOk R (ks++[k]) P:=⟨h.sorted,fun p hp=>⟨List.mem_append_left _ (h.row p hp).1,(h.row p hp).2⟩⟩
theorem PinsOk.push {R:List RowP} {ks:List Txt} {P:List PinP} (h:PinsOk R ks P) {r:RowP} (hr:r∈R) (hk: ∀ j∈ks,Op.bytesLess j r.name=true):PinsOk R (ks++[r.name]) (P++[pinR r]):=by
 refine⟨List.pairwise_append.2 ⟨h.sorted,List.pairwise_singleton _ _,fun p hp q hq=> ?_⟩,fun p hp=> ?_⟩
 ·rw[List.mem_singleton]at hq;subst hq;exact hk _ (h.row p hp).1
 ·rcases List.mem_append.1 hp with hp|hp
  ·exact⟨List.mem_append_left _ (h.row p hp).1,(h.row p hp).2⟩
  ·rw[List.mem_singleton]at hp;subst hp
   exact⟨List.mem_append_right _ (List.mem_singleton.2 rfl),r,hr,rfl⟩
theorem cho_skip {R:List RowP} {ks:List Txt} {P:List PinP} (h:PinsOk R ks P) {k:Txt} (hk:k∉ks):choP R P k=none:=cho_none fun p hp e=>hk (e▸(h.row p hp).1)
theorem cho_push {R:List RowP} (ha:Apart R) {ks:List Txt} {P:List PinP} (h:PinsOk R ks P) {i:Nat} {r:RowP} (hr:R[i]? =some r) (hk: ∀ j∈ks,Op.bytesLess j r.name=true):choP R (P++[pinR r]) r.name=some i∧ ∀ j∈ks,choP R (P++[pinR r]) j=choP R P j:=by
 have h2:=h.push (List.mem_of_getElem? hr) hk
 refine⟨cho_mem ha h2.sorted (p:=pinR r) (List.mem_append_right _ (List.mem_singleton.2 rfl)) hr rfl,fun j hj=> ?_⟩
 unfold choP
 rw[List.find?_append]
 cases e:P.find? fun p=>p.name==j with
 |some p=>rfl
 |none=>
  have:((pinR r).name==j)=false:=by
   have:=lt_ne (hk j hj)
   show(r.name==j)=false
   simpa using this.symm
  rw[List.find?_cons_of_neg (by rw[this];decide)]
  rfl
def askP (R:List RowP) (N:List NeedP) (P:List PinP):List NeedP:=N++P.flatMap fun p=>match idxR R p.name p.v with
 |some i=>needsR R i
 |none=>[]
theorem ask_met {R:List RowP} (ha:Apart R) {N:List NeedP} {ks:List Txt} {P:List PinP} (h:PinsOk R ks P) {d:Cho} (hs:Sol R N d) (ho: ∀ k∈ks,d k=choP R P k) {n:NeedP} (hn:n∈askP R N P):MetC R d n:=by
 rcases List.mem_append.1 hn with hn|hn
 ·exact hs.root n hn
 ·obtain⟨p,hp,hn⟩:=List.mem_flatMap.1 hn
  obtain⟨hk,r,hr,rfl⟩:=h.row p hp
  obtain⟨i,hi⟩:=List.getElem?_of_mem hr
  rw[show idxR R (pinR r).name (pinR r).v=some i from idx_of ha hi]at hn
  dsimp only at hn
  unfold needsR at hn
  rw[hi]at hn
  exact hs.all _ i r ((ho _ hk).trans (cho_mem ha h.sorted hp hi rfl)) hi n hn
theorem open_none {R:List RowP} (ha:Apart R) {N:List NeedP} {ks:List Txt} {P:List PinP} (h:PinsOk R ks P) {n:NeedP} (hn:n∈askP R N P)
  (hbad:(∃ p∈P,p.name=n.name∧hasP n.span p.v=false)∨((∀ p∈P,p.name≠n.name)∧(n.name∈ks∨ ∀ r∈R,r.name=n.name→hasP n.span r.v=false))):NoFit R N ks P:=by
 intro d hs ho
 obtain⟨i,r,h1,h2,h3⟩:=ask_met ha h hs ho hn
 obtain⟨r',h4,h5⟩:=hs.row _ _ h1
 rw[h2]at h4;cases h4
 rcases hbad with ⟨p,hp,e,hb⟩|⟨hno,hk|hv⟩
 ·obtain⟨hk,s,hs',rfl⟩:=h.row p hp
  obtain⟨j,hj⟩:=List.getElem?_of_mem hs'
  have:=(ho _ hk).trans (cho_mem ha h.sorted hp hj rfl)
  rw[e,h1]at this;cases this
  rw[h2]at hj;cases hj
  rw[show(pinR r).v=r.v from rfl,h3]at hb;cases hb
 ·rw[ho _ hk,cho_none hno]at h1;cases h1
 ·rw[hv r (List.mem_of_getElem? h2) h5]at h3;cases h3
theorem needed_none {R:List RowP} (ha:Apart R) {N:List NeedP} {ks js:List Txt} {P:List PinP} (h:PinsOk R ks P) (hall: ∀ r∈R,r.name∈ks∨r.name∈js) {p:PinP} (hp:p∈P) (h1: ∀ n∈N,n.name≠p.name)
  (h2: ∀ r∈R,((∃ q∈P,q.name=r.name∧q.v=r.v)∨r.name∈js)→ ∀ n∈r.needs,n.name≠p.name):NoFit R N ks P:=by
 intro d hs ho
 obtain⟨hk,s,hs',rfl⟩:=h.row p hp
 obtain⟨j,hj⟩:=List.getElem?_of_mem hs'
 have hd:=(ho _ hk).trans (cho_mem ha h.sorted hp hj rfl)
 have hr:=hs.reach _ _ hd
 have key: ∀ k,Reach R N d k→k≠(pinR s).name:=fun k hr=>by
  cases hr with
  |root hn=>exact h1 _ hn
  |step _ g1 g2 g3=>
   rename_i k i r n _
   refine h2 r (List.mem_of_getElem? g2) ?_ n g3
   obtain⟨r',g4,g5⟩:=hs.row _ _ g1
   rw[g2]at g4;cases g4
   rcases hall r (List.mem_of_getElem? g2)with e|e
   ·left
    rw[g5]at e
    have:=ho _ e
    rw[g1]at this
    unfold choP at this
    obtain⟨q,hq,e'⟩:=Option.bind_eq_some_iff.1 this.symm
    obtain⟨r',g6,g7,g8⟩:=idx_some e'
    rw[g2]at g6;cases g6
    exact⟨q,List.mem_of_find?_eq_some hq,g7.symm,g8.symm⟩
   ·exact .inr e
 exact key _ hr rfl
structure Cands (R:List RowP) (k:Txt) (l:List Nat):Prop where
 mem: ∀ i,i∈l↔ ∃ r,R[i]? =some r∧r.name=k
 ord:l.Pairwise fun i j=>candLt R (some i) (some j)
theorem found_at {R:List RowP} (ha:Apart R) {N:List NeedP} {ks js:List Txt} {P:List PinP} (h:PinsOk R ks P) {l m:List Nat} {i:Nat} {r:RowP} (hc:Cands R r.name (l++i::m)) (hr:R[i]? =some r) (hk: ∀ j∈ks,Op.bytesLess j r.name=true)
  (hno: ∀ j∈l,∀ s,R[j]? =some s→NoFit R N (ks++[r.name]) (P++[pinR s])) {c:Cho} (hf:Found R N (ks++[r.name]) js (P++[pinR r]) c):Found R N ks (r.name::js) P c:=by
 obtain⟨e1,e2⟩:=cho_push ha h hr hk
 have hci:c r.name=some i:=(hf.over _ (List.mem_append_right _ (List.mem_singleton.2 rfl))).trans e1
 refine⟨hf.sol,fun k hk'=>(hf.over k (List.mem_append_left _ hk')).trans (e2 k hk'),fun d hd ho=> ?_⟩
 cases ed:d r.name with
 |none=>exact .inr (.inl (by rw[hci,ed];trivial))
 |some j=>
  obtain⟨s,h1,h2⟩:=hd.row _ _ ed
  have hj:j∈l++i::m:=(hc.mem j).2 ⟨s,h1,h2⟩
  rcases List.mem_append.1 hj with hj|hj
  ·exfalso
   have hk2: ∀ j∈ks,Op.bytesLess j s.name=true:=by rw[h2];exact hk
   obtain⟨g1,g2⟩:=cho_push ha h h1 hk2
   refine hno j hj s h1 d hd fun k hk'=> ?_
   rcases List.mem_append.1 hk' with hk'|hk'
   ·rw[g2 k hk'];exact ho k hk'
   ·rw[List.mem_singleton]at hk';subst hk';rw[←h2,g1,h2];exact ed
  ·rcases List.mem_cons.1 hj with rfl|hj
   ·rcases hf.best d hd fun k hk'=>(by
     rcases List.mem_append.1 hk' with hk'|hk'
     ·rw[e2 k hk'];exact ho k hk'
     ·rw[List.mem_singleton]at hk';subst hk';rw[e1];exact ed)with g|g
    ·exact .inl fun k hk'=>by
      rcases List.mem_cons.1 hk' with rfl|hk'
      ·exact hci.trans ed.symm
      ·exact g k hk'
    ·exact .inr (.inr ⟨hci.trans ed.symm,g⟩)
   ·have:=(List.pairwise_append.1 hc.ord).2.1
    rw[List.pairwise_cons]at this
    exact .inr (.inl (by rw[hci,ed];exact this.1 j hj))
theorem found_skip {R:List RowP} (ha:Apart R) {N:List NeedP} {ks js:List Txt} {P:List PinP} (h:PinsOk R ks P) {k:Txt} {l:List Nat} (hc:Cands R k l) (hk: ∀ j∈ks,Op.bytesLess j k=true)
  (hno: ∀ j∈l,∀ s,R[j]? =some s→NoFit R N (ks++[k]) (P++[pinR s])) {c:Cho} (hf:Found R N (ks++[k]) js P c):Found R N ks (k::js) P c:=by
 have hkn:k∉ks:=fun e=>lt_ne (hk k e) rfl
 have hcn:c k=none:=(hf.over k (List.mem_append_right _ (List.mem_singleton.2 rfl))).trans (cho_skip h hkn)
 refine⟨hf.sol,fun j hj=>hf.over j (List.mem_append_left _ hj),fun d hd ho=> ?_⟩
 cases ed:d k with
 |none=>
  rcases hf.best d hd fun j hj=>(by
   rcases List.mem_append.1 hj with hj|hj
   ·exact ho j hj
   ·rw[List.mem_singleton]at hj;subst hj;rw[ed,cho_skip h hkn])with g|g
  ·exact .inl fun j hj=>by
    rcases List.mem_cons.1 hj with rfl|hj
    ·exact hcn.trans ed.symm
    ·exact g j hj
  ·exact .inr (.inr ⟨hcn.trans ed.symm,g⟩)
 |some j=>
  exfalso
  obtain⟨s,h1,h2⟩:=hd.row _ _ ed
  have hk2: ∀ j∈ks,Op.bytesLess j s.name=true:=by rw[h2];exact hk
  obtain⟨g1,g2⟩:=cho_push ha h h1 hk2
  refine hno j ((hc.mem j).2 ⟨s,h1,h2⟩) s h1 d hd fun i hi=> ?_
  rcases List.mem_append.1 hi with hi|hi
  ·rw[g2 i hi];exact ho i hi
  ·rw[List.mem_singleton]at hi;subst hi;rw[←h2,g1,h2];exact ed
theorem nofit_all {R:List RowP} (ha:Apart R) {N:List NeedP} {ks:List Txt} {P:List PinP} (h:PinsOk R ks P) {k:Txt} {l:List Nat} (hc:Cands R k l) (hk: ∀ j∈ks,Op.bytesLess j k=true)
  (hno: ∀ j∈l,∀ s,R[j]? =some s→NoFit R N (ks++[k]) (P++[pinR s])) (hn:NoFit R N (ks++[k]) P):NoFit R N ks P:=by
 intro d hd ho
 have hkn:k∉ks:=fun e=>lt_ne (hk k e) rfl
 cases ed:d k with
 |none=>
  refine hn d hd fun j hj=> ?_
  rcases List.mem_append.1 hj with hj|hj
  ·exact ho j hj
  ·rw[List.mem_singleton]at hj;subst hj;rw[ed,cho_skip h hkn]
 |some j=>
  obtain⟨s,h1,h2⟩:=hd.row _ _ ed
  have hk2: ∀ j∈ks,Op.bytesLess j s.name=true:=by rw[h2];exact hk
  obtain⟨g1,g2⟩:=cho_push ha h h1 hk2
  refine hno j ((hc.mem j).2 ⟨s,h1,h2⟩) s h1 d hd fun i hi=> ?_
  rcases List.mem_append.1 hi with hi|hi
  ·rw[g2 i hi];exact ho i hi
  ·rw[List.mem_singleton]at hi;subst hi;rw[←h2,g1,h2];exact ed
theorem found_end {R:List RowP} {N:List NeedP} {ks:List Txt} {P:List PinP} (hs:Sol R N (choP R P)):Found R N ks [] P (choP R P):=⟨hs,fun k _=>rfl,fun d _ _=> .inl fun k hk=>by cases hk⟩
theorem nofit_end {R:List RowP} {N:List NeedP} {ks:List Txt} {P:List PinP} (hall: ∀ r∈R,r.name∈ks) (hs: ¬Sol R N (choP R P)):NoFit R N ks P:=by
 intro d hd ho
 refine hs ?_
 have:choP R P=d:=by
  funext k
  by_cases hk:k∈ks
  ·exact(ho k hk).symm
  ·cases e:choP R P k with
   |none=>
    cases e':d k with
    |none=>rfl
    |some i=>
     obtain⟨r,h1,rfl⟩:=hd.row _ _ e'
     exact absurd (hall r (List.mem_of_getElem? h1)) hk
   |some i=>
    obtain⟨r,h1,rfl⟩:=named_cho _ _ e
    exact absurd (hall r (List.mem_of_getElem? h1)) hk
 rw[this]
 exact hd
theorem found_best {R:List RowP} {N:List NeedP} {ks:List Txt} {c:Cho} (h:Found R N [] ks [] c):Best R N ks c:=⟨h.sol,fun d hd=>h.best d hd fun k hk=>by cases hk⟩
theorem order_one {α:Type} {r:α→α→Prop} (irr: ∀ a,¬r a a) (tr: ∀ a b c,r a b→r b c→r a c): ∀ {l m:List α},l.Pairwise r→m.Pairwise r→(∀ x,x∈l↔x∈m)→l=m
 |[],[],_,_,_=>rfl
 |[],b::m,_,_,h=>absurd ((h b).2 List.mem_cons_self) (by simp)
 |a::l,[],_,_,h=>absurd ((h a).1 List.mem_cons_self) (by simp)
 |a::l,b::m,hl,hm,h=>by
  rw[List.pairwise_cons]at hl hm
  have hab:a=b:=by
   rcases List.mem_cons.1 ((h a).1 List.mem_cons_self)with e|ha
   ·exact e
   ·rcases List.mem_cons.1 ((h b).2 List.mem_cons_self)with e|hb
    ·exact e.symm
    ·exact absurd (tr _ _ _ (hl.1 b hb) (hm.1 a ha)) (irr a)
  subst hab
  congr 1
  refine order_one irr tr hl.2 hm.2 fun x=>⟨fun hx=> ?_,fun hx=> ?_⟩
  ·rcases List.mem_cons.1 ((h x).1 (List.mem_cons_of_mem _ hx))with e|hx'
   ·subst e;exact absurd (hl.1 x hx) (irr x)
   ·exact hx'
  ·rcases List.mem_cons.1 ((h x).2 (List.mem_cons_of_mem _ hx))with e|hx'
   ·subst e;exact absurd (hm.1 x hx) (irr x)
   ·exact hx'
theorem sortT_one {l m:List Txt} (hl:SortT l) (hm:SortT m) (h: ∀ x,x∈l↔x∈m):l=m:=
 order_one (r:=fun p q=>Op.bytesLess p q=true) (fun a e=>by rw[lt_irrefl]at e;cases e) (fun _ _ _ h k=>lt_trans h k) hl hm h
theorem cands_one {R:List RowP} {k:Txt} {l m:List Nat} (hl:Cands R k l) (hm:Cands R k m):l=m:=
 order_one (r:=fun i j=>candLt R (some i) (some j)) (fun _=>candLt_irrefl) (fun _ _ _ h k=>candLt_trans h k) hl.ord hm.ord fun x=>(hl.mem x).trans (hm.mem x).symm
structure NamesP (R:List RowP) (ks:List Txt):Prop where
 ord:SortT ks
 mem: ∀ k,k∈ks↔ ∃ r∈R,r.name=k
theorem names_one {R:List RowP} {l m:List Txt} (hl:NamesP R l) (hm:NamesP R m):l=m:=sortT_one hl.ord hm.ord fun x=>(hl.mem x).trans (hm.mem x).symm
def insT:List Txt→Txt→List Txt
 |[],k=>[k]
 |j::l,k=>if Op.bytesLess j k=true then j::insT l k else if j=k then j::l else k::j::l
theorem insT_mem (l:List Txt) (k x:Txt):x∈insT l k↔x=k∨x∈l:=by
 induction l with
 |nil=>simp[insT]
 |cons j l ih=>
  unfold insT
  split
  ·rw[List.mem_cons,ih,List.mem_cons]
   constructor
   ·rintro(h|h|h)
    ·exact .inr (.inl h)
    ·exact .inl h
    ·exact .inr (.inr h)
   ·rintro(h|h|h)
    ·exact .inr (.inl h)
    ·exact .inl h
    ·exact .inr (.inr h)
  ·split
   ·rename_i h
    subst h
    simp
   ·simp
theorem insT_sort {l:List Txt} (h:SortT l) (k:Txt):SortT (insT l k):=by
 induction l with
 |nil=>exact List.pairwise_singleton _ _
 |cons j l ih=>
  rw[SortT,List.pairwise_cons]at h
  unfold insT
  split
  ·rename_i hjk
   refine List.Pairwise.cons (fun x hx=> ?_) (ih h.2)
   rcases (insT_mem l k x).1 hx with e|hx
   ·subst e;exact hjk
   ·exact h.1 x hx
  ·split
   ·exact List.Pairwise.cons h.1 h.2
   ·rename_i h1 h2
    have hkj:Op.bytesLess k j=true:=lt_tri (by simpa using h1) h2
    refine List.Pairwise.cons (fun x hx=> ?_) (List.Pairwise.cons h.1 h.2)
    rcases List.mem_cons.1 hx with e|hx
    ·subst e;exact hkj
    ·exact lt_trans hkj (h.1 x hx)
def namesF (R:List RowP):List Txt:=R.foldl (fun l r=>insT l r.name) []
theorem names_namesF (R:List RowP):NamesP R (namesF R):=by
 have key: ∀ (Q:List RowP) (l:List Txt),SortT l→SortT (Q.foldl (fun l r=>insT l r.name) l)∧ ∀ k,k∈Q.foldl (fun l r=>insT l r.name) l↔k∈l∨ ∃ r∈Q,r.name=k:=by
  intro Q
  induction Q with
  |nil=>intro l h;exact⟨h,fun k=>by simp⟩
  |cons r Q ih=>
   intro l h
   obtain⟨h1,h2⟩:=ih (insT l r.name) (insT_sort h _)
   refine⟨h1,fun k=> ?_⟩
   rw[List.foldl_cons,h2,insT_mem]
   constructor
   ·rintro((h|h)|⟨s,hs,h⟩)
    ·exact .inr ⟨r,List.mem_cons_self,h.symm⟩
    ·exact .inl h
    ·exact .inr ⟨s,List.mem_cons_of_mem _ hs,h⟩
   ·rintro(h|⟨s,hs,h⟩)
    ·exact .inl (.inr h)
    ·rcases List.mem_cons.1 hs with e|hs
     ·subst e;exact .inl (.inl h.symm)
     ·exact .inr ⟨s,hs,h⟩
 obtain⟨h1,h2⟩:=key R [] List.Pairwise.nil
 exact⟨h1,fun k=>by
  show k∈R.foldl _ []↔_
  rw[h2];simp⟩
def insI (R:List RowP):List Nat→Nat→List Nat
 |[],i=>[i]
 |j::l,i=>match R[j]?,R[i]? with
  |some s,some r=>if 0≤cmpV s.v r.v then j::insI R l i else i::j::l
  |_,_=>i::j::l
def candsF (R:List RowP) (k:Txt):Nat→List Nat
 |0=>[]
 |n+1=>match R[n]? with
  |some r=>if r.name=k then insI R (candsF R k n) n else candsF R k n
  |none=>candsF R k n
theorem insI_mem (R:List RowP) (l:List Nat) (i x:Nat):x∈insI R l i↔x=i∨x∈l:=by
 induction l with
 |nil=>simp[insI]
 |cons j l ih=>
  unfold insI
  split
  ·split
   ·rw[List.mem_cons,ih,List.mem_cons]
    constructor
    ·rintro(h|h|h)
     ·exact .inr (.inl h)
     ·exact .inl h
     ·exact .inr (.inr h)
    ·rintro(h|h|h)
     ·exact .inr (.inl h)
     ·exact .inl h
     ·exact .inr (.inr h)
   ·simp
  ·simp
theorem cands_mem (R:List RowP) (k:Txt): ∀ (n i:Nat),i∈candsF R k n↔i<n∧ ∃ r,R[i]? =some r∧r.name=k
 |0,i=>by simp[candsF]
 |n+1,i=>by
  have ih:=cands_mem R k n
  unfold candsF
  split
  ·rename_i r hr
   split
   ·rename_i hk
    rw[insI_mem,ih]
    constructor
    ·rintro(rfl|⟨h,g⟩)
     ·exact⟨Nat.lt_succ_self _,r,hr,hk⟩
     ·exact⟨by omega,g⟩
    ·rintro⟨h,g⟩
     by_cases e:i=n
     ·exact .inl e
     ·exact .inr ⟨by omega,g⟩
   ·rename_i hk
    rw[ih]
    constructor
    ·rintro⟨h,g⟩;exact⟨by omega,g⟩
    ·rintro⟨h,s,h1,h2⟩
     refine⟨?_,s,h1,h2⟩
     by_cases e:i=n
     ·subst e;rw[hr]at h1;cases h1;exact absurd h2 hk
     ·omega
  ·rename_i hr
   rw[ih]
   constructor
   ·rintro⟨h,g⟩;exact⟨by omega,g⟩
   ·rintro⟨h,s,h1,h2⟩
    refine⟨?_,s,h1,h2⟩
    by_cases e:i=n
    ·subst e;rw[hr]at h1;cases h1
    ·omega
theorem insI_ord {R:List RowP} (ha:Apart R) {k:Txt} {i:Nat} {r:RowP} (hr:R[i]? =some r) (hk:r.name=k): ∀ {l:List Nat},l.Pairwise (fun i j=>candLt R (some i) (some j))→(∀ j∈l,j≠i∧ ∃ s,R[j]? =some s∧s.name=k)→(insI R l i).Pairwise (fun i j=>candLt R (some i) (some j))
 |[],_,_=>List.pairwise_singleton _ _
 |j::l,h,hm=>by
  rw[List.pairwise_cons]at h
  obtain⟨hne,s,hs,hsn⟩:=hm j List.mem_cons_self
  unfold insI
  rw[hs,hr]
  dsimp only
  split
  ·rename_i hc
   refine List.Pairwise.cons (fun x hx=> ?_) (insI_ord ha hr hk h.2 fun x hx=>hm x (List.mem_cons_of_mem _ hx))
   rcases (insI_mem R l i x).1 hx with e|hx
   ·subst e
    refine⟨s,r,hs,hr,?_⟩
    rcases lin_ver.rng s.v r.v with g|g|g
    ·omega
    ·exact absurd (ha j x s r hs hr (hsn.trans hk.symm) ((lin_ver.eq _ _).1 g)) hne
    ·exact g
   ·exact h.1 x hx
  ·rename_i hc
   have hij:candLt R (some i) (some j):=⟨r,s,hr,hs,lin_ver.gt.2 (by
    rcases lin_ver.rng s.v r.v with g|g|g
    ·exact g
    ·omega
    ·omega)⟩
   refine List.Pairwise.cons (fun x hx=> ?_) (List.Pairwise.cons h.1 h.2)
   rcases List.mem_cons.1 hx with e|hx
   ·subst e;exact hij
   ·exact candLt_trans hij (h.1 x hx)
theorem cands_ord {R:List RowP} (ha:Apart R) (k:Txt): ∀ n,(candsF R k n).Pairwise (fun i j=>candLt R (some i) (some j))
 |0=>List.Pairwise.nil
 |n+1=>by
  have ih:=cands_ord ha k n
  unfold candsF
  split
  ·rename_i r hr
   split
   ·rename_i hk
    refine insI_ord ha hr hk ih fun j hj=> ?_
    obtain⟨h1,h2⟩:=(cands_mem R k n j).1 hj
    exact⟨by omega,h2⟩
   ·exact ih
  ·exact ih
theorem cands_of {R:List RowP} (ha:Apart R) (k:Txt):Cands R k (candsF R k R.length):=⟨fun i=>by
 rw[cands_mem]
 constructor
 ·rintro⟨_,h⟩;exact h
 ·rintro⟨r,h1,h2⟩
  exact⟨(List.getElem?_eq_some_iff.1 h1).1,r,h1,h2⟩,cands_ord ha k _⟩
def MetP (P:List PinP) (n:NeedP):Prop:=∃ p∈P,p.name=n.name∧hasP n.span p.v=true
inductive ReachP (R:List RowP) (N:List NeedP) (P:List PinP):Txt→Prop
 |root {n:NeedP}:n∈N→ReachP R N P n.name
 |step {r:RowP} {n:NeedP}:ReachP R N P r.name→r∈R→pinR r∈P→n∈r.needs→ReachP R N P n.name
structure FitP (R:List RowP) (N:List NeedP) (P:List PinP):Prop where
 sorted:SortP P
 row: ∀ p∈P,∃ r∈R,pinR r=p
 root: ∀ n∈N,MetP P n
 all: ∀ r∈R,pinR r∈P→ ∀ n∈r.needs,MetP P n
 reach: ∀ p∈P,ReachP R N P p.name
theorem row_one {R:List RowP} (ha:Apart R) {r s:RowP} (hr:r∈R) (hs:s∈R) (h1:r.name=s.name) (h2:r.v=s.v):r=s:=by
 obtain⟨i,hi⟩:=List.getElem?_of_mem hr
 obtain⟨j,hj⟩:=List.getElem?_of_mem hs
 obtain rfl:=ha i j r s hi hj h1 h2
 rw[hi]at hj
 exact Option.some.inj hj
theorem cho_some {R:List RowP} (ha:Apart R) {P:List PinP} (hr: ∀ p∈P,∃ r∈R,pinR r=p) {k:Txt} {i:Nat} (h:choP R P k=some i): ∃ r,R[i]? =some r∧r.name=k∧pinR r∈P:=by
 unfold choP at h
 obtain⟨p,hp,e⟩:=Option.bind_eq_some_iff.1 h
 have h1:=List.find?_some hp
 have h2:=List.mem_of_find?_eq_some hp
 rw[beq_iff_eq]at h1
 obtain⟨r,g1,g2,g3⟩:=idx_some e
 obtain⟨s,g4,rfl⟩:=hr p h2
 have:r=s:=row_one ha (List.mem_of_getElem? g1) g4 g2 g3
 subst this
 exact⟨r,g1,h1,h2⟩
theorem met_iff {R:List RowP} (ha:Apart R) {P:List PinP} (hs:SortP P) (hr: ∀ p∈P,∃ r∈R,pinR r=p) (n:NeedP):MetC R (choP R P) n↔MetP P n:=by
 constructor
 ·rintro⟨i,r,h1,h2,h3⟩
  obtain⟨s,g1,g2,g3⟩:=cho_some ha hr h1
  rw[h2]at g1;cases g1
  exact⟨pinR r,g3,g2,h3⟩
 ·rintro⟨p,hp,h1,h2⟩
  obtain⟨r,hm,rfl⟩:=hr p hp
  obtain⟨i,hi⟩:=List.getElem?_of_mem hm
  exact⟨i,r,by rw[←h1];exact cho_mem ha hs hp hi rfl,hi,h2⟩
theorem fits_fit {R:List RowP} (ha:Apart R) {N:List NeedP} {P:List PinP}:FitsP R N P↔FitP R N P:=by
 constructor
 ·intro h
  have hm:=fun n=>met_iff ha h.sorted h.row n
  have hre: ∀ k,Reach R N (choP R P) k→ReachP R N P k:=fun k hk=>by
   induction hk with
   |root hn=>exact .root hn
   |step _ h1 h2 h3 ih=>
    obtain⟨s,g1,g2,g3⟩:=cho_some ha h.row h1
    rw[h2]at g1;cases g1
    subst g2
    exact .step ih (List.mem_of_getElem? h2) g3 h3
  refine⟨h.sorted,h.row,fun n hn=>(hm n).1 (h.sol.root n hn),fun r hr hp n hn=> ?_,fun p hp=> ?_⟩
  ·obtain⟨i,hi⟩:=List.getElem?_of_mem hr
   exact(hm n).1 (h.sol.all _ i r (cho_mem ha h.sorted hp hi rfl) hi n hn)
  ·obtain⟨r,hr,e⟩:=h.row p hp
   obtain⟨i,hi⟩:=List.getElem?_of_mem hr
   exact hre _ (h.sol.reach _ i (cho_mem ha h.sorted hp hi e))
 ·intro h
  have hm:=fun n=>met_iff ha h.sorted h.row n
  have hre: ∀ k,ReachP R N P k→Reach R N (choP R P) k:=fun k hk=>by
   induction hk with
   |root hn=>exact .root hn
   |step _ h1 h2 h3 ih=>
    obtain⟨i,hi⟩:=List.getElem?_of_mem h1
    exact .step ih (cho_mem ha h.sorted h2 hi rfl) hi h3
  refine⟨h.sorted,h.row,⟨named_cho,fun n hn=>(hm n).2 (h.root n hn),fun k i r h1 h2 n hn=> ?_,fun k i h1=> ?_⟩⟩
  ·obtain⟨s,g1,g2,g3⟩:=cho_some ha h.row h1
   rw[h2]at g1;cases g1
   exact(hm n).2 (h.all r (List.mem_of_getElem? h2) g3 n hn)
  ·obtain⟨s,g1,g2,g3⟩:=cho_some ha h.row h1
   subst g2
   exact hre _ (h.reach _ g3)
theorem Lin.flip {α:Type} {f:α→α→Int} (h:Lin f):Lin (fun a b=>f b a) where
 rng a b:=h.rng _ _
 neg a b:=h.neg _ _
 eq a b:=(h.eq _ _).trans ⟨Eq.symm,Eq.symm⟩
 tr a b c h1 h2:=h.tr _ _ _ h2 h1
abbrev PKey:=Txt×VerP
def keyC (a b:PKey):Int:=lexC (fun a b=>cmpT b a) cmpV a b
theorem lin_key:Lin keyC:=Lin.lex lin_text.flip lin_ver
def keyP (p:PinP):PKey:=(p.name,p.v)
theorem better_list: ∀ (P Q:List PinP),betterP P Q=true↔listC keyC (P.map keyP) (Q.map keyP)=1
 |[],[]=>by simp[betterP,listC]
 |[],q::Q=>by simp[betterP,listC]
 |p::P,[]=>by simp[betterP,listC]
 |p::P,q::Q=>by
  have ih:=better_list P Q
  have hk:keyC (keyP p) (keyP q)=if cmpT q.name p.name=0 then cmpV p.v q.v else cmpT q.name p.name:=rfl
  rw[List.map_cons,List.map_cons]
  unfold betterP listC
  rw[hk]
  by_cases h1:Op.bytesLess p.name q.name=true
  ·have e:cmpT q.name p.name=1:=by unfold cmpT;rw[lt_as h1,h1];simp
   rw[if_pos h1,e];simp
  ·rw[if_neg h1]
   by_cases h2:Op.bytesLess q.name p.name=true
   ·have e:cmpT q.name p.name= -1:=cmpT_lt.2 h2
    rw[if_pos h2,e];simp
   ·have e:cmpT q.name p.name=0:=by unfold cmpT;rw[if_neg h2,if_neg h1]
    rw[if_neg h2,e]
    by_cases h3:cmpV p.v q.v=0
    ·simp only[h3,if_true];exact ih
    ·simp only[if_true,h3,if_false]
     rw[decide_eq_true_eq]
     have:=lin_ver.rng p.v q.v
     omega
theorem better_asymm {P Q:List PinP} (h:betterP P Q=true):betterP Q P=false:=by
 cases h':betterP Q P with
 |false=>rfl
 |true=>
  have h1:=(better_list P Q).1 h
  have h2:=(better_list Q P).1 h'
  have:=lin_key.list.neg (P.map keyP) (Q.map keyP)
  omega
theorem filterMap_eq {α β:Type} {f g:α→Option β}: ∀ {l:List α},(∀ x∈l,f x=g x)→l.filterMap f=l.filterMap g
 |[],_=>rfl
 |x::l,h=>by
  rw[List.filterMap_cons,List.filterMap_cons,h x List.mem_cons_self,filterMap_eq fun y hy=>h y (List.mem_cons_of_mem _ hy)]
structure BestP (R:List RowP) (N:List NeedP) (P:List PinP):Prop where
 fit:FitP R N P
 best: ∀ Q,FitP R N Q→Q=P∨betterP P Q=true
def Solves (R:List RowP) (N:List NeedP):Option (List PinP)→Prop
 |none=>∀ P,¬FitP R N P
 |some P=>BestP R N P
theorem solves_one {R:List RowP} {N:List NeedP} {o o':Option (List PinP)} (h:Solves R N o) (h':Solves R N o'):o=o':=by
 cases o with
 |none=>
  cases o' with
  |none=>rfl
  |some P=>exact absurd h'.fit (h P)
 |some P=>
  cases o' with
  |none=>exact absurd h.fit (h' P)
  |some Q=>
   rcases h.best Q h'.fit with e|e
   ·rw[e]
   ·rcases h'.best P h.fit with e'|e'
    ·rw[e']
    ·rw[better_asymm e]at e';cases e'
theorem solves_none {R:List RowP} (ha:Apart R) {N:List NeedP} (h: ∀ c,¬Sol R N c):Solves R N none:=fun P hP=>h _ (fits_fit ha |>.2 hP).sol
theorem solves_best {R:List RowP} (ha:Apart R) {N:List NeedP} {c:Cho} {ks:List Txt} (hk:NamesP R ks) (h:Best R N ks c):Solves R N (some (pinsOf R ks c)):=by
 have hin: ∀ r∈R,r.name∈ks:=fun r hr=>(hk.mem _).2 ⟨r,hr,rfl⟩
 refine⟨(fits_fit ha).1 (pins_fit ha h.sol hk.ord hin),fun Q hQ=> ?_⟩
 have hQ':=(fits_fit ha).2 hQ
 have eQ:pinsOf R ks (choP R Q)=Q:=pins_cho ha hk.ord hQ.sorted fun p hp=>by
  obtain⟨r,hr,e⟩:=hQ.row p hp
  exact⟨by rw[←e];exact hin r hr,r,hr,e⟩
 rcases h.best _ hQ'.sol with g|g
 ·left
  rw[←eQ]
  unfold pinsOf
  refine filterMap_eq fun k hk'=> ?_
  unfold pinAt
  rw[g k hk']
 ·right
  have:=(better_ahead ha h.sol.row hQ'.sol.row hk.ord).2 g
  rw[eQ]at this
  exact this
theorem ahead_dom {R:List RowP}: ∀ {ks:List Txt} {c d:Cho},(∀ k∈ks,c k=d k∨candLt R (c k) (d k))→(∀ k∈ks,c k=d k)∨Ahead R ks c d
 |[],_,_,_=> .inl fun k hk=>by cases hk
 |k::ks,c,d,h=>by
  rcases h k List.mem_cons_self with e|e
  ·rcases ahead_dom (fun x hx=>h x (List.mem_cons_of_mem _ hx))with g|g
   ·exact .inl fun x hx=>by
     rcases List.mem_cons.1 hx with rfl|hx
     ·exact e
     ·exact g x hx
   ·exact .inr (.inr ⟨e,g⟩)
  ·exact .inr (.inl e)
abbrev noF:Fix:=fun _=>none
def pushB (R:List RowP) (N:List NeedP) (st:Stk) (i:Nat):Bool:=match R[i]? with
 |none=>false
 |some r=> !(st.map (·.1)).contains r.name&&(askedL R N st).all (fun n=> !(n.name==r.name) || hasP n.span r.v)&&(askedL R N st).any (fun n=>n.name==r.name)&&
  r.needs.all fun n=>(st++[(r.name,i)]).all fun p=> !(p.1==n.name) || match R[p.2]? with
   |some s=>hasP n.span s.v
   |none=>true
def nameR (R:List RowP) (i:Nat):Txt:=match R[i]? with
 |some r=>r.name
 |none=>[]
theorem pushB_good {R:List RowP} {N:List NeedP} {st:Stk} {i:Nat} (h:Good R N noF st) (hb:pushB R N st i=true):Good R N noF (st++[(nameR R i,i)]):=by
 unfold pushB at hb
 unfold nameR
 cases hr:R[i]? with
 |none=>rw[hr]at hb;cases hb
 |some r=>
  rw[hr]at hb
  dsimp only at hb ⊢
  simp only[Bool.and_eq_true,Bool.not_eq_true',List.all_eq_true,List.any_eq_true,Bool.or_eq_true,beq_iff_eq,beq_eq_false_iff_ne,List.contains_iff_mem]at hb
  obtain⟨⟨⟨h1,h2⟩,h3⟩,h4⟩:=hb
  refine h.push (by simpa using h1) ⟨⟨r,hr,rfl,fun n hn e=> ?_⟩,fun x hx=>by cases hx⟩ h3 fun n hn j hj s hs=> ?_
  ·rcases h2 n hn with g|g
   ·exact absurd e g
   ·exact g
  ·have hn':n∈r.needs:=by unfold needsR at hn;rw[hr]at hn;exact hn
   have:=h4 n hn' _ hj
   rcases this with g|g
   ·exact absurd rfl g
   ·dsimp only at g
    rw[hs]at g
    exact g
def goodB (R:List RowP) (N:List NeedP):List Nat→Stk→Bool
 |[],_=>true
 |i::l,st=>pushB R N st i&&goodB R N l (st++[(nameR R i,i)])
def stackOf (R:List RowP) (l:List Nat):Stk:=l.map fun i=>(nameR R i,i)
theorem goodB_good {R:List RowP} {N:List NeedP}: ∀ {l:List Nat} {st:Stk},Good R N noF st→goodB R N l st=true→Good R N noF (st++stackOf R l)
 |[],st,h,_=>by simpa [stackOf]using h
 |i::l,st,h,hb=>by
  unfold goodB at hb
  rw[Bool.and_eq_true]at hb
  have:=goodB_good (pushB_good h hb.1) hb.2
  rw[List.append_assoc]at this
  exact this
def topB (R:List RowP) (N:List NeedP) (l:List Nat):Bool:=
 (askedL R N (stackOf R l)).all (fun n=>((stackOf R l).map (·.1)).contains n.name)&&
 R.all (fun r=>match choS (stackOf R l) r.name with
  |some i=>match R[i]? with
   |some s=>decide (s.v=r.v) || decide (cmpV s.v r.v=1)
   |none=>false
  |none=> !(N.any fun n=>n.name==r.name)&& !(R.any fun q=>q.needs.any fun n=>n.name==r.name))
def apartB:List RowP→Bool
 |[]=>true
 |r::R=>R.all (fun s=> !(decide (s.name=r.name)&&decide (s.v=r.v)))&&apartB R
theorem apartB_apart: ∀ {R:List RowP},apartB R=true→Apart R
 |[],_=>fun i j r s h=>by cases h
 |r::R,h=>by
  unfold apartB at h
  rw[Bool.and_eq_true,List.all_eq_true]at h
  have ih:=apartB_apart h.2
  have hne: ∀ s∈R,¬(s.name=r.name∧s.v=r.v):=fun s hs ⟨e1,e2⟩=>by
   have:=h.1 s hs
   rw[decide_eq_true e1,decide_eq_true e2]at this
   cases this
  intro i j a b h1 h2 e1 e2
  cases i with
  |zero=>
   cases j with
   |zero=>rfl
   |succ j=>
    simp only[List.getElem?_cons_zero,Option.some.injEq,List.getElem?_cons_succ]at h1 h2
    subst h1
    exact absurd ⟨e1.symm,e2.symm⟩ (hne b (List.mem_of_getElem? h2))
  |succ i=>
   cases j with
   |zero=>
    simp only[List.getElem?_cons_zero,Option.some.injEq,List.getElem?_cons_succ]at h1 h2
    subst h2
    exact absurd ⟨e1,e2⟩ (hne a (List.mem_of_getElem? h1))
   |succ j=>
    rw[List.getElem?_cons_succ]at h1 h2
    rw[ih i j a b h1 h2 e1 e2]
theorem reach_need {R:List RowP} {N:List NeedP} {c:Cho} {k:Txt} (h:Reach R N c k):(∃ n∈N,n.name=k)∨ ∃ r∈R,∃ n∈r.needs,n.name=k:=by
 cases h with
 |root hn=>exact .inl ⟨_,hn,rfl⟩
 |step _ _ h2 h3=>exact .inr ⟨_,List.mem_of_getElem? h2,_,h3,rfl⟩
theorem best_look {R:List RowP} {N:List NeedP} {l:List Nat} (ha:apartB R=true) (h1:goodB R N l []=true) (h2:topB R N l=true):Solves R N (some (pinsOf R (namesF R) (choS (stackOf R l)))):=by
 have hA:=apartB_apart ha
 have hg:=goodB_good (Good.nil R N noF) h1
 rw[List.nil_append]at hg
 unfold topB at h2
 rw[Bool.and_eq_true,List.all_eq_true,List.all_eq_true]at h2
 obtain⟨k1,k2⟩:=h2
 have hs:Sol R N (choS (stackOf R l)):=hg.sol fun n hn=>by simpa using k1 n hn
 refine solves_best hA (names_namesF R) ⟨hs,fun d hd=>ahead_dom fun k hk=> ?_⟩
 obtain⟨r0,hr0,hk0⟩:=((names_namesF R).mem k).1 hk
 cases ed:d k with
 |none=>
  cases ec:choS (stackOf R l) k with
  |none=>exact .inl rfl
  |some i=>exact .inr trivial
 |some j=>
  obtain⟨s,g1,g2⟩:=hd.row k j ed
  have:=k2 s (List.mem_of_getElem? g1)
  rw[g2]at this
  cases ec:choS (stackOf R l) k with
  |none=>
   rw[ec]at this
   dsimp only at this
   simp only[Bool.and_eq_true,Bool.not_eq_true',List.any_eq_false,beq_iff_eq]at this
   exfalso
   rcases reach_need (hd.reach k j ed)with ⟨n,hn,e⟩|⟨r,hr,n,hn,e⟩
   ·exact this.1 n hn e
   ·exact this.2 r hr (List.any_eq_true.2 ⟨n,hn,by simpa using e⟩)
  |some i=>
   rw[ec]at this
   dsimp only at this
   obtain⟨s',g3,g4⟩:=hs.row k i ec
   rw[g3]at this
   dsimp only at this
   rw[Bool.or_eq_true,decide_eq_true_eq,decide_eq_true_eq]at this
   rcases this with e|e
   ·left
    rw[hA i j s' s g3 g1 (g4.trans g2.symm) e]
   ·exact .inr ⟨s',s,g3,g1,e⟩
def deadB (R:List RowP):NeedP→List NeedP→Bool
 |n,[]=>R.all fun r=> !(r.name==n.name) || !hasP n.span r.v
 |n,m::l=>R.all (fun r=> !(r.name==n.name) || r.needs.contains m)&&deadB R m l
theorem deadB_none {R:List RowP} {N:List NeedP} {c:Cho} (h:Sol R N c): ∀ {l:List NeedP} {n:NeedP},MetC R c n→deadB R n l=true→False
 |[],n,⟨i,r,h1,h2,h3⟩,hb=>by
  unfold deadB at hb
  rw[List.all_eq_true]at hb
  have:=hb r (List.mem_of_getElem? h2)
  obtain⟨s,g1,g2⟩:=h.row _ _ h1
  rw[h2]at g1;cases g1
  rw[h3,g2]at this
  simp at this
 |m::l,n,⟨i,r,h1,h2,h3⟩,hb=>by
  unfold deadB at hb
  rw[Bool.and_eq_true,List.all_eq_true]at hb
  have:=hb.1 r (List.mem_of_getElem? h2)
  obtain⟨s,g1,g2⟩:=h.row _ _ h1
  rw[h2]at g1;cases g1
  rw[g2]at this
  simp only[beq_self_eq_true,Bool.not_true,Bool.false_or,List.contains_iff_mem]at this
  exact deadB_none h (h.all _ _ _ h1 h2 m this) hb.2
theorem none_look {R:List RowP} {N:List NeedP} {n:NeedP} {l:List NeedP} (ha:apartB R=true) (hn:n∈N) (hb:deadB R n l=true):Solves R N none:=
 solves_none (apartB_apart ha) fun c h=>deadB_none h (h.root n hn) hb
def asks (L:List NeedP) (k:Txt):List SpnP:=(L.filter fun n=>n.name==k).map (·.span)
theorem asks_nil (k:Txt):asks [] k=[]:=rfl
theorem asks_app (L M:List NeedP) (k:Txt):asks (L++M) k=asks L k++asks M k:=by simp[asks]
theorem asks_cons (n:NeedP) (L:List NeedP) (k:Txt):asks (n::L) k=if n.name=k then n.span::asks L k else asks L k:=by
 unfold asks
 by_cases h:n.name=k
 ·simp[h]
 ·simp[h]
theorem asks_mem {L:List NeedP} {k:Txt} {s:SpnP}:s∈asks L k↔ ∃ n∈L,n.name=k∧n.span=s:=by
 simp[asks,and_assoc]
theorem asks_len (L:List NeedP) (k:Txt):(asks L k).length≤L.length:=by
 unfold asks
 rw[List.length_map]
 exact List.length_filter_le _ _
theorem asks_ne {L:List NeedP} {k:Txt}:asks L k≠ []↔ ∃ n∈L,n.name=k:=by
 constructor
 ·intro h
  obtain⟨s,hs⟩:=List.exists_mem_of_ne_nil _ h
  obtain⟨n,h1,h2,_⟩:=asks_mem.1 hs
  exact⟨n,h1,h2⟩
 ·rintro⟨n,h1,h2⟩ e
  have:n.span∈asks L k:=asks_mem.2 ⟨n,h1,h2,rfl⟩
  rw[e]at this;cases this
theorem asks_snoc (L:List NeedP) (n:NeedP):asks (L++[n])=fun k=>if k=n.name then asks L n.name++[n.span]else asks L k:=by
 funext k
 rw[asks_app,asks_cons,asks_nil]
 by_cases h:n.name=k
 ·subst h;simp
 ·rw[if_neg h,if_neg (fun e=>h e.symm),List.append_nil]
def backA (L M:List NeedP) (i:Nat):Txt→List SpnP:=fun k=>(asks (L++M) k).take ((asks L k).length+(asks (M.drop i) k).length)
theorem backA_zero (L M:List NeedP):backA L M 0=asks (L++M):=by
 funext k
 unfold backA
 rw[List.drop_zero,asks_app,List.take_of_length_le (by rw[List.length_append];omega)]
theorem backA_all (L M:List NeedP):backA L M M.length=asks L:=by
 funext k
 unfold backA
 rw[List.drop_length,asks_nil,asks_app,List.length_nil,Nat.add_zero,List.take_left]
theorem asks_drop_le (M:List NeedP) (i:Nat) (k:Txt):(asks (M.drop i) k).length≤(asks M k).length:=by
 have:asks M k=asks (M.take i) k++asks (M.drop i) k:=by rw[←asks_app,List.take_append_drop]
 rw[this,List.length_append];omega
theorem backA_len (L M:List NeedP) (i:Nat) (k:Txt):(backA L M i k).length=(asks L k).length+(asks (M.drop i) k).length:=by
 unfold backA
 have:=asks_drop_le M i k
 rw[List.length_take,asks_app,List.length_append];omega
theorem backA_step {L M:List NeedP} {i:Nat} {n:NeedP} (h:M[i]? =some n):0<(backA L M i n.name).length∧backA L M (i+1)=fun k=>if k=n.name then(backA L M i n.name).take ((backA L M i n.name).length-1)else backA L M i k:=by
 have hd:M.drop i=n::M.drop (i+1):=by
  obtain⟨hi,e⟩:=List.getElem?_eq_some_iff.1 h
  rw[List.drop_eq_getElem_cons hi,e]
 refine⟨by rw[backA_len,hd,asks_cons,if_pos rfl,List.length_cons];omega,?_⟩
 funext k
 by_cases hk:k=n.name
 ·subst hk
  rw[if_pos rfl,backA_len]
  unfold backA
  rw[List.take_take,hd,asks_cons,if_pos rfl,List.length_cons]
  congr 1
  omega
 ·rw[if_neg hk]
  unfold backA
  rw[hd,asks_cons,if_neg (fun e=>hk e.symm)]
def verR (R:List RowP) (i:Nat):VerP:=match R[i]? with
 |some r=>r.v
 |none=>⟨0,0,0,[]⟩
theorem verR_at {R:List RowP} {i:Nat} {r:RowP} (h:R[i]? =some r):verR R i=r.v:=by unfold verR;rw[h]
theorem nameR_at {R:List RowP} {i:Nat} {r:RowP} (h:R[i]? =some r):nameR R i=r.name:=by unfold nameR;rw[h]
theorem needsR_at {R:List RowP} {i:Nat} {r:RowP} (h:R[i]? =some r):needsR R i=r.needs:=by unfold needsR;rw[h]
def okF (f:Fix) (k:Txt) (i:Nat):Bool:=match f k with
 |some x=>decide (x=some i)
 |none=>true
theorem okF_iff {f:Fix} {k:Txt} {i:Nat}:okF f k i=true↔ ∀ x,f k=some x→x=some i:=by
 unfold okF
 cases e:f k with
 |none=>simp
 |some x=>simp
def fitsB (R:List RowP) (f:Fix) (g:Txt→List SpnP) (i:Nat):Bool:=okF f (nameR R i) i&&(g (nameR R i)).all fun s=>hasP s (verR R i)
theorem fits_may {R:List RowP} {N:List NeedP} {f:Fix} {st:Stk} {i:Nat} {r:RowP} (hr:R[i]? =some r):fitsB R f (asks (askedL R N st)) i=true↔May R N f st r.name i:=by
 unfold fitsB
 rw[Bool.and_eq_true,List.all_eq_true,nameR_at hr,verR_at hr,okF_iff]
 constructor
 ·rintro⟨h1,h2⟩
  exact⟨⟨r,hr,rfl,fun n hn e=>h2 _ (asks_mem.2 ⟨n,hn,e,rfl⟩)⟩,h1⟩
 ·rintro⟨⟨s,h1,_,h2⟩,h3⟩
  rw[hr]at h1;cases h1
  refine⟨h3,fun s hs=> ?_⟩
  obtain⟨n,hn,e,rfl⟩:=asks_mem.1 hs
  exact h2 n hn e
def meetsB (R:List RowP) (c:Cho) (n:NeedP):Bool:=match c n.name with
 |some j=>hasP n.span (verR R j)
 |none=>true
theorem push_nodup {st:Stk} (h:(st.map (·.1)).Nodup) {k:Txt} (hk:k∉st.map (·.1)) (i:Nat):((st++[(k,i)]).map (·.1)).Nodup:=by
 rw[List.map_append,List.map_singleton,List.nodup_append]
 exact⟨h,by simp,fun a hma b hb e=>by rw[List.mem_singleton]at hb;subst hb;subst e;exact hk hma⟩
theorem choS_push {st:Stk} (h:(st.map (·.1)).Nodup) {k:Txt} (hk:k∉st.map (·.1)) (i:Nat) (j:Txt):choS (st++[(k,i)]) j=if j=k then some i else choS st j:=by
 have hn:=push_nodup h hk i
 by_cases e:j=k
 ·subst e
  rw[if_pos rfl]
  exact choS_of hn (List.mem_append_right _ (List.mem_singleton.2 rfl))
 ·rw[if_neg e]
  cases e1:choS st j with
  |some x=>exact choS_of hn (List.mem_append_left _ (choS_mem e1))
  |none=>
   rw[choS_none]at e1 ⊢
   rw[List.map_append,List.mem_append]
   rintro(h|h)
   ·exact e1 h
   ·exact e (by simpa using h)
theorem push_good {R:List RowP} {N:List NeedP} {f:Fix} {st:Stk} {k:Txt} {i:Nat} (h:Good R N f st) (hk:k∉st.map (·.1)) (hm:May R N f st k i) (ha: ∃ n∈askedL R N st,n.name=k)
  (hs: ∀ n∈needsR R i,meetsB R (choS (st++[(k,i)])) n=true):Good R N f (st++[(k,i)]):=
 h.push hk hm ha fun n hn j hj r hr=>by
  have:=hs n hn
  unfold meetsB at this
  rw[choS_of (push_nodup h.nodup hk i) hj]at this
  dsimp only at this
  rwa[verR_at hr]at this
theorem push_none {R:List RowP} {N:List NeedP} {f:Fix} {st:Stk} {k:Txt} {i:Nat} {n:NeedP} (hn:n∈needsR R i) (hb:meetsB R (choS (st++[(k,i)])) n=false):NoSol R N f (st++[(k,i)]):=by
 intro d hd ho _
 unfold meetsB at hb
 cases e:choS (st++[(k,i)]) n.name with
 |none=>rw[e]at hb;cases hb
 |some j=>
  rw[e]at hb
  dsimp only at hb
  have hj:=choS_mem e
  obtain⟨r,hr,_⟩:=hd.row _ _ (ho _ hj)
  rw[verR_at hr]at hb
  exact unmet_none hd ho (by rw[asked_snoc];exact List.mem_append_right _ hn) hj hr hb
theorem rows_none {R:List RowP} (ha:Apart R) {N:List NeedP} {f:Fix} {st:Stk} {k:Txt} (hk: ∃ n∈askedL R N st,n.name=k) (h: ∀ i∈(candsF R k R.length).filter (fitsB R f (asks (askedL R N st))),NoSol R N f (st++[(k,i)])):NoSol R N f st:=
 nosol_all hk fun i hm=>h i (by
  obtain⟨r,h1,h2,_⟩:=hm.row
  rw[List.mem_filter]
  refine⟨((cands_of ha k).mem i).2 ⟨r,h1,h2⟩,(fits_may h1).2 ?_⟩
  rw[h2];exact hm)
theorem row_may {R:List RowP} (ha:Apart R) {N:List NeedP} {f:Fix} {st:Stk} {k:Txt} {i:Nat} (h:i∈(candsF R k R.length).filter (fitsB R f (asks (askedL R N st)))):May R N f st k i:=by
 rw[List.mem_filter]at h
 obtain⟨r,h1,h2⟩:=((cands_of ha k).mem i).1 h.1
 rw[←h2]
 exact(fits_may h1).1 h.2
theorem push_len {R:List RowP} {N:List NeedP} {f:Fix} {st:Stk} (h:Good R N f st):st.length≤(namesF R).length:=by
 have:=Go.Vc.nodup_len h.nodup (l:=namesF R) fun k hk=>by
  obtain⟨p,hp,rfl⟩:=List.mem_map.1 hk
  obtain⟨r,h1,h2⟩:=h.row p hp
  exact((names_namesF R).mem _).2 ⟨r,List.mem_of_getElem? h1,h2⟩
 rwa[List.length_map]at this
def rowsF (R:List RowP) (st:Stk) (k:Txt):List Nat:=match choS st k with
 |some i=>[i]
 |none=>candsF R k R.length
def nextF (R:List RowP) (f:Fix) (st:Stk) (k:Txt):List Txt:=((rowsF R st k).filter (okF f k)).flatMap fun i=>(needsR R i).map (·.name)
structure FarI (R:List RowP) (N:List NeedP) (f:Fix) (st:Stk) (seen stack:List Txt):Prop where
 far: ∀ k∈seen++stack,Far R N f st k
 base: ∀ n∈askedL R N st,n.name∈seen++stack
 step: ∀ k∈seen,∀ j∈nextF R f st k,j∈seen++stack
 nodup:seen.Nodup
theorem FarI.old {R:List RowP} {N:List NeedP} {f:Fix} {st:Stk} {seen stack:List Txt} {k:Txt} (h:FarI R N f st seen (stack++[k])) (hk:k∈seen):FarI R N f st seen stack:=by
 have hsub: ∀ j,j∈seen++(stack++[k])→j∈seen++stack:=fun j hj=>by
  rcases List.mem_append.1 hj with g|g
  ·exact List.mem_append_left _ g
  ·rcases List.mem_append.1 g with g|g
   ·exact List.mem_append_right _ g
   ·rw[List.mem_singleton]at g;subst g;exact List.mem_append_left _ hk
 exact⟨fun j hj=>h.far j (by
  rcases List.mem_append.1 hj with g|g
  ·exact List.mem_append_left _ g
  ·exact List.mem_append_right _ (List.mem_append_left _ g)),fun n hn=>hsub _ (h.base n hn),fun j hj x hx=>hsub _ (h.step j hj x hx),h.nodup⟩
theorem rowsF_row {R:List RowP} {N:List NeedP} {f:Fix} {st:Stk} (hg:Good R N f st) {k:Txt} {i:Nat} (h:i∈rowsF R st k):(∃ r,R[i]? =some r∧r.name=k)∧ ∀ j,(k,j)∈st→i=j:=by
 unfold rowsF at h
 cases e:choS st k with
 |some x=>
  rw[e]at h
  have h:i=x:=by simpa using h
  subst h
  refine⟨hg.row _ (choS_mem e),fun j hj=> ?_⟩
  have:=choS_of hg.nodup hj
  rw[e]at this
  exact Option.some.inj this
 |none=>
  rw[e]at h
  dsimp only at h
  obtain⟨_,h⟩:=(cands_mem R k _ i).1 h
  exact⟨h,fun j hj=>absurd (List.mem_map.2 ⟨_,hj,rfl⟩) (choS_none.1 e)⟩
theorem FarI.new {R:List RowP} {N:List NeedP} {f:Fix} {st:Stk} (hg:Good R N f st) {seen stack:List Txt} {k:Txt} (h:FarI R N f st seen (stack++[k])) (hk:k∉seen):FarI R N f st (seen++[k]) (stack++nextF R f st k):=by
 have hkf:Far R N f st k:=h.far k (List.mem_append_right _ (List.mem_append_right _ (List.mem_singleton.2 rfl)))
 have hsub: ∀ j,j∈seen++(stack++[k])→j∈(seen++[k])++(stack++nextF R f st k):=fun j hj=>by
  rcases List.mem_append.1 hj with g|g
  ·exact List.mem_append_left _ (List.mem_append_left _ g)
  ·rcases List.mem_append.1 g with g|g
   ·exact List.mem_append_right _ (List.mem_append_left _ g)
   ·exact List.mem_append_left _ (List.mem_append_right _ g)
 refine⟨fun j hj=> ?_,fun n hn=>hsub _ (h.base n hn),fun j hj x hx=> ?_,?_⟩
 ·rcases List.mem_append.1 hj with g|g
  ·rcases List.mem_append.1 g with g|g
   ·exact h.far j (List.mem_append_left _ g)
   ·rw[List.mem_singleton]at g;subst g;exact hkf
  ·rcases List.mem_append.1 g with g|g
   ·exact h.far j (List.mem_append_right _ (List.mem_append_left _ g))
   ·unfold nextF at g
    obtain⟨i,hi,g⟩:=List.mem_flatMap.1 g
    obtain⟨n,hn,rfl⟩:=List.mem_map.1 g
    rw[List.mem_filter]at hi
    obtain⟨⟨r,h1,h2⟩,h3⟩:=rowsF_row hg hi.1
    rw[needsR_at h1]at hn
    exact .step hkf h3 h1 h2 (okF_iff.1 hi.2) hn
 ·rcases List.mem_append.1 hj with g|g
  ·exact hsub _ (h.step j g x hx)
  ·rw[List.mem_singleton]at g;subst g
   exact List.mem_append_right _ (List.mem_append_right _ hx)
 ·rw[List.nodup_append]
  exact⟨h.nodup,by simp,fun a ha b hb e=>by rw[List.mem_singleton]at hb;subst hb;subst e;exact hk ha⟩
theorem FarI.end {R:List RowP} {N:List NeedP} {f:Fix} {st:Stk} {seen:List Txt} (h:FarI R N f st seen []) (k:Txt):k∈seen↔Far R N f st k:=by
 constructor
 ·intro hk;exact h.far k (by simpa using hk)
 ·intro hk
  induction hk with
  |base hn=>simpa using h.base _ hn
  |step _ h1 h2 h3 h4 h5 ih=>
   rename_i k i r n _
   have:=h.step k ih n.name (by
    unfold nextF
    refine List.mem_flatMap.2 ⟨i,List.mem_filter.2 ⟨?_,okF_iff.2 h4⟩,List.mem_map.2 ⟨n,by rw[needsR_at h2];exact h5,rfl⟩⟩
    unfold rowsF
    cases e:choS st k with
    |some x=>have:=h1 x (choS_mem e);subst this;exact List.mem_singleton.2 rfl
    |none=>exact(cands_mem R k _ i).2 ⟨(List.getElem?_eq_some_iff.1 h2).1,r,h2,h3⟩)
   simpa using this
def setF (f:Fix) (k:Txt) (x:Option Nat):Fix:=fun j=>if j=k then some x else f j
def NoF (R:List RowP) (N:List NeedP) (f:Fix):Prop:=∀ d,Sol R N d→Obey f d→False
theorem nosol_nof {R:List RowP} {N:List NeedP} {f:Fix} (h:NoSol R N f []):NoF R N f:=fun d hd ho=>h d hd (fun p hp=>by cases hp) ho
structure BestI (R:List RowP) (N:List NeedP) (ks:List Txt) (c:Cho) (f:Fix):Prop where
 sol:Sol R N c
 beats:Beats R N ks c
 fix: ∀ k,f k=if k∈ks then some (c k)else none
theorem BestI.nil {R:List RowP} {N:List NeedP} {c:Cho} (h:Sol R N c):BestI R N [] c (fun _=>none):=⟨h,beats_nil,fun k=>by simp⟩
def candL (R:List RowP) (k:Txt):List (Option Nat):=(candsF R k R.length).map some++[none]
theorem candL_ord {R:List RowP} (ha:Apart R) (k:Txt):(candL R k).Pairwise (candLt R):=by
 unfold candL
 rw[List.pairwise_append]
 refine⟨List.pairwise_map.2 (cands_of ha k).ord,List.pairwise_singleton _ _,fun a h b hb=> ?_⟩
 rw[List.mem_singleton]at hb;subst hb
 obtain⟨i,_,rfl⟩:=List.mem_map.1 h
 trivial
theorem candL_mem {R:List RowP} {N:List NeedP} {d:Cho} (h:Sol R N d) (k:Txt):d k∈candL R k:=by
 unfold candL
 cases e:d k with
 |none=>simp
 |some i=>
  obtain⟨r,h1,h2⟩:=h.row _ _ e
  exact List.mem_append_left _ (List.mem_map.2 ⟨i,(cands_mem R k _ i).2 ⟨(List.getElem?_eq_some_iff.1 h1).1,r,h1,h2⟩,rfl⟩)
theorem obey_set {R:List RowP} {N:List NeedP} {ks:List Txt} {c:Cho} {f:Fix} (h:BestI R N ks c f) {k:Txt} {d:Cho} (hd: ∀ j∈ks,c j=d j):Obey (setF f k (d k)) d:=fun j x hx=>by
 unfold setF at hx
 by_cases e:j=k
 ·subst e;rw[if_pos rfl]at hx;exact Option.some.inj hx
 ·rw[if_neg e,h.fix]at hx
  by_cases hj:j∈ks
  ·rw[if_pos hj]at hx;rw[←hd j hj];exact Option.some.inj hx
  ·rw[if_neg hj]at hx;cases hx
theorem best_stop {R:List RowP} (ha:Apart R) {N:List NeedP} {ks:List Txt} {c:Cho} {f:Fix} (h:BestI R N ks c f) {k:Txt} (hk:k∉ks) {t:Nat} {x:Option Nat} (hx:(candL R k)[t]? =some x)
  (hno: ∀ y∈(candL R k).take t,NoF R N (setF f k y)) {c':Cho} (hs:Sol R N c') (ho:Obey (setF f k x) c'):BestI R N (ks++[k]) c' (setF f k x):=by
 have hk':c' k=x:=ho k x (by unfold setF;rw[if_pos rfl])
 have hks: ∀ j∈ks,c j=c' j:=fun j hj=>(ho j (c j) (by
  unfold setF
  rw[if_neg (fun e=>hk (by rw[←e];exact hj)),h.fix,if_pos hj])).symm
 refine⟨hs,beats_snoc ha h.beats hs hks fun d hd he hlt=> ?_,fun j=> ?_⟩
 ·rw[hk']at hlt
  obtain⟨u,hu⟩:=List.getElem?_of_mem (candL_mem hd k)
  have hp:=List.pairwise_iff_getElem.1 (candL_ord ha k)
  obtain⟨h1,e1⟩:=List.getElem?_eq_some_iff.1 hu
  obtain⟨h2,e2⟩:=List.getElem?_eq_some_iff.1 hx
  rcases Nat.lt_trichotomy u t with g|g|g
  ·exact hno (d k) (List.mem_iff_getElem?.2 ⟨u,by rw[List.getElem?_take,if_pos g];exact hu⟩) d hd (obey_set h he)
  ·subst g
   rw[hu]at hx
   rw[Option.some.inj hx]at hlt
   exact candLt_irrefl hlt
  ·have:=hp t u h2 h1 g
   rw[e1,e2]at this
   exact candLt_asymm hlt this
 ·unfold setF
  by_cases e:j=k
  ·subst e;rw[if_pos rfl,if_pos (List.mem_append_right _ (List.mem_singleton.2 rfl)),hk']
  ·rw[if_neg e,h.fix]
   by_cases hj:j∈ks
   ·rw[if_pos hj,if_pos (List.mem_append_left _ hj),hks j hj]
   ·rw[if_neg hj,if_neg]
    rw[List.mem_append,List.mem_singleton]
    rintro(g|g)
    ·exact hj g
    ·exact e g
theorem best_go {R:List RowP} {N:List NeedP} {ks:List Txt} {c:Cho} {f:Fix} (h:BestI R N ks c f) (k:Txt) (hno: ∀ y∈candL R k,NoF R N (setF f k y)):False:=
 hno (c k) (candL_mem h.sol k) c h.sol (obey_set h fun _ _=>rfl)
theorem best_end {R:List RowP} (ha:Apart R) {N:List NeedP} {c:Cho} {f:Fix} (h:BestI R N (namesF R) c f):Solves R N (some (pinsOf R (namesF R) c)):=
 solves_best ha (names_namesF R) ⟨h.sol,h.beats⟩
theorem pins_keys {R:List RowP} {c:Cho} (hc:Named R c) {ks:List Txt} (hs:SortT ks) (hm: ∀ k,k∈ks↔ ∃ i,c k=some i):pinsOf R ks c=pinsOf R (namesF R) c:=by
 have e:ks=(namesF R).filter fun k=>(c k).isSome:=by
  refine sortT_one hs ((names_namesF R).ord.sublist List.filter_sublist) fun k=> ?_
  rw[List.mem_filter,hm,Option.isSome_iff_exists]
  constructor
  ·rintro⟨i,h⟩
   obtain⟨r,h1,h2⟩:=hc k i h
   exact⟨((names_namesF R).mem k).2 ⟨r,List.mem_of_getElem? h1,h2⟩,i,h⟩
  ·exact fun h=>h.2
 rw[e]
 unfold pinsOf
 generalize namesF R=l
 induction l with
 |nil=>rfl
 |cons k l ih=>
  rw[List.filter_cons]
  cases h:c k with
  |some i=>rw[if_pos (by rfl),List.filterMap_cons,List.filterMap_cons,ih]
  |none=>
   rw[if_neg (by simp),ih,List.filterMap_cons]
   have:pinAt R c k=none:=by unfold pinAt;rw[h]
   rw[this]
theorem pins_snoc {R:List RowP} {c:Cho} {ks:List Txt} {t:Nat} {k:Txt} {i:Nat} {r:RowP} (hk:ks[t]? =some k) (hc:c k=some i) (hr:R[i]? =some r):pinsOf R (ks.take (t+1)) c=pinsOf R (ks.take t) c++[pinR r]:=by
 unfold pinsOf
 rw[List.take_add_one,hk,List.filterMap_append]
 congr 1
 have:pinAt R c k=some (pinR r):=by unfold pinAt;rw[hc];dsimp only;rw[hr];rfl
 simp[this]
theorem snoc_cases {α:Type} (A:List α):A=[]∨ ∃ A' y,A=A'++[y]:=by
 by_cases h:A=[]
 ·exact .inl h
 ·exact .inr ⟨A.dropLast,A.getLast h,(List.dropLast_concat_getLast h).symm⟩
def ofName (R:List RowP) (k:Txt) (n:Nat):List Nat:=(List.range n).filter fun i=>decide (∃ r,R[i]? =some r∧r.name=k)
theorem ofName_mem (R:List RowP) (k:Txt) (n i:Nat):i∈ofName R k n↔i<n∧ ∃ r,R[i]? =some r∧r.name=k:=by
 unfold ofName
 rw[List.mem_filter,List.mem_range,decide_eq_true_eq]
theorem ofName_nodup (R:List RowP) (k:Txt) (n:Nat):(ofName R k n).Nodup:=List.Nodup.sublist List.filter_sublist List.nodup_range
theorem ofName_succ {R:List RowP} {n:Nat} {r:RowP} (h:R[n]? =some r) (k:Txt):ofName R k (n+1)=if r.name=k then ofName R k n++[n]else ofName R k n:=by
 unfold ofName
 rw[List.range_succ,List.filter_append]
 by_cases e:r.name=k
 ·rw[if_pos e]
  congr 1
  rw[List.filter_cons,if_pos (by rw[decide_eq_true_eq];exact⟨r,h,e⟩),List.filter_nil]
 ·rw[if_neg e,List.filter_cons,if_neg (by
   rw[decide_eq_true_eq]
   rintro⟨s,h1,h2⟩
   rw[h]at h1;cases h1
   exact e h2),List.filter_nil,List.append_nil]
theorem ofName_len (R:List RowP) (k:Txt) (n:Nat):(ofName R k n).length≤n:=by
 unfold ofName
 have:=List.length_filter_le (fun i=>decide (∃ r,R[i]? =some r∧r.name=k)) (List.range n)
 rwa[List.length_range]at this
structure SortI (R:List RowP) (k:Txt) (l:List Nat) (i:Nat):Prop where
 perm:l.Perm (ofName R k R.length)
 le:i≤l.length
 ord:(l.take i).Pairwise fun i j=>candLt R (some i) (some j)
structure CarI (R:List RowP) (k:Txt) (l:List Nat) (i j:Nat):Prop where
 perm:l.Perm (ofName R k R.length)
 out: ∃ A x B C,l=A++x::(B++C)∧A.length=j∧(A++B).length=i∧((A++B).Pairwise fun i j=>candLt R (some i) (some j))∧ ∀ b∈B,candLt R (some x) (some b)
theorem SortI.start {R:List RowP} {k:Txt} {l:List Nat} {i:Nat} (h:SortI R k l i) (hi:i<l.length):CarI R k l i i:=by
 refine⟨h.perm,l.take i,l[i],[],l.drop (i+1),?_,by rw[List.length_take];omega,by rw[List.append_nil,List.length_take];omega,by rw[List.append_nil];exact h.ord,fun b hb=>by cases hb⟩
 rw[List.nil_append,←List.drop_eq_getElem_cons hi,List.take_append_drop]
theorem sort_row {R:List RowP} {k:Txt} {l:List Nat} (h:l.Perm (ofName R k R.length)) {x:Nat} (hx:x∈l): ∃ r,R[x]? =some r∧r.name=k:=((ofName_mem R k _ x).1 (h.mem_iff.1 hx)).2
theorem CarI.le {R:List RowP} {k:Txt} {l:List Nat} {i j:Nat} (h:CarI R k l i j):j≤i∧i<l.length:=by
 obtain⟨A,x,B,C,rfl,h1,h2,_,_⟩:=h.out
 rw[List.length_append]at h2
 simp only[List.length_append,List.length_cons]
 omega
theorem CarI.swap {R:List RowP} {k:Txt} {l:List Nat} {i j:Nat} (h:CarI R k l i (j+1)) {x y:Nat} (hx:l[j+1]? =some x) (hy:l[j]? =some y) (hlt:candLt R (some x) (some y)):CarI R k ((l.set (j+1) y).set j x) i j:=by
 obtain⟨A,x',B,C,hl,h1,h2,h3,h4⟩:=h.out
 obtain⟨A',y',rfl⟩: ∃ A' y',A=A'++[y']:=by
  rcases snoc_cases A with rfl|⟨A',y',rfl⟩
  ·simp at h1
  ·exact⟨A',y',rfl⟩
 have hj:A'.length=j:=by simpa using h1
 have ex:x'=x:=by
  rw[hl,List.getElem?_append_right (by simp;omega)]at hx
  simpa [hj]using hx
 have ey:y'=y:=by
  rw[hl,List.append_assoc,List.getElem?_append_right (by omega)]at hy
  simpa [hj]using hy
 subst ex ey
 have hset:(l.set (j+1) y').set j x'=A'++x'::((y'::B)++C):=by
  rw[hl]
  apply List.ext_getElem?
  intro n
  rw[List.getElem?_set,List.getElem?_set]
  by_cases e:j=n
  ·subst e
   rw[if_pos rfl,if_pos (by simp;omega),List.getElem?_append_right (by omega)]
   simp[hj]
  ·rw[if_neg e]
   by_cases e2:j+1=n
   ·subst e2
    rw[if_pos rfl,if_pos (by simp;omega),List.getElem?_append_right (by omega)]
    simp[hj]
   ·rw[if_neg e2]
    rcases Nat.lt_or_ge n j with g|g
    ·rw[List.append_assoc,List.getElem?_append_left (by omega),List.getElem?_append_left (by omega)]
    ·obtain⟨m,rfl⟩: ∃ m,n=j+2+m:=⟨n-(j+2),by omega⟩
     rw[List.getElem?_append_right (by simp;omega),List.getElem?_append_right (by omega)]
     simp only[List.length_append,List.length_singleton,hj]
     rw[show j+2+m-(j+1)=m+1 by omega,show j+2+m-j=m+2 by omega]
     simp
 refine⟨?_,A',x',y'::B,C,hset,hj,by simpa using h2,by simpa using h3,fun b hb=> ?_⟩
 ·rw[hset]
  refine List.Perm.trans ?_ h.perm
  rw[hl,List.append_assoc]
  refine List.Perm.append_left A' ?_
  exact List.Perm.swap y' x' (B++C)
 ·rcases List.mem_cons.1 hb with rfl|hb
  ·exact hlt
  ·exact h4 b hb
theorem CarI.stop {R:List RowP} (ha:Apart R) {k:Txt} {l:List Nat} {i j:Nat} (h:CarI R k l i j) (hs: ∀ j' x y,j=j'+1→l[j]? =some x→l[j']? =some y→ ∀ r s,R[x]? =some r→R[y]? =some s→ ¬cmpV s.v r.v<0):SortI R k l (i+1):=by
 have hle:=h.le
 have hnd:l.Nodup:=h.perm.nodup_iff.2 (ofName_nodup R k _)
 obtain⟨A,x,B,C,hl,h1,h2,h3,h4⟩:=h.out
 have htake:l.take (i+1)=A++x::B:=by
  rw[hl,show A++x::(B++C)=(A++x::B)++C by simp,List.take_left' (by simp at h2 ⊢;omega)]
 refine⟨h.perm,hle.2,?_⟩
 rw[htake]
 rw[List.pairwise_append]at h3 ⊢
 obtain⟨p1,p2,p3⟩:=h3
 have hxA: ∀ a∈A,candLt R (some a) (some x):=by
  rcases snoc_cases A with rfl|⟨A',y,rfl⟩
  ·intro a h;cases h
  ·have hx:l[j]? =some x:=by rw[hl,List.getElem?_append_right (by omega),h1,Nat.sub_self];rfl
   have hj:j=A'.length+1:=by simpa using h1.symm
   have hy:l[A'.length]? =some y:=by rw[hl,List.append_assoc,List.getElem?_append_right (Nat.le_refl _),Nat.sub_self];rfl
   obtain⟨r,hr,hrn⟩:=sort_row h.perm (List.mem_of_getElem? hx)
   obtain⟨s,hsr,hsn⟩:=sort_row h.perm (List.mem_of_getElem? hy)
   have hge:=hs A'.length x y hj hx hy r s hr hsr
   have hyx:candLt R (some y) (some x):=by
    refine⟨s,r,hsr,hr,?_⟩
    rcases lin_ver.rng s.v r.v with g|g|g
    ·omega
    ·have:=ha y x s r hsr hr (hsn.trans hrn.symm) ((lin_ver.eq _ _).1 g)
     subst this
     rw[hl]at hnd
     simp[List.nodup_append]at hnd
    ·exact g
   rw[List.pairwise_append]at p1
   intro a hma
   rcases List.mem_append.1 hma with g|g
   ·exact candLt_trans (p1.2.2 a g y (List.mem_singleton.2 rfl)) hyx
   ·rw[List.mem_singleton]at g;subst g;exact hyx
 refine⟨p1,List.Pairwise.cons h4 p2,fun a hma b hb=> ?_⟩
 rcases List.mem_cons.1 hb with rfl|hb
 ·exact hxA a hma
 ·exact p3 a hma b hb
theorem SortI.one {R:List RowP} {k:Txt} {l:List Nat} (h:l.Perm (ofName R k R.length)):SortI R k l (min 1 l.length):=by
 refine⟨h,Nat.min_le_right _ _,?_⟩
 cases l with
 |nil=>exact List.Pairwise.nil
 |cons a l=>
  rw[show min 1 (a::l).length=1 by simp]
  exact List.pairwise_singleton _ _
theorem SortI.all {R:List RowP} (ha:Apart R) {k:Txt} {l:List Nat} (h:SortI R k l l.length):l=candsF R k R.length:=by
 refine cands_one (k:=k) (R:=R) ⟨fun i=> ?_,by have:=h.ord;rwa[List.take_length]at this⟩ (cands_of ha k)
 rw[h.perm.mem_iff,ofName_mem]
 constructor
 ·exact fun h=>h.2
 ·rintro⟨r,h1,h2⟩
  exact⟨(List.getElem?_eq_some_iff.1 h1).1,r,h1,h2⟩
def allU (R:List RowP) (N:List NeedP):List Txt:=N.map (·.name)++R.flatMap fun r=>r.needs.map (·.name)
theorem needsR_all {R:List RowP} {N:List NeedP} {i:Nat} {n:NeedP} (h:n∈needsR R i):n.name∈allU R N:=by
 unfold needsR at h
 split at h
 ·rename_i r hr
  exact List.mem_append_right _ (List.mem_flatMap.2 ⟨r,List.mem_of_getElem? hr,List.mem_map.2 ⟨n,h,rfl⟩⟩)
 ·cases h
theorem asked_all {R:List RowP} {N:List NeedP} {st:Stk} {n:NeedP} (h:n∈askedL R N st):n.name∈allU R N:=by
 rcases List.mem_append.1 h with h|h
 ·exact List.mem_append_left _ (List.mem_map.2 ⟨n,h,rfl⟩)
 ·obtain⟨p,_,h⟩:=List.mem_flatMap.1 h
  exact needsR_all h
theorem far_all {R:List RowP} {N:List NeedP} {f:Fix} {st:Stk} {k:Txt} (h:Far R N f st k):k∈allU R N:=by
 cases h with
 |base hn=>exact asked_all hn
 |step _ _ h2 _ _ h5=>exact List.mem_append_right _ (List.mem_flatMap.2 ⟨_,List.mem_of_getElem? h2,List.mem_map.2 ⟨_,h5,rfl⟩⟩)
theorem flat_len {α β:Type} (g:α→List β) (m:Nat): ∀ (l:List α),(∀ x∈l,(g x).length≤m)→(l.flatMap g).length≤l.length*m
 |[],_=>by simp
 |x::l,h=>by
  have:=flat_len g m l fun y hy=>h y (List.mem_cons_of_mem _ hy)
  have h1:=h x List.mem_cons_self
  rw[List.flatMap_cons,List.length_append,List.length_cons,Nat.succ_mul]
  omega
theorem needsR_len {R:List RowP} (h: ∀ r∈R,r.needs.length≤1000) (i:Nat):(needsR R i).length≤1000:=by
 unfold needsR
 split
 ·rename_i r hr
  exact h r (List.mem_of_getElem? hr)
 ·exact Nat.zero_le _
theorem allU_len {R:List RowP} {N:List NeedP} (h: ∀ r∈R,r.needs.length≤1000) (hR:R.length≤200) (hN:N.length≤1000):(allU R N).length≤201000:=by
 unfold allU
 have:=flat_len (fun r:RowP=>r.needs.map (·.name)) 1000 R fun r hr=>by rw[List.length_map];exact h r hr
 rw[List.length_append,List.length_map]
 have:R.length*1000≤200*1000:=Nat.mul_le_mul_right _ hR
 omega
theorem cmpV_parts (a b:VerP):cmpV a b=if cmpI a.ma b.ma≠0 then cmpI a.ma b.ma else if cmpI a.mi b.mi≠0 then cmpI a.mi b.mi else if cmpI a.pa b.pa≠0 then cmpI a.pa b.pa else
  if a.pre=[]∨b.pre=[]then cmpI b.pre.length 0-cmpI a.pre.length 0 else listC markC a.pre b.pre:=by
 unfold cmpV verK
 simp only[lexC]
 by_cases h1:cmpI a.ma b.ma=0
 ·by_cases h2:cmpI a.mi b.mi=0
  ·by_cases h3:cmpI a.pa b.pa=0
   ·simp only[h1,h2,h3,if_true,ne_eq,not_true_eq_false,if_false]
    cases ha:a.pre with
    |nil=>
     cases hb:b.pre with
     |nil=>simp[cmpI,listC]
     |cons c m=>simp[cmpI];omega
    |cons c m=>
     cases hb:b.pre with
     |nil=>simp[cmpI];omega
     |cons c' m'=>simp[cmpI]
   ·simp[h1,h2,h3]
  ·simp[h1,h2]
 ·simp[h1]
end Go.Slv
namespace Go.Why
open Go.Scr Go.Tre Go.Slv
def insW:List Txt→Txt→List Txt
 |[],k=>[k]
 |j::l,k=>if Op.bytesLess j k=true then j::insW l k else k::j::l
def namesN (l:List NeedP):List Txt:=l.foldl (fun o n=>insW o n.name) []
def LeT (a b:Txt):Prop:=Op.bytesLess b a=false
theorem leT_trans {a b c:Txt} (h:LeT a b) (k:LeT b c):LeT a c:=by
 unfold LeT at*
 cases e:Op.bytesLess c a with
 |false=>rfl
 |true=>
  by_cases hab:a=b
  ·subst hab;rw[e]at k;cases k
  ·have:=lt_tri h (fun e=>hab e.symm)
   have:=lt_trans e this
   rw[this]at k;cases k
theorem leT_anti {a b:Txt} (h:LeT a b) (k:LeT b a):a=b:=by
 by_cases hab:a=b
 ·exact hab
 ·have:=lt_tri h (fun e=>hab e.symm)
  unfold LeT at k
  rw[this]at k;cases k
theorem insW_perm (l:List Txt) (k:Txt):(insW l k).Perm (l++[k]):=by
 induction l with
 |nil=>exact List.Perm.refl _
 |cons j l ih=>
  unfold insW
  split
  ·exact ih.cons j
  ·exact(List.perm_append_singleton k (j::l)).symm
theorem insW_le {l:List Txt} (h:l.Pairwise LeT) (k:Txt):(insW l k).Pairwise LeT:=by
 induction l with
 |nil=>exact List.pairwise_singleton _ _
 |cons j l ih=>
  rw[List.pairwise_cons]at h
  unfold insW
  split
  ·rename_i hjk
   refine List.Pairwise.cons (fun x hx=> ?_) (ih h.2)
   have hx:=(insW_perm l k).mem_iff.1 hx
   rcases List.mem_append.1 hx with hx|hx
   ·exact h.1 x hx
   ·rw[List.mem_singleton]at hx;subst hx;exact lt_as hjk
  ·rename_i hjk
   have hkj:LeT k j:=by simpa [LeT]using hjk
   refine List.Pairwise.cons (fun x hx=> ?_) (List.Pairwise.cons h.1 h.2)
   rcases List.mem_cons.1 hx with rfl|hx
   ·exact hkj
   ·exact leT_trans hkj (h.1 x hx)
theorem namesN_spec (l:List NeedP):(namesN l).Perm (l.map (·.name))∧(namesN l).Pairwise LeT:=by
 have key: ∀ (l:List NeedP) (o:List Txt),o.Pairwise LeT→(l.foldl (fun o n=>insW o n.name) o).Perm (o++l.map (·.name))∧(l.foldl (fun o n=>insW o n.name) o).Pairwise LeT:=by
  intro l
  induction l with
  |nil=>intro o h;exact⟨by simp,h⟩
  |cons n l ih=>
   intro o h
   obtain⟨h1,h2⟩:=ih (insW o n.name) (insW_le h _)
   refine⟨h1.trans ?_,h2⟩
   have:=(insW_perm o n.name).append_right (l.map (·.name))
   refine this.trans ?_
   simp
 have:=key l [] List.Pairwise.nil
 simpa [namesN]using this
theorem sort_one {a b:List Txt} (hp:a.Perm b) (h1:a.Pairwise LeT) (h2:b.Pairwise LeT):a=b:=
 hp.eq_of_pairwise (fun x y _ _=>leT_anti) h1 h2
theorem namesN_one {l:List NeedP} {o:List Txt} (hp:o.Perm (l.map (·.name))) (ho:o.Pairwise LeT):o=namesN l:=
 sort_one (hp.trans (namesN_spec l).1.symm) ho (namesN_spec l).2
theorem namesN_mem (l:List NeedP) (k:Txt):k∈namesN l↔ ∃ n∈l,n.name=k:=by
 rw[(namesN_spec l).1.mem_iff,List.mem_map]
def needsP (R:List RowP) (P:List PinP) (k:Txt):List NeedP:=match P.find? fun p=>p.name==k with
 |none=>[]
 |some p=>match idxR R p.name p.v with
  |none=>[]
  |some i=>needsR R i
def nextN (R:List RowP) (N:List NeedP) (P:List PinP) (path:List Txt):List Txt:=namesN (match path.getLast? with
 |none=>N
 |some k=>needsP R P k)
def goN (name:Txt) (path:List Txt):List Txt→List Txt→List (List Txt)→List Txt ⊕ (List Txt×List (List Txt))
 |[],seen,deep=> .inr (seen,deep)
 |n::l,seen,deep=>if n∈seen then goN name path l seen deep else if n=name then .inl (path++[n])else goN name path l (seen++[n]) (deep++[path++[n]])
def goL (R:List RowP) (N:List NeedP) (P:List PinP) (name:Txt):List (List Txt)→List Txt→List (List Txt)→List Txt ⊕ (List Txt×List (List Txt))
 |[],seen,deep=> .inr (seen,deep)
 |path::l,seen,deep=>match goN name path (nextN R N P path) seen deep with
  | .inl w=> .inl w
  | .inr (seen',deep')=>goL R N P name l seen' deep'
def bfs (R:List RowP) (N:List NeedP) (P:List PinP) (name:Txt):Nat→List (List Txt)→List Txt→List Txt
 |0,_,_=>[]
 |f+1,level,seen=>match level with
  |[]=>[]
  |x::l=>match goL R N P name (x::l) seen []with
   | .inl w=>w
   | .inr (seen',deep)=>bfs R N P name f deep seen'
def allN (R:List RowP) (N:List NeedP):List Txt:=N.map (·.name)++R.flatMap fun r=>r.needs.map (·.name)
def pathF (R:List RowP) (N:List NeedP) (P:List PinP) (name:Txt):List Txt:=if P.any (fun p=>p.name==name)then bfs R N P name ((allN R N).length+2) [[]] []else []
def usersF (R:List RowP) (N:List NeedP) (P:List PinP) (name:Txt):List Txt:=
 (if N.any fun n=>n.name==name then [[]]else [])++(P.filter fun p=>(needsP R P p.name).any fun n=>n.name==name).map (·.name)
def coreL (fails:List NeedP→Bool):List NeedP→List NeedP→List NeedP
 |kept,[]=>kept
 |kept,n::l=>if fails (kept++l)then coreL fails kept l else coreL fails (kept++[n]) l
def coreF (fails:List NeedP→Bool) (N:List NeedP):List Txt:=if fails N then(coreL fails [] N).map (·.name)else []
theorem needsP_mem {R:List RowP} {P:List PinP} {k:Txt} {n:NeedP} (h:n∈needsP R P k): ∃ r∈R,n∈r.needs:=by
 unfold needsP at h
 split at h
 ·cases h
 ·split at h
  ·cases h
  ·unfold needsR at h
   split at h
   ·rename_i r hr
    exact⟨r,List.mem_of_getElem? hr,h⟩
   ·cases h
theorem nextN_all {R:List RowP} {N:List NeedP} {P:List PinP} {path:List Txt} {k:Txt} (h:k∈nextN R N P path):k∈allN R N:=by
 unfold nextN at h
 rw[namesN_mem]at h
 obtain⟨n,hn,rfl⟩:=h
 unfold allN
 rw[List.mem_append]
 split at hn
 ·exact .inl (List.mem_map.2 ⟨n,hn,rfl⟩)
 ·obtain⟨r,hr,hn⟩:=needsP_mem hn
  exact .inr (List.mem_flatMap.2 ⟨r,hr,List.mem_map.2 ⟨n,hn,rfl⟩⟩)
structure GoR (R:List RowP) (N:List NeedP) (P:List PinP) (name:Txt) (done:List (List Txt)) (seen:List Txt) (deep:List (List Txt)) (seen':List Txt) (deep':List (List Txt)):Prop where
 ext: ∃ new:List Txt,seen'=seen++new∧deep'.filterMap (·.getLast?)=deep.filterMap (·.getLast?)++new
 nodup:seen'.Nodup
 name:name∉seen'
 next: ∀ w∈done,∀ k∈nextN R N P w,k∈seen'
 all: ∀ k∈seen',k∈seen∨k∈allN R N
 ne:(∀ w∈deep,w≠ [])→ ∀ w∈deep',w≠ []
def NoFits (R:List RowP) (N:List NeedP):Prop:=∀ P,¬FitP R N P
end Go.Why
namespace Go.Slv
open Go.Scr Go.Tre
end Go.Slv
namespace Go.Why
open Go.Scr Go.Tre Go.Slv
end Go.Why
namespace Go.Slv
open Go Go.Scr Go.Vc
def dstep (acc:List Txt) (x:Txt):List Txt:=if acc.getLast? =some x then acc else acc++[x]
def dd (l:List Txt):List Txt:=l.foldl dstep []
theorem dd_snoc (l:List Txt) (x:Txt):dd (l++[x])=dstep (dd l) x:=by unfold dd;rw[List.foldl_append];rfl
theorem dfold_last: ∀ (m acc:List Txt),(m.foldl dstep acc).getLast? =(acc++m).getLast?
 |[],acc=>by simp
 |x::m,acc=>by
  rw[List.foldl_cons,dfold_last m]
  have hx:(dstep acc x).getLast? =some x:=by
   unfold dstep
   split
   ·assumption
   ·simp
  cases m with
  |nil=>simp[hx]
  |cons y m=>simp[List.getLast?_append,List.getLast?_cons]
theorem dd_last (l:List Txt):(dd l).getLast? =l.getLast? :=by
 have:=dfold_last l []
 rwa[List.nil_append]at this
theorem dfold_mem (k:Txt): ∀ (m acc:List Txt),k∈m.foldl dstep acc↔k∈acc∨k∈m
 |[],acc=>by simp
 |x::m,acc=>by
  rw[List.foldl_cons,dfold_mem k m,List.mem_cons]
  unfold dstep
  split
  ·rename_i h
   have hm:x∈acc:=List.mem_of_getLast? h
   constructor
   ·rintro(h|h)
    ·exact .inl h
    ·exact .inr (.inr h)
   ·rintro(h|rfl|h)
    ·exact .inl h
    ·exact .inl hm
    ·exact .inr h
  ·rw[List.mem_append,List.mem_singleton,or_assoc]
theorem dd_mem (l:List Txt) (k:Txt):k∈dd l↔k∈l:=by
 have:=dfold_mem k l []
 unfold dd
 rw[this];simp
theorem sort_snoc {acc:List Txt} {x:Txt} (hs:SortT acc) (hle: ∀ a∈acc,Go.Why.LeT a x) (hx:acc.getLast? ≠some x):SortT (acc++[x]):=by
 unfold SortT
 rw[List.pairwise_append]
 refine⟨hs,List.pairwise_singleton _ _,fun a ha b hb=> ?_⟩
 rw[List.mem_singleton]at hb;subst hb
 have key:a≠b:=by
  rintro rfl
  obtain⟨i,hi⟩:=List.getElem?_of_mem ha
  obtain⟨h1,e1⟩:=List.getElem?_eq_some_iff.1 hi
  rw[List.getLast?_eq_getElem?]at hx
  by_cases e:i=acc.length-1
  ·rw[e]at hi;exact hx hi
  ·have h2:acc.length-1<acc.length:=by omega
   have h3:=List.pairwise_iff_getElem.1 hs i (acc.length-1) h1 h2 (by omega)
   rw[e1]at h3
   have h4:=hle _ (List.getElem_mem h2)
   unfold Go.Why.LeT at h4
   rw[h3]at h4;cases h4
 exact Go.Tre.lt_tri (hle a ha) (fun e=>key e.symm)
theorem dfold_sort: ∀ (m acc:List Txt),SortT acc→(∀ a∈acc,∀ b∈m,Go.Why.LeT a b)→m.Pairwise Go.Why.LeT→SortT (m.foldl dstep acc)
 |[],acc,h,_,_=>h
 |x::m,acc,h,hle,hp=>by
  rw[List.pairwise_cons]at hp
  rw[List.foldl_cons]
  refine dfold_sort m _ ?_ ?_ hp.2
  ·unfold dstep
   split
   ·exact h
   ·rename_i hx
    exact sort_snoc h (fun a ha=>hle a ha x (List.mem_cons_self ..)) hx
  ·intro a ha b hb
   have:a∈acc∨a=x:=by
    unfold dstep at ha
    split at ha
    ·exact .inl ha
    ·simpa using ha
   rcases this with h|rfl
   ·exact hle a h b (List.mem_cons_of_mem _ hb)
   ·exact hp.1 b hb
theorem dd_sort {l:List Txt} (h:l.Pairwise Go.Why.LeT):SortT (dd l):=dfold_sort l [] List.Pairwise.nil (fun a ha=>by cases ha) h
theorem dd_len (l:List Txt):(dd l).length≤l.length:=by
 have key: ∀ (m acc:List Txt),(m.foldl dstep acc).length≤acc.length+m.length:=by
  intro m
  induction m with
  |nil=>intro acc;simp
  |cons x m ih=>
   intro acc
   rw[List.foldl_cons]
   refine Nat.le_trans (ih _) ?_
   have:(dstep acc x).length≤acc.length+1:=by
    unfold dstep;split<;>simp
   simp only[List.length_cons];omega
 have:=key l []
 rw[List.length_nil,Nat.zero_add]at this
 exact this
theorem dd_new {l:List Txt} {k:Nat} {x y:Txt} (hy:l[k]? =some y) (hx:l[k+1]? =some x) (h:x≠y):dd (l.take (k+2))=dd (l.take (k+1))++[x]:=by
 rw[List.take_add_one (i:=k+1),hx]
 show dd (_++[x])=_
 rw[dd_snoc]
 unfold dstep
 rw[dd_last,List.take_add_one,hy,if_neg]
 simp only[Option.toList,List.getLast?_append,List.getLast?_singleton,Option.some_or]
 intro e;exact h (Option.some.inj e).symm
theorem dd_old {l:List Txt} {k:Nat} {y:Txt} (hy:l[k]? =some y) (hx:l[k+1]? =some y):dd (l.take (k+2))=dd (l.take (k+1)):=by
 rw[List.take_add_one (i:=k+1),hx]
 show dd (_++[y])=_
 rw[dd_snoc]
 unfold dstep
 rw[dd_last,List.take_add_one,hy,if_pos]
 simp only[Option.toList,List.getLast?_append,List.getLast?_singleton,Option.some_or]
theorem dd_one {l:List Txt} (h:l.length≤1):dd l=l:=by
 match l,h with
 |[],_=>rfl
 |[x],_=>rfl
theorem dd_names {R:List RowP} {l:List Txt} (hp:l.Perm (R.map (·.name))) (hl:l.Pairwise Go.Why.LeT):dd l=namesF R:=
 names_one ⟨dd_sort hl,fun k=>by rw[dd_mem,hp.mem_iff,List.mem_map]⟩ (names_namesF R)
end Go.Slv
