import Derived.Test.YtphkaogbcfdllaaGreatDoorKc
import Derived.Test.YtphkaogbcfdllaaGreatDoorKe
set_option linter.unusedVariables false
set_option linter.unusedSimpArgs false
set_option maxRecDepth 100000
/- The tree of a list of files, plain. -/
namespace Go.Tre
open Go.Pth Go.Scr
open Go.Vc (mget mput mdel mget_put mget_mem mget_of_mem mget_none)
def stepF (A:Tr) (p:Txt) (f:Txt×Node):Tr×Nat:=if f.2.1=true then mkdirP A p else writeP A p f.2.2
theorem Okay.step {A:Tr} (hA:Okay A) {p:Txt} (hp:CleanP p) (f:Txt×Node):Okay (stepF A p f).1:=by
 unfold stepF
 split
 ·exact hA.mkdir hp
 ·exact hA.write hp
end Go.Tre
namespace Go.Proofs.YtphkaogbcfdllaaGreatDoor
open Go Go.Vc Go.Scr Go.Pth Go.Tre
variable {Z:Nat→Prop}
def fileC (x:Txt×Tre.Node) (a:Option Addr) (cap:Nat):List Value:=[.string (mkS x.1),.bool x.2.1,.slice a x.2.2.length cap]
inductive FilesV (H:Heap):Tr→List Value→Prop where
 |nil:FilesV H [] []
 |cons {x:Txt×Tre.Node} {l:Tr} {a:Option Addr} {cap:Nat} {vs:List Value}:Row H a (strV x.2.2)→FilesV H l vs→FilesV H (x::l) (fileC x a cap++vs)
theorem FilesV.len {H:Heap} {A:Tr} {vs:List Value} (h:FilesV H A vs):vs.length=A.length*3:=by
 induction h with
 |nil=>rfl
 |cons _ _ ih=>rw[List.length_append,ih,List.length_cons];show 3+_=_;omega
theorem FilesV.keep {F:Nat→Prop} {H H':Heap} {A:Tr} {vs:List Value} (h:FilesV H A vs) (k:Only F H H') (hF: ∀ b,F b→b<H.size→Dumb H b):FilesV H' A vs:=by
 induction h with
 |nil=>exact .nil
 |cons h _ ih=>exact .cons (h.bytes k hF) ih
theorem FilesV.ext {H H':Heap} {A:Tr} {vs:List Value} (h:FilesV H A vs) (k:Ext H H'):FilesV H' A vs:=h.keep k fun _ h=>h.elim
theorem FilesV.append {H:Heap} {A B:Tr} {vs ws:List Value} (h:FilesV H A vs) (k:FilesV H B ws):FilesV H (A++B) (vs++ws):=by
 induction h with
 |nil=>exact k
 |cons h _ ih=>rw[List.cons_append,List.append_assoc];exact .cons h ih
theorem FilesV.get {H:Heap} {A:Tr} {vs:List Value} (h:FilesV H A vs): ∀ {i:Nat} {x:Txt×Tre.Node},A[i]? =some x→ ∃ a cap,Row H a (strV x.2.2)∧ ∀ j v,(fileC x a cap)[j]? =some v→vs[i*3+j]? =some v:=by
 induction h with
 |nil=>intro i x hx;simp at hx
 | @cons y l a cap vs h _ ih=>
  intro i x hx
  cases i with
  |zero=>
   simp only[List.getElem?_cons_zero,Option.some.injEq]at hx
   subst hx
   refine⟨a,cap,h,fun j v hv=> ?_⟩
   have hj:=(List.getElem?_eq_some_iff.1 hv).1
   rw[Nat.zero_mul,Nat.zero_add,List.getElem?_append_left hj];exact hv
  |succ i=>
   obtain⟨a',cap',h1,h2⟩:=ih (i:=i) (x:=x) (by simpa using hx)
   refine⟨a',cap',h1,fun j v hv=> ?_⟩
   rw[List.getElem?_append_right (by show 3≤_;omega)]
   have e:(i+1)*3+j-(fileC y a cap).length=i*3+j:=by show(i+1)*3+j-3=_;omega
   rw[e];exact h2 j v hv
theorem FilesV.take {H:Heap} {A:Tr} {vs:List Value} (h:FilesV H A vs): ∀ (k:Nat),FilesV H (A.take k) (vs.take (k*3)):=by
 induction h with
 |nil=>intro k;simp;exact .nil
 | @cons y l a cap vs h _ ih=>
  intro k
  cases k with
  |zero=>simp;exact .nil
  |succ k=>
   rw[List.take_succ_cons,List.take_append,show(k+1)*3-(fileC y a cap).length=k*3 by show(k+1)*3-3=_;omega,List.take_of_length_le (l:=fileC y a cap) (by show 3≤(k+1)*3;omega)]
   exact .cons h (ih k)
theorem FilesV.drop {H:Heap} {A:Tr} {vs:List Value} (h:FilesV H A vs): ∀ (k:Nat),FilesV H (A.drop k) (vs.drop (k*3)):=by
 induction h with
 |nil=>intro k;simp;exact .nil
 | @cons y l a cap vs h h' ih=>
  intro k
  cases k with
  |zero=>exact .cons h h'
  |succ k=>
   rw[List.drop_succ_cons,List.drop_append,show(k+1)*3-(fileC y a cap).length=k*3 by show(k+1)*3-3=_;omega,show(fileC y a cap).drop ((k+1)*3)=[]from List.drop_of_length_le (by show 3≤(k+1)*3;omega),List.nil_append]
   exact ih k
theorem FilesV.plain {H:Heap} {A:Tr} {vs:List Value} (h:FilesV H A vs): ∀ u∈vs,plainV u=true:=by
 induction h with
 |nil=>intro u hu;cases hu
 |cons _ _ ih=>
  intro u hu
  rcases List.mem_append.1 hu with hu|hu
  ·simp[fileC]at hu
   rcases hu with rfl|rfl|rfl<;>rfl
  ·exact ih u hu
theorem FilesV.head {H:Heap} {A:Tr} {vs:List Value} (h:FilesV H A vs) (hn:vs≠ []): ∃ s,vs[0]? =some (.string s):=by
 cases h with
 |nil=>exact absurd rfl hn
 |cons _ _=>exact⟨_,rfl⟩
structure RowF (H:Heap) (a:Option Addr) (A:Tr):Prop where
 out: ∃ vs,Row H a vs∧FilesV H A vs
theorem RowF.nil (H:Heap) (a:Option Addr):RowF H a []:=⟨[],Row.nil _ _,.nil⟩
theorem RowF.keep {F:Nat→Prop} {H H':Heap} {a:Option Addr} {A:Tr} (h:RowF H a A) (k:Only F H H') (hF: ∀ b,F b→b<H.size→Dumb H b):RowF H' a A:=by
 obtain⟨vs,h1,h2⟩:=h.out
 refine⟨vs,h1.keep' k fun hne p hp hf=> ?_,h2.keep k hF⟩
 obtain⟨b,o,ha,hlt,hc⟩:=h1.at (List.length_pos_iff.2 hne)
 rw[ha]at hp;cases hp
 obtain⟨s,hs⟩:=h2.head hne
 have:=(hF _ hf hlt).out _ _ (hc 0 _ hs)
 cases this
theorem RowF.ext {H H':Heap} {a:Option Addr} {A:Tr} (h:RowF H a A) (k:Ext H H'):RowF H' a A:=h.keep k fun _ h=>h.elim
theorem RowF.take {H:Heap} {a:Option Addr} {A:Tr} (h:RowF H a A) (k:Nat):RowF H a (A.take k):=by
 obtain⟨vs,h1,h2⟩:=h.out
 exact⟨_,h1.take (k*3),h2.take k⟩
theorem RowF.drop {H:Heap} {a:Option Addr} {A:Tr} (h:RowF H a A) (m l:Nat) (hl:m=l→A.length≤l):RowF H (sliceBase a m l 3) (A.drop l):=by
 obtain⟨vs,h1,h2⟩:=h.out
 exact⟨_,h1.drop m l 3 (fun e=>by rw[h2.len];exact Nat.mul_le_mul_right _ (hl e)),h2.drop l⟩
theorem IdxA.file {H:Heap} {a:Option Addr} {A:Tr} {n:Nat} {i:Int} {K:Addr→Prop} (h:RowF H a A) (hn:A.length=n) (j:Nat) (x:Txt×Tre.Node) (hi:i=j) (hx:A[j]? =some x)
  (hk: ∀ b o a' cap',Row H a' (strV x.2.2)→(∀ k v,(fileC x a' cap')[k]? =some v→hcell H ⟨b,o+k,none⟩=some v)→K ⟨b,o,none⟩):IdxA a n 3 i K:=by
 obtain⟨vs,h1,h2⟩:=h.out
 have hj:=(List.getElem?_eq_some_iff.1 hx).1
 obtain⟨a',cap',g1,g2⟩:=h2.get hx
 refine Go.Vc.IdxA.row (size:=3) h1 (by rw[h2.len,hn]) (by decide) j hi (by omega) fun b o k1 k2 k3=> ?_
 exact hk b (o+j*3) a' cap' g1 fun k v hv=>k3 k v (g2 k v hv)
theorem SemH.load_file {H H0:Heap} {b o:Nat} {x:Txt×Tre.Node} {a:Option Addr} {cap:Nat} {K:Value→Heap→Prop} (hc: ∀ k v,(fileC x a cap)[k]? =some v→hcell H0 ⟨b,o+k,none⟩=some v) (he:Ext H0 H) (hk:K (.agg #[.string (mkS x.1),.bool x.2.1,.slice a x.2.2.length cap]) H):SemH Tryz.prog (Instr.loadAt 71 (.pointer (some ⟨b,o,none⟩))) H K:=by
 have:=Go.Vc.SemH.load_agg (P:=Tryz.prog) (t:=71) (H:=H) (b:=b) (o:=o) (vs:=fileC x a cap) (K:=K) rfl rfl rfl (fun j v hv=>hcell_keep (hc j v hv) he id) hk
 exact this
structure RTree (H:Heap) (b:Nat) (A:Tr):Prop where
 out: ∃ a spare,Blk H b #[.slice a A.length (A.length+spare)] 48∧RowF H a A
theorem RTree.keep {F:Nat→Prop} {H H':Heap} {b:Nat} {A:Tr} (h:RTree H b A) (k:Only F H H') (hb: ¬F b) (hF: ∀ b,F b→b<H.size→Dumb H b):RTree H' b A:=by
 obtain⟨a,cap,h1,h2⟩:=h.out
 exact⟨a,cap,h1.keep k hb,h2.keep k hF⟩
theorem RTree.of {H:Heap} {b n cap:Nat} {a:Option Addr} {A:Tr} (h:Blk H b #[.slice a n cap] 48) (hn:A.length=n) (hc:n≤cap) (hr:RowF H a A):RTree H b A:=⟨a,cap-n,by rw[hn,show n+(cap-n)=cap by omega];exact h,hr⟩
theorem RTree.ext {H H':Heap} {b:Nat} {A:Tr} (h:RTree H b A) (k:Ext H H'):RTree H' b A:=h.keep k id fun _ h=>h.elim
theorem slice_dumb (a:Option Addr) (n cap:Nat): ∀ v∈(#[.slice a n cap]:Array Value).toList,dumbV v=true:=by simp[dumbV]
theorem RTree.dumb {H:Heap} {b:Nat} {A:Tr} (h:RTree H b A):Dumb H b:=let ⟨_,_,h,_⟩:=h.out;.blk h (slice_dumb _ _ _)
theorem RTree.oth {H:Heap} {b:Nat} {A:Tr} (h:RTree H b A):Oth H b:=let ⟨_,_,h,_⟩:=h.out;.blk h (slice_dumb _ _ _) (by decide)
theorem RTree.other {H H':Heap} {b b' mb':Nat} {A A':Tr} (h:RTree H b A) (h':TreeO Z H b' mb' A') (k:ButT b' mb' H H'):RTree H' b A:=by
 obtain⟨a,cap,h1,_⟩:=h.out
 refine h.keep k (fun e=> ?_) fun x e _=> ?_
 ·rcases e with rfl|rfl
  ·exact absurd (blk_one h1 h'.blk).1 (by decide)
  ·exact h'.map.ne h1 rfl
 ·rcases e with rfl|rfl
  ·exact h'.oth.dumb
  ·exact h'.map.oth.dumb
theorem TreeO.otherR {H H':Heap} {b mb b':Nat} {A A':Tr} (h:TreeO Z H b mb A) (h':RTree H b' A') (k:But b' H H'):TreeO Z H' b mb A:=by
 obtain⟨a,cap,h1,_⟩:=h'.out
 exact h.keep k (fun e=>by subst e;exact absurd (blk_one h1 h.blk).1 (by decide)) (fun e=>h.map.ne h1 e) fun x e _=>by subst e;exact .inl h'.oth
end Go.Proofs.YtphkaogbcfdllaaGreatDoor
namespace Go.Tre
open Go.Scr
abbrev SF:=Txt×Bool×Option Addr×Nat×Nat
def encF (x:SF):List Value:=[.string (Go.Vc.mkS x.1),.bool x.2.1,.slice x.2.2.1 x.2.2.2.1 x.2.2.2.2]
end Go.Tre
namespace Go.Proofs.YtphkaogbcfdllaaGreatDoor
open Go Go.Vc Go.Scr Go.Pth Go.Tre
structure Told (H:Heap) (f:SF) (x:Bs×Tre.Node):Prop where
 path:f.1=x.1
 dir:f.2.1=x.2.1
 len:f.2.2.2.1=x.2.2.length
 own:Own H 0 5 1 f.2.2.1 x.2.2.length f.2.2.2.2 (strV x.2.2)
def ToldL (H:Heap):List SF→Tr→Prop
 |[],[]=>True
 |f::fs,x::xs=>Told H f x∧ToldL H fs xs
 |_,_=>False
theorem Told.keep {F:Nat→Prop} {H H':Heap} {f:SF} {x:Bs×Tre.Node} (h:Told H f x) (k:Only F H H') (hF: ∀ b c,F b→ ¬Blk H b c 5):Told H' f x:=⟨h.path,h.dir,h.len,h.own.keep k fun p hp hf=>by
 rcases h.own.out with ⟨h1,_⟩|⟨g,cur,h1,_,hb,_⟩
 ·rw[h1]at hp;cases hp
 ·rw[h1]at hp;cases hp
  exact hF _ _ hf hb⟩
theorem ToldL.keep {F:Nat→Prop} {H H':Heap} (k:Only F H H') (hF: ∀ b c,F b→ ¬Blk H b c 5): ∀ {fs:List SF} {xs:Tr},ToldL H fs xs→ToldL H' fs xs
 |[],[],h=>h
 |f::fs,x::xs,⟨h1,h2⟩=>⟨h1.keep k hF,ToldL.keep k hF h2⟩
 |[],_::_,h=>h.elim
 |_::_,[],h=>h.elim
theorem ToldL.ext {H H':Heap} {fs:List SF} {xs:Tr} (h:ToldL H fs xs) (k:Ext H H'):ToldL H' fs xs:=h.keep k fun _ _ h=>h.elim
theorem ToldL.snoc {H:Heap} {f:SF} {x:Bs×Tre.Node} (k:Told H f x): ∀ {fs:List SF} {xs:Tr},ToldL H fs xs→ToldL H (fs++[f]) (xs++[x])
 |[],[],_=>⟨k,trivial⟩
 |g::fs,y::xs,⟨h1,h2⟩=>⟨h1,ToldL.snoc k h2⟩
 |[],_::_,h=>h.elim
 |_::_,[],h=>h.elim
theorem ToldL.len {H:Heap}: ∀ {fs:List SF} {xs:Tr},ToldL H fs xs→fs.length=xs.length
 |[],[],_=>rfl
 |g::fs,y::xs,⟨_,h2⟩=>by rw[List.length_cons,List.length_cons,ToldL.len h2]
 |[],_::_,h=>h.elim
 |_::_,[],h=>h.elim
theorem ToldL.files {H:Heap}: ∀ {fs:List SF} {xs:Tr},ToldL H fs xs→FilesV H xs (fs.flatMap encF)
 |[],[],_=> .nil
 |f::fs,x::xs,⟨h1,h2⟩=>by
  have e:encF f=fileC x f.2.2.1 f.2.2.2.2:=by unfold encF fileC;rw[h1.path,h1.dir,h1.len]
  rw[List.flatMap_cons,e]
  exact .cons h1.own.row (ToldL.files h2)
 |[],_::_,h=>h.elim
 |_::_,[],h=>h.elim
theorem ToldL.cons_inv {H:Heap} {f:SF} {fs:List SF} {xs:Tr} (h:ToldL H (f::fs) xs): ∃ x ys,xs=x::ys∧Told H f x∧ToldL H fs ys:=by
 cases xs with
 |nil=>exact h.elim
 |cons x ys=>exact⟨x,ys,rfl,h.1,h.2⟩
theorem ToldL.perm {H:Heap} {fs fs':List SF} (hp:fs'.Perm fs): ∀ {xs:Tr},ToldL H fs xs→ ∃ xs',xs'.Perm xs∧ToldL H fs' xs':=by
 induction hp with
 |nil=>intro xs h;exact⟨xs,List.Perm.refl _,h⟩
 |cons f _ ih=>
  intro xs h
  obtain⟨x,ys,rfl,h1,h2⟩:=h.cons_inv
  obtain⟨ys',hp,h3⟩:=ih h2
  exact⟨x::ys',hp.cons x,h1,h3⟩
 |swap f g l=>
  intro xs h
  obtain⟨x,ys,rfl,h1,h2⟩:=h.cons_inv
  obtain⟨y,zs,rfl,h3,h4⟩:=h2.cons_inv
  exact⟨y::x::zs,List.Perm.swap x y zs,h3,h1,h4⟩
 |trans _ _ ih1 ih2=>
  intro xs h
  obtain⟨ys,hp1,h1⟩:=ih2 h
  obtain⟨zs,hp2,h2⟩:=ih1 h1
  exact⟨zs,hp2.trans hp1,h2⟩
theorem ToldL.sorted {H:Heap}: ∀ {fs:List SF} {xs:Tr},ToldL H fs xs→fs.Pairwise (fun x y=>Op.bytesLess y.1 x.1=false)→(xs.map (·.1)).Nodup→Sorted xs
 |[],[],_,_,_=>List.Pairwise.nil
 |f::fs,x::xs,⟨h1,h2⟩,hp,hn=>by
  rw[List.pairwise_cons]at hp
  rw[List.map_cons,List.nodup_cons]at hn
  refine List.pairwise_cons.2 ⟨fun y hy=> ?_,ToldL.sorted h2 hp.2 hn.2⟩
  have: ∀ {fs:List SF} {xs:Tr},ToldL H fs xs→ ∀ y∈xs,∃ g∈fs,g.1=y.1:=by
   intro fs xs
   induction fs generalizing xs with
   |nil=>intro h y hy;cases xs with|nil=>cases hy|cons _ _=>exact h.elim
   |cons f fs ih=>
    intro h y hy
    obtain⟨x,ys,rfl,h1,h2⟩:=h.cons_inv
    rcases List.mem_cons.1 hy with rfl|hy
    ·exact⟨f,by simp,h1.path⟩
    ·obtain⟨g,hg,e⟩:=ih h2 y hy;exact⟨g,by simp[hg],e⟩
  obtain⟨g,hg,e⟩:=this h2 y hy
  have:=hp.1 g hg
  rw[e,h1.path]at this
  exact lt_tri this fun e=>hn.1 (by rw[←e];exact List.mem_map_of_mem hy)
 |[],_::_,h,_,_=>h.elim
 |_::_,[],h,_,_=>h.elim
theorem NextH.pushF {H:Heap} {u ty:TypeId} {f:SF} {a:Option Addr} {n cap g base:Nat} {fs:List SF} {cb:Array Bool} {K:Value→Heap→Prop}
  (hlit:Blk H g (encF f).toArray 71) (hown:Own H base 71 3 a n cap (fs.flatMap encF)) (hx:base≤H.size) (hn:n≤1000000000) (hu: ∃ d,Tryz.prog.underlying u=some d∧(∀ k,d≠ .int k))
  (hk: ∀ a' cap' H',Own H' base 71 3 a' (n+1) cap' ((fs++[f]).flatMap encF)→H.size≤H'.size→Wr a H H'→K (.slice a' (n+1) cap') H'):
  NextH Tryz.prog (builtin .append #[46,u] ty cb #[.slice a n cap,.slice (some ⟨g,0,none⟩) 1 1]) H K:=by
 refine Go.Vc.NextH.append (i:=Tryz.t71) (z:= .agg #[.string ⟨#[]⟩,.bool false,.slice none 0 0]) (m:=1) (news:=encF f) rfl hu rfl rfl rfl hown (Src.row (Blk.row (c:=encF f) hlit) rfl (by simp[encF,plainV])) (by unfold maxLen;omega) ?_ hx fun a' cap' H' h1 h2 _=>hk a' cap' H' (by rw[List.flatMap_append,show [f].flatMap encF=encF f by simp];exact h1) h2.size h2
 show(n+1)*_≤_
 refine Nat.le_trans (Nat.mul_le_mul_left (n+1) (show _≤64 from by decide)) (by omega)
theorem fileB {K:Value→Prop} {o1 o2 o3:Operand} {s:ByteArray} {x:Bool} {a:Option Addr} {n c:Nat} (h:K (.agg #[.string s,.bool x,.slice a n c])):PureH Tryz.prog (Instr.build 71 ((List.map (fun x:Nat×Operand=>x.1) (#[(0,o1),(1,o2),(2,o3)]:Array (Nat×Operand)).toList).zip [.string s,.bool x,.slice a n c]).toArray) K:=PureH.build _ (by kernel_rfl) h
end Go.Proofs.YtphkaogbcfdllaaGreatDoor
namespace Go.Pth
open Go.Scr
def p_glueF (cur:Txt):List Txt→List Txt
 |[]=>[cur]
 |w::l=>(cur++w)::l
theorem p_glueF_nil (l:List Txt) (h:l≠ []):p_glueF [] l=l:=by cases l with|nil=>exact absurd rfl h|cons w l=>rfl
theorem p_glueF_step {c x:UInt8} (h:x≠c) (cur t:Txt):p_glueF cur (splitF c (x::t))=p_glueF (cur++[x]) (splitF c t):=by
 rw[splitF,if_neg h]
 cases splitF c t with
 |nil=>rfl
 |cons w l=>simp[p_glueF]
theorem p_glueF_cut (c:UInt8) (cur t:Txt):p_glueF cur (splitF c (c::t))=cur::splitF c t:=by
 rw[splitF,if_pos rfl];simp[p_glueF]
def p_mid (l:Txt) (a b:Nat):Txt:=(l.drop a).take (b-a)
theorem p_mid_self (l:Txt) (a:Nat):p_mid l a a=[]:=by simp[p_mid]
theorem p_mid_snoc {l:Txt} {a b:Nat} {c:UInt8} {t:Txt} (hab:a≤b) (h:l.drop b=c::t):p_mid l a (b+1)=p_mid l a b++[c]:=by
 unfold p_mid
 have e:b+1-a=(b-a)+1:=by omega
 have h2:(l.drop a).drop (b-a)=c::t:=by rw[List.drop_drop,show a+(b-a)=b by omega];exact h
 rw[e,List.take_add_one]
 congr 1
 have:=congrArg (·[0]?) h2
 simp only[List.getElem?_drop,List.getElem?_cons_zero]at this
 simp only[List.getElem?_drop]
 have h3:(0:Nat)+(a+(b-a))=a+(b-a):=by omega
 simp at this
 simp[this]
def rcleanF (base:List Txt) (s:Txt):Txt×Nat:=
 if 200<s.length then([],50)else if s.head? =some 47 then([],51)else(glue (walkF base.length base (splitF 47 s)).1,(walkF base.length base (splitF 47 s)).2)
theorem rclean_nil (s:Txt):rcleanF [] s=cleanF s:=by
 unfold rcleanF cleanF joinP
 rw[if_pos (rfl:([]:Txt)=[]),Nat.zero_add];rfl
end Go.Pth
namespace Go.Vc
theorem NextH.dup {P:Program} {H:Heap} {t u e ty:TypeId} {i:TypeInfo} {z:Value} {a:Option Addr} {m c:Nat} {xs:List Value} {cb:Array Bool} {K:Value→Heap→Prop}
  (hr:Row H a xs) (hl:xs.length=m) (hp: ∀ u∈xs,plainV u=true) (hm:m≤4000000000000) (ht:P.underlying t=some (.slice e)) (hu: ∃ d,P.underlying u=some d∧(∀ k,d≠ .int k)) (hi:P.info? e=some i) (hz:i.zero=some z) (hzs:z.cells.size=i.size) (h1:i.size=1)
  (hby:Nat.ble i.bytes 16=true) (hk: ∀ a' cap' H',Own H' H.size e 1 a' m cap' xs→Ext H H'→K (.slice a' m cap') H'):
  NextH P (builtin .append #[t,u] ty cb #[.slice none 0 0,.slice a m c]) H K:=by
 have hby:=Nat.le_of_ble_eq_true hby
 refine NextH.append (m:=m) (news:=xs) ht hu hi hz hzs (Own.nil _ H.size _ _) (Src.row hr (by rw[h1,hl];omega) hp) (by unfold maxLen;omega) ?_ (Nat.le_refl _) fun a' cap' H' g1 g2 _=> ?_
 ·calc (0+m)*i.bytes≤(0+m)*16:=Nat.mul_le_mul_left _ hby
   _≤_:=by omega
 ·rw[h1,List.nil_append,Nat.zero_add]at g1
  rw[Nat.zero_add]
  exact hk a' cap' H' g1 (g2.mono fun b ⟨p,hp,_⟩=>by cases hp)
end Go.Vc
namespace Go.Proofs.YtphkaogbcfdllaaGreatDoor
open Go Go.Vc Go.Scr Go.Pth
structure PkSt where
 i:Nat
 fr:Nat
 out:List Bs
 a:Option Addr
 cap:Nat
def p_splitI (s:Bs) (x:PkSt):List Bs:=if x.i≤s.length then x.out++p_glueF (p_mid s x.fr x.i) (splitF 47 (s.drop x.i))else x.out
set_option maxHeartbeats 4000000 in
theorem rsplit7_any (s:Bs) (hl:s.length≤100000000) (H:Heap):CallH Tryz.prog 140 [.string (mkS s)] H fun v H'=>(∃ a cap,v= .slice a (splitF 47 s).length cap∧Own H' H.size 9 1 a (splitF 47 s).length cap (strs (splitF 47 s)))∧Ext H H':=by
 obtain⟨S,hS⟩: ∃ S,splitF 47 s=S:=⟨_,rfl⟩
 rw[hS]
 have hsz:(mkS s).size=s.length:=rfl
 refine Vc.CallH.body Tryz.func140 Tryz.call140 rfl (by decide+kernel) rfl ?_
 ((conv=>whnf);repeat(any_goals(first|(refine Vc.sts ?_;(conv=>whnf)))))
 refine LoopH.intro (fun(x:PkSt)=>[(5,.int .i64 x.i),(4,.int .i64 x.fr),(3,.slice x.a x.out.length x.cap)]) (fun x H'=>x.i≤s.length+1∧x.fr≤x.i∧x.out.length≤x.i∧S=p_splitI s x∧Own H' H.size 9 1 x.a x.out.length x.cap (strs x.out)∧Ext H H') (fun x=>s.length+1-x.i) ⟨0,0,[],none,0⟩ ⟨rfl,rfl,rfl,trivial⟩ ⟨Nat.zero_le _,Nat.le_refl _,Nat.le_refl _,?_,Own.nil _ _ _ _,Ext.refl _⟩ ?_
 ·unfold p_splitI
  rw[if_pos (Nat.zero_le _)]
  show S=p_glueF [] (splitF 47 s)
  rw[p_glueF_nil _ (split_ne 47 s),hS]
 rintro⟨i,fr,out,a,cap⟩ H2 ⟨hi,hfr,hol,hinv,ho2,hx2⟩
 dsimp only at hi hfr hol hinv ho2 ⊢
 unfold p_splitI at hinv
 dsimp only at hinv
 have hxe:(mkS s).extract fr i=mkS (p_mid s fr i):=mkS_ext _ _ _
 by_cases hle:i≤s.length
 ·rw[if_pos hle]at hinv
  by_cases hlt:i<s.length
  ·obtain⟨d,hd,hdr⟩:=drop_get hlt
   rw[hdr]at hinv
   by_cases hdc:d=47
   ·subst hdc
    rw[p_glueF_cut]at hinv
    ((conv=>whnf);repeat(any_goals((first|(refine IdxH.nat i rfl (by omega) ?_;(conv=>whnf);rw[hd])|(refine BndH.nat fr rfl (by omega) ?_)|(refine BndH.nat i rfl (by omega) ?_)|refine Vc.stp ?_|refine Vc.spl ?_ ?_)<;>(intros;(conv=>whnf)))))
    rename_i H5 hs5 hb5 hx5 a6 c6 H6 ho6 hx6
    refine⟨⟨i+1,i+1,out++[p_mid s fr i],a6,c6⟩,⟨rfl,rfl,sl_snocS _ _ _ _,trivial⟩,⟨by show i+1≤_;omega,Nat.le_refl _,by show(out++[_]).length≤i+1;simp;omega,?_,own_snocS hxe ho6,hx6⟩,by show s.length+1-(i+1)<s.length+1-i;omega⟩
    unfold p_splitI
    rw[if_pos (show i+1≤s.length by omega),hinv]
    show _=(out++[p_mid s fr i])++p_glueF (p_mid s (i+1) (i+1)) (splitF 47 (s.drop (i+1)))
    rw[p_mid_self,p_glueF_nil _ (split_ne _ _)];simp
   ·have hne:d.toNat≠47:=ne_nat 47 (by decide) hdc
    rw[p_glueF_step hdc,←p_mid_snoc hfr hdr]at hinv
    ((conv=>whnf);repeat(any_goals((first|(refine IdxH.nat i rfl (by omega) ?_;(conv=>whnf);rw[hd])|refine Vc.stp ?_|refine Vc.spl ?_ ?_)<;>(intros;(conv=>whnf)))))
    refine⟨⟨i+1,fr,out,a,cap⟩,⟨rfl,rfl,rfl,trivial⟩,⟨by show i+1≤_;omega,by show fr≤i+1;omega,by show out.length≤i+1;omega,?_,ho2,hx2⟩,by show s.length+1-(i+1)<s.length+1-i;omega⟩
    unfold p_splitI
    rw[if_pos (show i+1≤s.length by omega),hinv]
  ·have hil:i=s.length:=by omega
   subst hil
   rw[List.drop_of_length_le (by omega)]at hinv
   ((conv=>whnf);repeat(any_goals((first|(refine BndH.nat fr rfl (by omega) ?_)|(refine BndH.nat s.length rfl (by omega) ?_)|refine Vc.stp ?_|refine Vc.spl ?_ ?_)<;>(intros;(conv=>whnf)))))
   rename_i H5 hs5 hb5 hx5 a6 c6 H6 ho6 hx6
   refine⟨⟨s.length+1,s.length+1,out++[p_mid s fr s.length],a6,c6⟩,⟨rfl,rfl,sl_snocS _ _ _ _,trivial⟩,⟨Nat.le_refl _,Nat.le_refl _,by show(out++[_]).length≤s.length+1;simp;omega,?_,own_snocS hxe ho6,hx6⟩,by show s.length+1-(s.length+1)<s.length+1-s.length;omega⟩
   unfold p_splitI
   rw[if_neg (show ¬s.length+1≤s.length by omega),hinv]
   show _=out++[p_mid s fr s.length]
   unfold splitF p_glueF;simp
 ·rw[if_neg hle]at hinv
  ((conv=>whnf);repeat(any_goals((first|refine Vc.stp ?_|refine Vc.spl ?_ ?_)<;>(intros;(conv=>whnf)))))
  rw[hinv]
  exact⟨⟨a,cap,rfl,ho2⟩,hx2⟩
theorem rbad_any (s:Bs) (hl:s.length≤1000000000) (H:Heap):CallH Tryz.prog 141 [.string (mkS s)] H fun v H'=>v= .bool (badP s)∧H=H':=by
 have hsz:(mkS s).size=s.length:=rfl
 refine Vc.CallH.body Tryz.func141 Tryz.call141 rfl (by decide+kernel) rfl ?_
 by_cases h32:32<s.length
 ·((conv=>whnf);repeat(any_goals((first|refine Vc.stp ?_|refine Vc.spl ?_ ?_)<;>(intros;(conv=>whnf)))))
  exact⟨by rw[show badP s=true by unfold badP;simp[h32]];rfl,rfl⟩
 ((conv=>whnf);repeat(any_goals((first|refine Vc.stp ?_|refine Vc.spl ?_ ?_)<;>(intros;(conv=>whnf)))))
 refine LoopH.intro (fun(i:Nat)=>[(3,.int .i64 i)]) (fun i H'=>H=H'∧i≤s.length∧badP s=(s.drop i).any badC) (fun i=>s.length-i) 0 ⟨rfl,trivial⟩ ⟨rfl,Nat.zero_le _,by unfold badP;simp[h32]⟩ ?_
 rintro i _ ⟨rfl,hi,hb⟩
 dsimp only
 by_cases hlt:i<s.length
 ·obtain⟨c,hc,hd⟩:=drop_get hlt
  have hcn:=c.toNat_lt
  rw[hd,List.any_cons]at hb
  have key:badC c=decide (c.toNat<33∨126<c.toNat∨c.toNat=34∨c.toNat=92∨c.toNat=42∨c.toNat=63∨c.toNat=58):=by
   unfold badC;rw[Bool.eq_iff_iff];simp only[Bool.or_eq_true,decide_eq_true_eq,beq_iff_eq,or_assoc]
  cases hbc:badC c
  ·rw[hbc]at hb
   rw[hbc]at key
   have key:=of_decide_eq_false key.symm
   simp only[not_or]at key
   obtain⟨c1,c2,c3,c4,c5,c6,c7⟩:=key
   ((conv=>whnf);repeat(any_goals((first|(refine IdxH.nat i rfl (by omega) ?_;(conv=>whnf);rw[hc])|refine Vc.stp ?_|refine Vc.spl ?_ ?_)<;>(intros;(conv=>whnf)))))
   exact⟨i+1,⟨rfl,trivial⟩,⟨rfl,by omega,by simpa using hb⟩,by omega⟩
  ·rw[hbc]at hb
   rw[hbc]at key
   have key:=of_decide_eq_true key.symm
   have hbt:badP s=true:=by simpa using hb
   ((conv=>whnf);repeat(any_goals((first|(refine IdxH.nat i rfl (by omega) ?_;(conv=>whnf);rw[hc])|refine Vc.stp ?_|refine Vc.spl ?_ ?_)<;>(intros;(conv=>whnf)))))
   all_goals first|exact⟨by rw[hbt];rfl,rfl⟩|(exfalso;omega)
 ·rw[List.drop_of_length_le (by omega)]at hb
  ((conv=>whnf);repeat(any_goals((first|refine Vc.stp ?_|refine Vc.spl ?_ ?_)<;>(intros;(conv=>whnf)))))
  exact⟨by rw[hb];rfl,rfl⟩
theorem glue_take {l:List Bs} {i:Nat} {x:Bs} (h:l[i]? =some x):glue (l.take (i+1))=if i=0 then x else glue (l.take i)++47::x:=by
 have hlt:i<l.length:=(List.getElem?_eq_some_iff.1 h).1
 rw[List.take_add_one,h]
 split
 ·rename_i h0;subst h0;rfl
 ·rename_i h0
  exact glue_app (b:=[x]) (fun e=>by have:=congrArg List.length e;rw[List.length_take,List.length_nil]at this;omega) (by simp)
theorem rglue_any (l:List Bs) (a:Option Addr) (n cap:Nat) (H:Heap) (hr:Row H a (strs l)) (hn:l.length=n) (hg:glen l≤1000000000):CallH Tryz.prog 132 [.slice a n cap] H fun v H'=>v= .string (mkS (glue l))∧H=H':=by
 have h1: ∀ m:List Bs,m.length≤glen m:=fun m=>by
  induction m with
  |nil=>exact Nat.zero_le _
  |cons y m ih=>rw[show glen (y::m)=y.length+1+glen m by simp[glen],List.length_cons];omega
 have hlg:=h1 l
 refine Vc.CallH.body Tryz.func132 Tryz.call132 rfl (by decide+kernel) rfl ?_
 ((conv=>whnf);repeat(any_goals((first|refine Vc.stp ?_|refine Vc.spl ?_ ?_)<;>(intros;(conv=>whnf)))))
 refine LoopH.intro (fun(i:Nat)=>[(4,.int .i64 i),(3,.string (mkS (glue (l.take i))))]) (fun i H'=>H=H'∧i≤n) (fun i=>n-i) 0 ⟨rfl,rfl,trivial⟩ ⟨rfl,Nat.zero_le _⟩ ?_
 rintro i _ ⟨rfl,hi⟩
 dsimp only
 have hsz:(mkS (glue (l.take i))).size=(glue (l.take i)).length:=rfl
 have h47:(⟨#[47]⟩:ByteArray).size=1:=rfl
 have hgt:=glue_le (l.take i)
 have htg:=take_glen l i
 by_cases hlt:i<n
 ·obtain⟨x,hx⟩: ∃ x,l[i]? =some x:=⟨_,List.getElem?_eq_getElem (by omega)⟩
  have hst:=glue_take hx
  have hxs:(mkS x).size=x.length:=rfl
  have hxg:x.length+1≤glen l:=by
   have:=congrArg glen (List.take_append_drop (i+1) l)
   rw[glen_append,List.take_add_one,hx,glen_append]at this
   have e:glen (some x).toList=x.length+1:=by simp[glen]
   omega
  have hgt2:(glue (l.take i)).length+x.length+2≤3000000000:=by omega
  by_cases h0:i=0
  ·subst h0
   ((conv=>whnf);repeat(any_goals((first|(refine NeedH.mk ⟨by(simp only[ByteArray.size_append];omega),?_⟩)|(refine IdxA.strv hr hn 0 x (by omega) hx ?_;intro _ _ _ _ _)|refine Vc.stp ?_|refine Vc.spl ?_ ?_)<;>(intros;(conv=>whnf)))))
   exact⟨1,⟨rfl,by(show Value.string (mkS []++mkS x)=_;rw[hst,mkS_app];rfl),trivial⟩,⟨rfl,by omega⟩,by omega⟩
  ·((conv=>whnf);repeat(any_goals((first|(refine NeedH.mk ⟨by(simp only[ByteArray.size_append];omega),?_⟩)|(refine IdxA.strv hr hn i x (by omega) hx ?_;intro _ _ _ _ _)|refine Vc.stp ?_|refine Vc.spl ?_ ?_)<;>(intros;(conv=>whnf)))))
   exact⟨i+1,⟨rfl,by(show Value.string ((mkS (glue (l.take i))++mkS [47])++mkS x)=_;rw[hst,if_neg h0,mkS_app,mkS_app];simp),trivial⟩,⟨rfl,by omega⟩,by omega⟩
 ·obtain rfl:i=n:=by omega
  ((conv=>whnf);repeat(any_goals((first|refine Vc.stp ?_|refine Vc.spl ?_ ?_)<;>(intros;(conv=>whnf)))))
  exact⟨by rw[←hn,List.take_length];rfl,rfl⟩
end Go.Proofs.YtphkaogbcfdllaaGreatDoor
namespace Go.Vc
theorem NextH.none0 {P:Program} {H:Heap} {t u e ty:TypeId} {i:TypeInfo} {a:Option Addr} {c:Nat} {cb:Array Bool} {K:Value→Heap→Prop}
  (ht:P.underlying t=some (.slice e)) (hu: ∃ d,P.underlying u=some d∧(∀ k,d≠ .int k)) (hi:P.info? e=some i) (hk:K (.slice none 0 0) H):
  NextH P (builtin .append #[t,u] ty cb #[.slice none 0 0,.slice a 0 c]) H K:=by
 refine⟨fun w hw=> ?_⟩
 obtain⟨d,hu,hd⟩:=hu
 have hzero:(match d with| .int _=>true|_=>false)=false:=by cases d<;>first|rfl|exact absurd rfl (hd _)
 have hsrc:Src P H (.slice a 0 c) i.size 0 []:=Src.row (Row.nil _ _) (by simp) (by simp)
 have hr:(Builtin.append_ #[t,u] ty #[.slice none 0 0,.slice a 0 c]).run P w= .ok (.slice none 0 0) w:=by
  simp[Builtin.append_,underlying_of ht,underlying_of hu,sizeOf_of hi,hzero,hsrc.lenOf,hsrc.first w hw]
 simp only[builtin,Sem.run_bind,hr,Result.andThen_ok]
 exact⟨Same.refl w,by rw[hw];exact hk⟩
end Go.Vc
namespace Go.Proofs.YtphkaogbcfdllaaGreatDoor
open Go Go.Vc Go.Scr Go.Pth Go.Tre
structure WcS where
 i:Nat
 out:List Bs
 a:Option Addr
 cap:Nat
theorem glen_le_len (m:List Bs):m.length≤glen m:=by
 induction m with
 |nil=>exact Nat.zero_le _
 |cons y m ih=>rw[show glen (y::m)=y.length+1+glen m by simp[glen],List.length_cons];omega
set_option maxHeartbeats 4000000 in
theorem rclean0_any (s:Bs) (hl:s.length≤100000000) (H:Heap):CallH Tryz.prog 82 [.string (mkS s),.slice none 0 0] H fun v H'=>v= .tuple #[.string (mkS (cleanF s).1),.int .i64 (cleanF s).2]∧Ext H H':=by
 have hsz:(mkS s).size=s.length:=rfl
 rw[←rclean_nil]
 unfold rcleanF
 by_cases h1:200<s.length
 ·rw[if_pos h1]
  refine Vc.CallH.body Tryz.func82 Tryz.call82 rfl (by decide+kernel) rfl ?_
  ((conv=>whnf);repeat(any_goals((first|refine Vc.stp ?_|refine Vc.spl ?_ ?_)<;>(intros;(conv=>whnf)))))
  exact⟨rfl,Ext.refl _⟩
 rw[if_neg h1]
 by_cases h2:s.head? =some 47
 ·rw[if_pos h2]
  obtain⟨t,rfl⟩: ∃ t,s=47::t:=by
   cases s with
   |nil=>cases h2
   |cons c t=>exact⟨t,by
                 have:c=47:=by simpa using h2
                 rw[this]⟩
  refine Vc.CallH.body Tryz.func82 Tryz.call82 rfl (by decide+kernel) rfl ?_
  have hpos:0<(47::t).length:=by simp
  ((conv=>whnf);repeat(any_goals((first|(refine IdxH.nat 0 rfl hpos ?_;(conv=>whnf);rw[show(mkS (47::t)).data.toList.getD 0 0=47 from rfl])|refine Vc.stp ?_|refine Vc.spl ?_ ?_)<;>(intros;(conv=>whnf)))))
  exact⟨rfl,Ext.refl _⟩
 rw[if_neg h2]
 obtain⟨S,hS⟩: ∃ S,splitF 47 s=S:=⟨_,rfl⟩
 have hsp:=fun H=>rsplit7_any s hl H
 have hg:=glen_split s
 have hno:=split_no 47 s
 rw[hS]at hsp hg hno ⊢
 have hSl:=glen_le_len S
 by_cases hs0:s=[]
 ·subst hs0
  have hS1:S=[[]]:=hS.symm
  subst hS1
  have e:walkF ([]:List Txt).length [] [([]:Bs)]=([],0):=rfl
  rw[e]
  have hz0:(mkS []).size=0:=rfl
  have l1:[([]:Bs)].length=1:=rfl
  have hgl:=fun H=>rglue_any [] none 0 0 H (Row.nil _ _) rfl (by decide)
  refine Vc.CallH.body Tryz.func82 Tryz.call82 rfl (by decide+kernel) rfl ?_
  ((conv=>whnf);repeat(any_goals((first|((with_reducible apply NextH.none0);(focus(rfl));(focus((exact⟨_,rfl,fun _ h=>by cases h⟩)));(focus(rfl));(focus((conv=>whnf))))|(refine(hsp _).mono ?_;rintro _ H2 ⟨⟨a2,c2,rfl,ho2⟩,hx2⟩;have hz2:=hx2.size;have hr2:=ho2.row)|refine Vc.stp ?_|refine Vc.spl ?_ ?_)<;>(intros;(conv=>whnf)))))
  refine LoopH.intro (fun(i:Nat)=>[(8,.int .i64 i),(6,.slice none 0 0)]) (fun i H'=>i≤1∧H2=H') (fun i=>1-i) 0 ⟨rfl,rfl,trivial⟩ ⟨Nat.zero_le _,rfl⟩ ?_
  rintro i _ ⟨hi,rfl⟩
  have q0:=eq_empty ([]:Bs)
  by_cases h0:i=0
  ·subst h0
   rw[decide_eq_true rfl]at q0
   ((conv=>whnf);repeat(any_goals((first|(refine IdxA.strv hr2 rfl 0 [] (by omega) rfl ?_;intro _ _ _ _ _)|refine Vc.stp ?_|refine Vc.spl ?_ ?_)<;>(intros;(conv=>whnf)))))
   exact⟨1,⟨rfl,rfl,trivial⟩,⟨by omega,rfl⟩,by omega⟩
  ·obtain rfl:i=1:=by omega
   ((conv=>whnf);repeat(any_goals((first|(refine(hgl _).mono ?_;rintro _ _ ⟨rfl,rfl⟩)|refine Vc.stp ?_|refine Vc.spl ?_ ?_)<;>(intros;(conv=>whnf)))))
   exact⟨rfl,hx2⟩
 have hpos:0<s.length:=List.length_pos_iff.2 hs0
 have hrest:CallH Tryz.prog 82 [.string (mkS s),.slice none 0 0] H fun v H'=>v= .tuple #[.string (mkS (glue (walkF 0 [] S).1)),.int .i64 (walkF 0 [] S).2]∧Ext H H':=by
  have hc47:0<s.length→ ¬(s.getD 0 0).toNat=47:=fun hp e=>by
   cases s with
   |nil=>simp at hp
   |cons c t=>
    apply h2
    have:c.toNat=47:=e
    rw[show c=47 from UInt8.toNat_inj.1 this];rfl
  refine Vc.CallH.body Tryz.func82 Tryz.call82 rfl (by decide+kernel) rfl ?_
  ((conv=>whnf);repeat(any_goals((first|(refine IdxH.nat 0 rfl (by omega) ?_;(conv=>whnf);(have hc48:=hc47 (by omega));(rw[show(mkS s).data.toList.getD 0 0=s.getD 0 0 from rfl]))|((with_reducible apply NextH.none0);(focus(rfl));(focus((exact⟨_,rfl,fun _ h=>by cases h⟩)));(focus(rfl));(focus((conv=>whnf))))|(refine(hsp _).mono ?_;rintro _ H2 ⟨⟨a2,c2,rfl,ho2⟩,hx2⟩;have hz2:=hx2.size;have hr2:=ho2.row)|refine Vc.stp ?_|refine Vc.spl ?_ ?_)<;>(intros;(conv=>whnf)))))
  ·skip
   refine LoopH.intro (fun(x:WcS)=>[(8,.int .i64 x.i),(6,.slice x.a x.out.length x.cap)]) (fun x H'=>x.i≤S.length∧x.out.length≤x.i∧glen x.out≤glen (S.take x.i)∧walkF 0 [] S=walkF 0 x.out (S.drop x.i)∧Own H' H2.size 9 1 x.a x.out.length x.cap (strs x.out)∧Ext H2 H') (fun x=>S.length-x.i) ⟨0,[],none,0⟩ ⟨rfl,rfl,trivial⟩ ⟨Nat.zero_le _,Nat.le_refl _,Nat.zero_le _,rfl,Own.nil _ _ _ _,Ext.refl _⟩ ?_
   rintro⟨i,out,a,cap⟩ H3 ⟨hi,hol,hgo,hw,ho3,hx3⟩
   dsimp only at hi hol hgo hw ho3 ⊢
   have hz3:=hx3.size
   have hr3:=hr2.ext hx3
   by_cases hlt:i<S.length
   ·obtain⟨x,hx⟩: ∃ x,S[i]? =some x:=⟨_,List.getElem?_eq_getElem (by omega)⟩
    have hdr:S.drop i=x::S.drop (i+1):=by
     rw[List.drop_eq_getElem_cons (by omega)]
     rw[List.getElem?_eq_getElem (by omega)]at hx
     rw[Option.some.inj hx]
    have htk:S.take (i+1)=S.take i++[x]:=by rw[List.take_add_one,hx];rfl
    have hgt:glen (S.take (i+1))=glen (S.take i)+(x.length+1):=by rw[htk,glen_append];simp[glen]
    have hgS:=take_glen S (i+1)
    rw[hdr,walkF]at hw
    have q0:=eq_empty x
    have q1:((mkS x).toList==(⟨#[46]⟩:ByteArray).toList)=decide (x=[46]):=by rw[show(⟨#[46]⟩:ByteArray)=mkS [46]from rfl,str_beq];simp[mkS_inj]
    have q2:((mkS x).toList==(⟨#[46,46]⟩:ByteArray).toList)=decide (x=[46,46]):=by rw[show(⟨#[46,46]⟩:ByteArray)=mkS [46,46]from rfl,str_beq];simp[mkS_inj]
    have hbd:=fun H=>rbad_any x (by omega) H
    by_cases h0:x=[]
    ·rw[if_pos (.inl h0)]at hw
     rw[decide_eq_true h0]at q0
     ((conv=>whnf);repeat(any_goals((first|(refine IdxA.strv hr3 rfl i x (by omega) hx ?_;intro _ _ _ _ _)|refine Vc.stp ?_|refine Vc.spl ?_ ?_)<;>(intros;(conv=>whnf)))))
     exact⟨⟨i+1,out,a,cap⟩,⟨rfl,rfl,trivial⟩,⟨by show i+1≤_;omega,by show out.length≤i+1;omega,by show glen out≤glen (S.take (i+1));omega,hw,ho3,hx3⟩,by show S.length-(i+1)<S.length-i;omega⟩
    rw[decide_eq_false h0]at q0
    by_cases h1':x=[46]
    ·rw[if_pos (.inr h1')]at hw
     rw[decide_eq_true h1']at q1
     ((conv=>whnf);repeat(any_goals((first|(refine IdxA.strv hr3 rfl i x (by omega) hx ?_;intro _ _ _ _ _)|refine Vc.stp ?_|refine Vc.spl ?_ ?_)<;>(intros;(conv=>whnf)))))
     exact⟨⟨i+1,out,a,cap⟩,⟨rfl,rfl,trivial⟩,⟨by show i+1≤_;omega,by show out.length≤i+1;omega,by show glen out≤glen (S.take (i+1));omega,hw,ho3,hx3⟩,by show S.length-(i+1)<S.length-i;omega⟩
    rw[decide_eq_false h1']at q1
    rw[if_neg (fun e=>e.elim h0 h1')]at hw
    by_cases h2':x=[46,46]
    ·rw[decide_eq_true h2']at q2
     rw[if_pos h2']at hw
     by_cases hl0:out.length≤0
     ·rw[if_pos hl0]at hw
      rw[hw]
      ((conv=>whnf);repeat(any_goals((first|(refine IdxA.strv hr3 rfl i x (by omega) hx ?_;intro _ _ _ _ _)|refine Vc.stp ?_|refine Vc.spl ?_ ?_)<;>(intros;(conv=>whnf)))))
      exact⟨rfl,by exact Vc.xt⟩
     ·rw[if_neg hl0]at hw
      have hcl3:=ho3.cap_le
      ((conv=>whnf);repeat(any_goals((first|(refine IdxA.strv hr3 rfl i x (by omega) hx ?_;intro _ _ _ _ _)|(refine BndH.nat (out.length-1) (by omega) (by omega) ?_)|refine Vc.stp ?_|refine Vc.spl ?_ ?_)<;>(intros;(conv=>whnf)))))
      have hdl:out.dropLast.length=out.length-1:=List.length_dropLast
      have hcut:=ho3.cut (out.length-1) (by omega)
      have ecut:(strs out).take ((out.length-1)*1)=strs out.dropLast:=by rw[Nat.mul_one,List.dropLast_eq_take];simp[strs,List.map_take]
      rw[ecut,←hdl]at hcut
      have hgd:=glen_dropLast out
      exact⟨⟨i+1,out.dropLast,a,cap⟩,⟨rfl,by dsimp only;rw[hdl];rfl,trivial⟩,⟨by show i+1≤_;omega,by show out.dropLast.length≤i+1;omega,by show glen out.dropLast≤glen (S.take (i+1));omega,hw,hcut,hx3⟩,by show S.length-(i+1)<S.length-i;omega⟩
    rw[decide_eq_false h2']at q2
    rw[if_neg h2']at hw
    by_cases hb:badP x=true
    ·rw[if_pos hb]at hw
     rw[hb]at hbd
     rw[hw]
     ((conv=>whnf);repeat(any_goals((first|(refine IdxA.strv hr3 rfl i x (by omega) hx ?_;intro _ _ _ _ _)|(refine(hbd _).mono ?_;rintro _ _ ⟨rfl,rfl⟩)|refine Vc.stp ?_|refine Vc.spl ?_ ?_)<;>(intros;(conv=>whnf)))))
     exact⟨rfl,by exact Vc.xt⟩
    ·rw[if_neg hb]at hw
     have hb:badP x=false:=by simpa using hb
     rw[hb]at hbd
     ((conv=>whnf);repeat(any_goals((first|(refine IdxA.strv hr3 rfl i x (by omega) hx ?_;intro _ _ _ _ _)|(refine(hbd _).mono ?_;rintro _ _ ⟨rfl,rfl⟩)|refine Vc.stp ?_|refine Vc.spl ?_ ?_)<;>(intros;(conv=>whnf)))))
     rename_i H5 hs5 hb5 hx5 a6 c6 H6 ho6 hx6
     exact⟨⟨i+1,out++[x],a6,c6⟩,⟨rfl,sl_snocS _ _ _ _,trivial⟩,⟨by show i+1≤_;omega,by show(out++[x]).length≤i+1;rw[List.length_append];simp;omega,by show glen (out++[x])≤glen (S.take (i+1));rw[glen_append,hgt,show glen [x]=x.length+1 by simp[glen]];omega,hw,own_snocS rfl ho6,hx6⟩,by show S.length-(i+1)<S.length-i;omega⟩
   ·obtain rfl:i=S.length:=by omega
    rw[List.drop_of_length_le (by omega),walkF]at hw
    rw[hw]
    have hgo':glen out≤s.length+1:=by rw[List.take_length]at hgo;omega
    have hgl:=fun H' (k:Ext H3 H')=>rglue_any out a out.length cap H' (ho3.row.ext k) rfl (by omega)
    by_cases hd:12<out.length
    ·rw[if_pos hd]
     ((conv=>whnf);repeat(any_goals((first|refine Vc.stp ?_|refine Vc.spl ?_ ?_)<;>(intros;(conv=>whnf)))))
     exact⟨rfl,by exact Vc.xt⟩
    ·rw[if_neg hd]
     ((conv=>whnf);repeat(any_goals((first|(refine(hgl _ (by exact Vc.xt)).mono ?_;rintro _ _ ⟨rfl,rfl⟩)|refine Vc.stp ?_|refine Vc.spl ?_ ?_)<;>(intros;(conv=>whnf)))))
     exact⟨rfl,by exact Vc.xt⟩
 exact hrest
theorem rclean_any (s:Bs) (hl:s.length≤100000000) (H:Heap):CallH Tryz.prog 33 [.string (mkS s)] H fun v H'=>v= .tuple #[.string (mkS (cleanF s).1),.int .i64 (cleanF s).2]∧Ext H H':=by
 refine Vc.CallH.body Tryz.func33 Tryz.call33 rfl (by decide+kernel) rfl ?_
 ((conv=>whnf);repeat(any_goals((first|(refine(rclean0_any s hl _).mono ?_;rintro _ H2 ⟨rfl,hx2⟩)|refine Vc.stp ?_|refine Vc.spl ?_ ?_)<;>(intros;(conv=>whnf)))))
 exact⟨rfl,hx2⟩
end Go.Proofs.YtphkaogbcfdllaaGreatDoor
namespace Go.Proofs.YtphkaogbcfdllaaGreatDoor
open Go Go.Vc Go.Scr Go.Pth Go.Tre
theorem rparts_any (p:Bs) (hl:p.length≤100000000) (H:Heap):CallH Tryz.prog 131 [.string (mkS p)] H fun v H'=>(∃ a cap,v= .slice a (partsF p).length cap∧Own H' H.size 9 1 a (partsF p).length cap (strs (partsF p)))∧Ext H H':=by
 have e0:=eq_empty p
 have hsp:=fun H=>rsplit7_any p hl H
 refine Vc.CallH.body Tryz.func131 Tryz.call131 rfl (by decide+kernel) rfl ?_
 unfold partsF
 by_cases hp:p=[]
 ·rw[decide_eq_true hp]at e0
  rw[if_pos hp]
  ((conv=>whnf);repeat(any_goals((first|refine Vc.stp ?_|refine Vc.spl ?_ ?_)<;>(intros;(conv=>whnf)))))
  exact⟨⟨none,0,rfl,Own.nil _ _ _ _⟩,Ext.refl _⟩
 ·rw[decide_eq_false hp]at e0
  rw[if_neg hp]
  ((conv=>whnf);repeat(any_goals((first|(refine(hsp _).mono ?_;rintro _ H2 ⟨⟨a2,c2,rfl,ho2⟩,hx2⟩)|refine Vc.stp ?_|refine Vc.spl ?_ ?_)<;>(intros;(conv=>whnf)))))
  exact⟨⟨a2,c2,rfl,ho2⟩,hx2⟩
theorem glen_parts (p:Bs):glen (partsF p)≤p.length+1:=by
 unfold partsF
 split
 ·exact Nat.zero_le _
 ·rw[glen_split];exact Nat.le_refl _
theorem rwithin_any (p d:Bs) (hl:p.length≤100000000) (hd:d.length≤100000000) (H:Heap):CallH Tryz.prog 38 [.string (mkS p),.string (mkS d)] H fun v H'=>v= .bool (withinF p d)∧H=H':=by
 have hsz:(mkS p).size=p.length:=rfl
 have hsd:(mkS d).size=d.length:=rfl
 have e0:=eq_empty d
 have e1:((mkS p).toList==(mkS d).toList)=decide (p=d):=by rw[str_beq];simp[mkS_inj]
 unfold withinF
 by_cases h0:d=[]
 ·rw[decide_eq_true h0]at e0
  refine Vc.CallH.body Tryz.func38 Tryz.call38 rfl (by decide+kernel) rfl ?_
  ((conv=>whnf);repeat(any_goals((first|refine Vc.stp ?_|refine Vc.spl ?_ ?_)<;>(intros;(conv=>whnf)))))
  exact⟨by rw[h0];rfl,rfl⟩
 rw[decide_eq_false h0]at e0
 by_cases h1:p=d
 ·rw[decide_eq_true h1]at e1
  refine Vc.CallH.body Tryz.func38 Tryz.call38 rfl (by decide+kernel) rfl ?_
  ((conv=>whnf);repeat(any_goals((first|refine Vc.stp ?_|refine Vc.spl ?_ ?_)<;>(intros;(conv=>whnf)))))
  exact⟨by rw[h1];simp;rfl,rfl⟩
 rw[decide_eq_false h1]at e1
 have er:(d== [] || p==d || (d++[47]).isPrefixOf p)=(d++[47]).isPrefixOf p:=by simp[h0,h1]
 rw[er]
 by_cases h2:d.length<p.length
 ·have ex:(mkS p).extract 0 d.length=mkS (p.take d.length):=mkS_take _ _
  have e2:((mkS (p.take d.length)).toList==(mkS d).toList)=decide (p.take d.length=d):=by rw[str_beq];simp[mkS_inj]
  by_cases h3:p.take d.length=d
  ·rw[decide_eq_true h3]at e2
   obtain⟨c,hc,hdr⟩:=drop_get h2
   have hpd:p=d++c::p.drop (d.length+1):=by
    rw[←hdr];conv=>lhs;rw[←List.take_append_drop d.length p,h3]
   by_cases h4:c=47
   ·have ep:(d++[47]).isPrefixOf p=true:=by rw[List.isPrefixOf_iff_prefix];exact⟨p.drop (d.length+1),by rw[List.append_assoc,←h4];exact hpd.symm⟩
    have h4':c.toNat=47:=by rw[h4];rfl
    rw[ep]
    refine Vc.CallH.body Tryz.func38 Tryz.call38 rfl (by decide+kernel) rfl ?_
    ((conv=>whnf);repeat(any_goals((first|(refine BndH.nat d.length rfl (by omega) ?_;(conv=>whnf);rw[ex,e2])|(refine IdxH.nat d.length rfl (by omega) ?_;(conv=>whnf);rw[hc])|refine Vc.stp ?_|refine Vc.spl ?_ ?_)<;>(intros;(conv=>whnf)))))
    exact⟨by rw[h4'];rfl,rfl⟩
   ·have ep:(d++[47]).isPrefixOf p=false:=by
     rw[Bool.eq_false_iff,Ne,List.isPrefixOf_iff_prefix]
     rintro⟨t,e⟩
     rw[List.append_assoc]at e
     have:=List.append_cancel_left (e.trans hpd)
     simp at this
     exact h4 this.1.symm
    have h4':c.toNat≠47:=ne_nat 47 (by decide) h4
    rw[ep]
    refine Vc.CallH.body Tryz.func38 Tryz.call38 rfl (by decide+kernel) rfl ?_
    ((conv=>whnf);repeat(any_goals((first|(refine BndH.nat d.length rfl (by omega) ?_;(conv=>whnf);rw[ex,e2])|(refine IdxH.nat d.length rfl (by omega) ?_;(conv=>whnf);rw[hc])|refine Vc.stp ?_|refine Vc.spl ?_ ?_)<;>(intros;(conv=>whnf)))))
    exact⟨by(show Value.bool (decide _)=_);rw[decide_eq_false (by omega)],rfl⟩
  ·rw[decide_eq_false h3]at e2
   have ep:(d++[47]).isPrefixOf p=false:=by
    rw[Bool.eq_false_iff,Ne,List.isPrefixOf_iff_prefix]
    rintro⟨t,e⟩
    exact h3 (by rw[←e];simp)
   rw[ep]
   refine Vc.CallH.body Tryz.func38 Tryz.call38 rfl (by decide+kernel) rfl ?_
   ((conv=>whnf);repeat(any_goals((first|(refine BndH.nat d.length rfl (by omega) ?_;(conv=>whnf);rw[ex,e2])|refine Vc.stp ?_|refine Vc.spl ?_ ?_)<;>(intros;(conv=>whnf)))))
   exact⟨rfl,rfl⟩
 ·have ep:(d++[47]).isPrefixOf p=false:=by
   rw[Bool.eq_false_iff,Ne,List.isPrefixOf_iff_prefix]
   intro h;have:=h.length_le;rw[List.length_append]at this;simp at this;omega
  rw[ep]
  refine Vc.CallH.body Tryz.func38 Tryz.call38 rfl (by decide+kernel) rfl ?_
  ((conv=>whnf);repeat(any_goals((first|refine Vc.stp ?_|refine Vc.spl ?_ ?_)<;>(intros;(conv=>whnf)))))
  exact⟨rfl,rfl⟩
def RatV (v:Value) (A:Tr) (p:Txt):Prop:=(mget A p=none∧v= .int .i64 (-1))∨ ∃ (i:Nat) (n:Tre.Node),A[i]? =some (p,n)∧mget A p=some n∧v= .int .i64 i
theorem rat_any {b:Nat} {A:Tr} {H:Heap} (h:RTree H b A) (p:Bs) (hAl:A.length≤1000000000):CallH Tryz.prog 70 [.pointer (some ⟨b,0,none⟩),.string (mkS p)] H fun v H'=>RatV v A p∧H=H':=by
 obtain⟨a,cap,hb,hr⟩:=h.out
 refine Vc.CallH.body Tryz.func70 Tryz.call70 rfl (by decide+kernel) rfl ?_
 ((conv=>whnf);repeat(any_goals((first|refine Vc.stp ?_|refine Vc.spl ?_ ?_)<;>(intros;(conv=>whnf)))))
 refine LoopH.intro (fun(i:Nat)=>[(5,.int .i64 i)]) (fun i H'=>H=H'∧i≤A.length∧mget A p=mget (A.drop i) p) (fun i=>A.length-i) 0 ⟨rfl,trivial⟩ ⟨rfl,Nat.zero_le _,rfl⟩ ?_
 rintro i _ ⟨rfl,hi,hm⟩
 by_cases hlt:i<A.length
 ·obtain⟨x,hx⟩: ∃ x,A[i]? =some x:=⟨_,List.getElem?_eq_getElem (by omega)⟩
  have hdr:A.drop i=x::A.drop (i+1):=by
   rw[List.drop_eq_getElem_cons (by omega)]
   rw[List.getElem?_eq_getElem (by omega)]at hx
   rw[Option.some.inj hx]
  rw[hdr]at hm
  simp only[mget]at hm
  have e1:((mkS x.1).toList==(mkS p).toList)=decide (x.1=p):=by rw[str_beq];simp[mkS_inj]
  by_cases hp:x.1=p
  ·rw[decide_eq_true hp]at e1
   rw[if_pos hp.symm]at hm
   ((conv=>whnf);repeat(any_goals((first|(refine IdxA.file hr rfl i x (by omega) hx ?_;intro bi oi ai ci hri hci;have hc0:=hci 0 _ rfl;have hc1:=hci 1 _ rfl;have hc2:=hci 2 _ rfl)|refine Vc.stp ?_|refine Vc.spl ?_ ?_)<;>(intros;(conv=>whnf)))))
   exact⟨.inr ⟨i,x.2,by rw[hx,←hp],hm,rfl⟩,rfl⟩
  ·rw[decide_eq_false hp]at e1
   rw[if_neg (fun e=>hp e.symm)]at hm
   ((conv=>whnf);repeat(any_goals((first|(refine IdxA.file hr rfl i x (by omega) hx ?_;intro bi oi ai ci hri hci;have hc0:=hci 0 _ rfl;have hc1:=hci 1 _ rfl;have hc2:=hci 2 _ rfl)|refine Vc.stp ?_|refine Vc.spl ?_ ?_)<;>(intros;(conv=>whnf)))))
   exact⟨i+1,⟨rfl,trivial⟩,⟨rfl,by omega,hm⟩,by omega⟩
 ·rw[List.drop_of_length_le (by omega)]at hm
  ((conv=>whnf);repeat(any_goals((first|refine Vc.stp ?_|refine Vc.spl ?_ ?_)<;>(intros;(conv=>whnf)))))
  exact⟨.inl ⟨hm,rfl⟩,rfl⟩
def RaheadV (H':Heap) (base:Nat) (v:Value) (A:Tr) (p:Txt):Prop:=
 if fileF A p=true then v= .tuple #[.bool true,.slice none 0 0]
 else ∃ a cap,v= .tuple #[.bool false,.slice a (lackF A p).length cap]∧Own H' base 9 1 a (lackF A p).length cap (strs (lackF A p))
structure RaS where
 m:Nat
 out:List Bs
 a:Option Addr
 cap:Nat
set_option maxHeartbeats 1000000 in
theorem rahead_any {b:Nat} {A:Tr} {H:Heap} (h:RTree H b A) {p:Bs} (hl:p.length≤100000000) (hAl:A.length≤1000000000):CallH Tryz.prog 71 [.pointer (some ⟨b,0,none⟩),.string (mkS p)] H fun v H'=>RaheadV H' H.size v A p∧Ext H H':=by
 have hpa:=fun H=>rparts_any p hl H
 have hglp:=glen_parts p
 obtain⟨S,hS⟩: ∃ S,partsF p=S:=⟨_,rfl⟩
 obtain⟨ps,hps⟩: ∃ ps,pars p=ps:=⟨_,rfl⟩
 have hpl:ps.length=S.length-1:=by rw[←hps,pars_len,hS]
 have hpg: ∀ m,m<S.length-1→ps[m]? =some (glue (S.take (m+1))):=fun m hm=>by rw[←hps,pars_get _ (by rw[hS];exact hm),hS]
 rw[hS]at hpa hglp
 have hSl:=glen_le_len S
 refine Vc.CallH.body Tryz.func71 Tryz.call71 rfl (by decide+kernel) rfl ?_
 ((conv=>whnf);repeat(any_goals((first|(refine(hpa _).mono ?_;rintro _ H1 ⟨⟨a1,c1,rfl,ho1⟩,hx1⟩;have hz1:=hx1.size;have hcl1:=ho1.cap_le)|refine Vc.stp ?_|refine Vc.spl ?_ ?_)<;>(intros;(conv=>whnf)))))
 refine LoopH.intro (fun(x:RaS)=>[(8,.int .i64 ((x.m:Int)+1)),(6,.slice x.a x.out.length x.cap)])
  (fun x H'=>x.m≤S.length∧x.out.length≤x.m∧(x.m≤S.length-1∨S.length=0∧x.m=0)∧x.out=((ps.take x.m).filter fun d=>(mget A d).isNone)∧(∀ d∈ps.take x.m,∀ n,mget A d=some n→n.1=true)∧Own H' H1.size 9 1 x.a x.out.length x.cap (strs x.out)∧Ext H1 H') (fun x=>S.length-x.m) ⟨0,[],none,0⟩ ⟨rfl,rfl,trivial⟩
  ⟨Nat.zero_le _,Nat.le_refl _,by(show 0≤S.length-1∨_;exact .inl (Nat.zero_le _)),rfl,by(intro d hd;cases hd),Own.nil _ _ _ _,Ext.refl _⟩ ?_
 rintro⟨m,out,a,cap⟩ H2 ⟨hm,hol,hm2,hout,hdir,ho2,hx2⟩
 dsimp only at hm hol hm2 hout hdir ho2 ⊢
 have hz2:=hx2.size
 have hx02:Ext H H2:=hx1.trans hx2
 have hr1:=ho1.row.ext hx2
 obtain⟨ta,tcap,htb,htr⟩:=(h.ext hx02).out
 by_cases hlt:m+1<S.length
 ·have hget:=hpg m (by omega)
  have htk:ps.take (m+1)=ps.take m++[glue (S.take (m+1))]:=by rw[List.take_add_one,hget];rfl
  have hcut:=hr1.take (m+1)
  have ecut:(strs S).take (m+1)=strs (S.take (m+1)):=by simp[strs,List.map_take]
  rw[ecut]at hcut
  have htl:(S.take (m+1)).length=m+1:=by rw[List.length_take];omega
  have htg:=take_glen S (m+1)
  have hgl:=fun H' (k:Ext H2 H')=>rglue_any (S.take (m+1)) a1 (m+1) c1 H' (hcut.ext k) htl (by omega)
  have hat:=fun H' (k:Ext H2 H')=>rat_any ((h.ext hx02).ext k) (glue (S.take (m+1))) hAl
  cases hg:mget A (glue (S.take (m+1)))with
  |none=>
   unfold RatV at hat
   rw[hg]at hat
   ((conv=>whnf);repeat(any_goals((first|(refine BndH.nat (m+1) (by omega) (by omega) ?_)|(refine(hgl _ (by exact Vc.xt)).mono ?_;rintro _ _ ⟨rfl,rfl⟩)|(refine(hat _ (by exact Vc.xt)).mono ?_;rintro _ _ ⟨(⟨_,rfl⟩|⟨_,_,_,hcon,_⟩),rfl⟩;rotate_left;exact absurd hcon (by simp))|refine Vc.stp ?_|refine Vc.spl ?_ ?_)<;>(intros;(conv=>whnf)))))
   rename_i H5 hs5 hb5 hx5 a6 c6 H6 ho6 hx6
   refine⟨⟨m+1,out++[glue (S.take (m+1))],a6,c6⟩,⟨rfl,sl_snocS _ _ _ _,trivial⟩,⟨by show m+1≤S.length;omega,by show(out++[_]).length≤m+1;rw[List.length_append,List.length_singleton];omega,.inl (by show m+1≤S.length-1;omega),?_,?_,own_snocS rfl ho6,hx6⟩,by show S.length-(m+1)<S.length-m;omega⟩
   ·show out++_=_
    rw[htk,List.filter_append,←hout,List.filter_cons,if_pos (by rw[hg];rfl)];rfl
   ·show ∀ d∈ps.take (m+1),_
    rw[htk]
    intro d hd n hn
    rcases List.mem_append.1 hd with hd|hd
    ·exact hdir d hd n hn
    ·rw[List.mem_singleton]at hd;subst hd;rw[hg]at hn;cases hn
  |some n=>
   unfold RatV at hat
   rw[hg]at hat
   obtain⟨dir,t⟩:=n
   cases dir with
   |true=>
    ((conv=>whnf);repeat(any_goals((first|(refine BndH.nat (m+1) (by omega) (by omega) ?_)|(refine(hgl _ (by exact Vc.xt)).mono ?_;rintro _ _ ⟨rfl,rfl⟩)|(refine(hat _ (by exact Vc.xt)).mono ?_;rintro _ _ ⟨(⟨hcon,_⟩|⟨k,nn,hk,hnn,rfl⟩),rfl⟩;cases hcon;(obtain rfl:=Option.some.inj hnn);(have hkl:=(List.getElem?_eq_some_iff.1 hk).1))|(refine IdxA.file htr rfl k _ (by omega) hk ?_;intro bi oi ai ci hri hci;have hc1:=hci 1 _ rfl)|refine Vc.stp ?_|refine Vc.spl ?_ ?_)<;>(intros;(conv=>whnf)))))
    refine⟨⟨m+1,out,a,cap⟩,⟨rfl,rfl,trivial⟩,⟨by show m+1≤S.length;omega,by show out.length≤m+1;omega,.inl (by show m+1≤S.length-1;omega),?_,?_,ho2,hx2⟩,by show S.length-(m+1)<S.length-m;omega⟩
    ·show out=_
     rw[htk,List.filter_append,←hout,List.filter_cons,if_neg (by rw[hg];simp)];simp
    ·show ∀ d∈ps.take (m+1),_
     rw[htk]
     intro d hd n hn
     rcases List.mem_append.1 hd with hd|hd
     ·exact hdir d hd n hn
     ·rw[List.mem_singleton]at hd;subst hd;rw[hg]at hn;cases hn;rfl
   |false=>
    ((conv=>whnf);repeat(any_goals((first|(refine BndH.nat (m+1) (by omega) (by omega) ?_)|(refine(hgl _ (by exact Vc.xt)).mono ?_;rintro _ _ ⟨rfl,rfl⟩)|(refine(hat _ (by exact Vc.xt)).mono ?_;rintro _ _ ⟨(⟨hcon,_⟩|⟨k,nn,hk,hnn,rfl⟩),rfl⟩;cases hcon;(obtain rfl:=Option.some.inj hnn);(have hkl:=(List.getElem?_eq_some_iff.1 hk).1))|(refine IdxA.file htr rfl k _ (by omega) hk ?_;intro bi oi ai ci hri hci;have hc1:=hci 1 _ rfl)|refine Vc.stp ?_|refine Vc.spl ?_ ?_)<;>(intros;(conv=>whnf)))))
    have hff:fileF A p=true:=by
     unfold fileF
     rw[List.any_eq_true,hps]
     exact⟨_,List.mem_of_getElem? hget,by rw[hg];rfl⟩
    refine⟨?_,hx02⟩
    unfold RaheadV
    rw[if_pos hff];rfl
 ·have hall:ps.take m=ps:=List.take_of_length_le (by omega)
  rw[hall]at hout hdir
  have hff:fileF A p=false:=by
   unfold fileF
   rw[List.any_eq_false,hps]
   intro d hd
   have:=hdir d hd
   cases hg:mget A d with
   |none=>simp
   |some n=>simp[this n hg]
  have hlk:out=lackF A p:=by rw[hout];unfold lackF;rw[hps]
  ((conv=>whnf);repeat(any_goals((first|refine Vc.stp ?_|refine Vc.spl ?_ ?_)<;>(intros;(conv=>whnf)))))
  refine⟨?_,hx02⟩
  unfold RaheadV
  rw[hff,if_neg (by simp),←hlk]
  exact⟨a,cap,rfl,ho2.base (by omega)⟩
end Go.Proofs.YtphkaogbcfdllaaGreatDoor
namespace Go.Vc
theorem NextH.appendFull {P:Program} {H:Heap} {t u e ty:TypeId} {i:TypeInfo} {z:Value} {a:Option Addr} {n:Nat} {xs:List Value} {x:Value} {m:Nat} {news:List Value} {cb:Array Bool} {K:Value→Heap→Prop}
  (hr:Row H a xs) (hl:xs.length=n*i.size) (hsrc:Src P H x i.size m news) (hm:0<m)
  (ht:P.underlying t=some (.slice e)) (hu: ∃ d,P.underlying u=some d∧(∀ k,d≠ .int k)) (hi:P.info? e=some i) (hz:i.zero=some z) (hzs:z.cells.size=i.size)
  (h63:n+m≤maxLen) (hbytes:(n+m)*i.bytes≤140737488355328)
  (hk: ∀ cap' H',Own H' H.size e i.size (some ⟨H.size,0,none⟩) (n+m) cap' (xs++news)→Ext H H'→K (.slice (some ⟨H.size,0,none⟩) (n+m) cap') H'):
  NextH P (builtin .append #[t,u] ty cb #[.slice a n n,x]) H K:=by
 refine⟨fun w hw=> ?_⟩
 obtain⟨d,hu,hd⟩:=hu
 have hzero:(match d with| .int _=>true|_=>false)=false:=by cases d<;>first|rfl|exact absurd rfl (hd _)
 have hsmall:n+m≤9223372036854775807:=by have:=h63;simp only[maxLen]at this;omega
 have hlen:(xs++news).length=(n+m)*i.size:=by rw[List.length_append,hl,hsrc.len,Nat.add_mul]
 have hroom: ¬n+m≤n:=by omega
 have hroom': ¬m=0:=by omega
 have goal: ∀ {v w'},(Builtin.append_ #[t,u] ty #[.slice a n n,x]).run P w= .ok v w'→Same w w'→K v w'.heap→Nexts P w K ((builtin .append #[t,u] ty cb #[.slice a n n,x]).run P w):=by
  intro v w' hr hs hk
  simp only[builtin,Sem.run_bind,hr,Result.andThen_ok]
  exact⟨hs,hk⟩
 have hgrow:n<n+m:=by omega
 have h63': ¬(9223372036854775807<((n:Int)+(m:Int))):=by omega
 have hfit:=growslice_fits hgrow hbytes
 have h48: ¬(281474976710656<Builtin.nextslicecap (n+m) n*i.bytes):=by omega
 have hold: ∀ w':World,w'.heap=H→(Builtin.firstCells i.size n (.slice a n n)).run P w'= .ok xs.toArray w':=fun w' hw'=>run_firstRow hr hl w' hw'
 have hge:n+m≤grownCap w (n+m) n e:=grownCap_ge w (n+m) n e
 have hcm:grownCap w (n+m) n e≤maxLen:=grownCap_le_maxLen w (n+m) n e h63
 refine goal (v:= .slice (some ⟨w.heap.size,0,none⟩) (n+m) (grownCap w (n+m) n e))
  (w':=w.drew.alloc (.cells (xs.toArray++news.toArray++Builtin.zeroCells z.cells (grownCap w (n+m) n e-(n+m))) e)) ?_ ⟨rfl,rfl,rfl⟩ ?_
 ·have e1:=hold w.drew hw
  have e2:=hsrc.first w.drew hw
  simp[Builtin.append_,underlying_of ht,underlying_of hu,sizeOf_of hi,typeInfo_of hi,hzero,hsrc.lenOf,hroom,hroom',h63',h48,Question.forced,e1,e2,zeroValue,hz,newRow,grownCap]
  congr 2
  apply Array.ext'
  simp[List.append_assoc]
 ·subst hw
  refine hk _ _ ⟨hlen,.inr ⟨w.heap.size,_,rfl,Nat.le_refl _,Blk.new (push_last _ _),hge,hcm,?_,?_⟩⟩ (Only.push _ _ _)
  ·simp only[Array.size_append,List.size_toArray,size_zeroCells,hzs,hl,hsrc.len,←Nat.add_mul]
   congr 1
   omega
  ·simp only[Array.toList_append,List.append_assoc]
   rw[←List.append_assoc,←hlen]
   exact List.take_left
end Go.Vc
namespace Go.Tre
open Go.Pth Go.Scr
open Go.Vc (mget mput mdel mget_put mget_mem mget_of_mem mget_none)
theorem putF_at: ∀ (A:Tr) (p:Txt) (n:Node) (i:Nat),(∀ j x,j<i→A[j]? =some x→Op.bytesLess x.1 p=true)→i≤A.length→(∀ x,A[i]? =some x→Op.bytesLess x.1 p=false)→
  putF A p n=A.take i++(p,n)::A.drop (if A[i]?.map (·.1)=some p then i+1 else i)
 |[],p,n,i,_,hi,_=>by
  obtain rfl:i=0:=by simpa using hi
  rfl
 |x::l,p,n,0,_,_,h=>by
  have:=h x rfl
  simp only[putF]
  rw[if_neg (by rw[this];simp)]
  by_cases e:x.1=p
  ·rw[if_pos e];simp[e]
  ·rw[if_neg e];simp[e]
 |x::l,p,n,i+1,h1,hi,h=>by
  have hx:=h1 0 x (by omega) rfl
  simp only[putF]
  rw[if_pos hx,putF_at l p n i (fun j y hj hy=>h1 (j+1) y (by omega) (by simpa using hy)) (by simpa using hi) (fun y hy=>h y (by simpa using hy))]
  simp only[List.getElem?_cons_succ,List.take_succ_cons,List.cons_append]
  congr 2
  by_cases e:l[i]?.map (·.1)=some p
  ·rw[if_pos e,if_pos e];rfl
  ·rw[if_neg e,if_neg e];rfl
end Go.Tre
namespace Go.Proofs.YtphkaogbcfdllaaGreatDoor
open Go Go.Vc Go.Scr Go.Pth Go.Tre
theorem NextH.fullF {H:Heap} {u ty:TypeId} {a a2:Option Addr} {n m c2:Nat} {xs news:List Value} {cb:Array Bool} {K:Value→Heap→Prop}
  (hr:Row H a xs) (hl:xs.length=n*3) (hr2:Row H a2 news) (hl2:news.length=m*3) (hp: ∀ u∈news,plainV u=true) (hm:0<m) (hn:n+m≤4000000) (hu: ∃ d,Tryz.prog.underlying u=some d∧(∀ k,d≠ .int k))
  (hk: ∀ cap' H',Own H' H.size 71 3 (some ⟨H.size,0,none⟩) (n+m) cap' (xs++news)→Ext H H'→K (.slice (some ⟨H.size,0,none⟩) (n+m) cap') H'):
  NextH Tryz.prog (builtin .append #[46,u] ty cb #[.slice a n n,.slice a2 m c2]) H K:=by
 refine Go.Vc.NextH.appendFull (i:=Tryz.t71) (z:= .agg #[.string ⟨#[]⟩,.bool false,.slice none 0 0]) hr hl (Src.row hr2 hl2 hp) hm rfl hu rfl rfl rfl (by unfold maxLen;omega) ?_ hk
 exact Nat.le_trans (Nat.mul_le_mul_left (n+m) (show _≤64 from by decide)) (by omega)
theorem NextH.appF {H:Heap} {u ty:TypeId} {a a2:Option Addr} {n m cap c2 base:Nat} {xs news:List Value} {cb:Array Bool} {K:Value→Heap→Prop}
  (ho:Own H base 71 3 a n cap xs) (hr2:Row H a2 news) (hl2:news.length=m*3) (hp: ∀ u∈news,plainV u=true) (hb:base≤H.size) (hn:n+m≤4000000) (hu: ∃ d,Tryz.prog.underlying u=some d∧(∀ k,d≠ .int k))
  (hk: ∀ a' cap' H',Own H' base 71 3 a' (n+m) cap' (xs++news)→Wr a H H'→K (.slice a' (n+m) cap') H'):
  NextH Tryz.prog (builtin .append #[46,u] ty cb #[.slice a n cap,.slice a2 m c2]) H K:=by
 refine Go.Vc.NextH.append (i:=Tryz.t71) (z:= .agg #[.string ⟨#[]⟩,.bool false,.slice none 0 0]) rfl hu rfl rfl rfl ho (Src.row hr2 hl2 hp) (by unfold maxLen;omega) ?_ hb fun a' cap' H' h1 h2 _=>hk a' cap' H' h1 h2
 exact Nat.le_trans (Nat.mul_le_mul_left (n+m) (show _≤64 from by decide)) (by omega)
theorem toList_mkS (l:Bs):(mkS l).toList=l:=by rw[ByteArray.toList_eq]
theorem fileC_plain (x:Bs×Tre.Node) (a:Option Addr) (c:Nat): ∀ u∈fileC x a c,plainV u=true:=by simp[fileC,plainV]
theorem own_litK {H:Heap} {g base:Nat} {e:TypeId} {xs:List Value} (h:Blk H g xs.toArray e) (hb:base≤g):Own H base e xs.length (some ⟨g,0,none⟩) 1 1 xs:=⟨by simp,.inr ⟨g,xs.toArray,rfl,hb,h,Nat.le_refl _,by unfold maxLen;omega,by simp,by simp⟩⟩
set_option maxHeartbeats 4000000 in
theorem rput_any {b:Nat} {A:Tr} {H:Heap} (h:RTree H b A) (p:Bs) (n:Tre.Node) (fa:Option Addr) (fc:Nat) (hf:Row H fa (strV n.2)) (hAl:A.length≤1000000):
  CallH Tryz.prog 81 [.pointer (some ⟨b,0,none⟩),.agg #[.string (mkS p),.bool n.1,.slice fa n.2.length fc]] H fun v H'=>v= .tuple #[]∧RTree H' b (putF A p n)∧But b H H':=by
 obtain⟨a,cap,hb,hr⟩:=h.out
 obtain⟨vs,hrv,hfv⟩:=hr.out
 have hbl:=hb.lt
 have hvl:=hfv.len
 have hvd: ∀ k,(vs.drop (k*3)).length=(A.length-k)*3:=fun k=>by rw[List.length_drop,hvl,Nat.sub_mul]
 have hby: ∀ m:Nat,m≤4000000→m*(Tryz.t71).bytes≤140737488355328:=fun m hm=>Nat.le_trans (Nat.mul_le_mul_left m (show _≤64 from by decide)) (by omega)
 refine Vc.CallH.body Tryz.func81 Tryz.call81 rfl (by decide+kernel) rfl ?_
 ((conv=>whnf);repeat(any_goals((first|refine Vc.stp ?_|refine Vc.spl ?_ ?_)<;>(intros;(conv=>whnf)))))
 rename_i H1 z1 b1 x1
 have b1:Blk H1 H.size #[.string (mkS p),.bool n.1,.slice fa n.2.length fc] 71:=b1
 have hr1:=hr.ext x1
 have hb1:=hb.ext x1
 refine LoopH.intro (fun(i:Nat)=>[(4,.int .i64 i)]) (fun i H'=>H1=H'∧i≤A.length∧ ∀ j x,j<i→A[j]? =some x→Op.bytesLess x.1 p=true) (fun i=>A.length-i) 0 ⟨rfl,trivial⟩ ⟨rfl,Nat.zero_le _,fun j x hj=>absurd hj (by omega)⟩ ?_
 rintro i _ ⟨rfl,hi,hlo⟩
 have hvt:(vs.take (i*3)).length=i*3:=by rw[List.length_take,hvl];have:=Nat.mul_le_mul_right 3 hi;omega
 by_cases hlt:i<A.length
 ·obtain⟨x,hx⟩: ∃ x,A[i]? =some x:=⟨_,List.getElem?_eq_getElem (by omega)⟩
  have e1:Op.bytesLess (mkS x.1).toList (mkS p).toList=Op.bytesLess x.1 p:=by rw[toList_mkS,toList_mkS]
  by_cases hls:Op.bytesLess x.1 p=true
  ·rw[hls]at e1
   ((conv=>whnf);repeat(any_goals((first|(refine IdxA.file hr1 rfl i x (by omega) hx ?_;intro bi oi ai ci hri hci;have hc0:=hci 0 _ rfl;have hc1:=hci 1 _ rfl;have hc2:=hci 2 _ rfl)|((with_reducible refine Vc.DrawH.held [0,1,2,3,4,5,6,7,8,11,12,13,14,15,16,17,9,10,18,19,20,21] [(9,[4,14]),(10,[14])] mixed (by decide+kernel) ?_))|((with_reducible refine Vc.DrawH.held [0,1,2,3,4,5,6,7,8,10,11,12,13,14,15,9,16,17,18,19,20] [(9,[4,13]),(16,[4])] mixed (by decide+kernel) ?_))|refine Vc.stp ?_|refine Vc.spl ?_ ?_)<;>(intros;(conv=>whnf)))))
   exact⟨i+1,⟨rfl,trivial⟩,⟨rfl,by omega,fun j y hj hy=>by
    by_cases hji:j=i
    ·subst hji;rw[hx]at hy;cases hy;exact hls
    ·exact hlo j y (by omega) hy⟩,by omega⟩
  ·have hls:Op.bytesLess x.1 p=false:=by simpa using hls
   rw[hls]at e1
   have e2:((mkS x.1).toList==(mkS p).toList)=decide (x.1=p):=by rw[str_beq];simp[mkS_inj]
   have hput:=putF_at A p n i hlo hi (fun y hy=>by rw[hx]at hy;cases hy;exact hls)
   rw[hx]at hput
   by_cases hp:x.1=p
   ·rw[decide_eq_true hp]at e2
    rw[Option.map_some,if_pos (by rw[hp])]at hput
    have hA1:A.drop i=x::A.drop (i+1):=by
     rw[List.drop_eq_getElem_cons (by omega)]
     rw[List.getElem?_eq_getElem (by omega)]at hx
     rw[Option.some.inj hx]
    ((conv=>whnf);repeat(any_goals((first|(refine IdxA.file hr1 rfl i x (by omega) hx ?_;intro bi oi ai ci hri hci;have hc0:=hci 0 _ rfl;have hc1:=hci 1 _ rfl;have hc2:=hci 2 _ rfl)|(refine BndH.nat (i+1) (by omega) (by omega) ?_)|(refine BndH.nat i (by omega) (by omega) ?_)|((with_reducible refine Vc.DrawH.held [0,1,2,3,4,5,6,7,8,11,12,13,14,15,16,17,9,10,18,19,20,21] [(9,[4,14]),(10,[14])] mixed (by decide+kernel) ?_))|((with_reducible refine Vc.DrawH.held [0,1,2,3,4,5,6,7,8,10,11,12,13,14,15,9,16,17,18,19,20] [(9,[4,13]),(16,[4])] mixed (by decide+kernel) ?_))|refine Vc.stp ?_)<;>(intros;(conv=>whnf)))))
    (refine NextH.fullF (n:=i) (m:=1) (news:=fileC (p,n) fa fc) (xs:=vs.take (i*3)) ((hrv.take (i*3)).ext (by exact Vc.xt)) hvt (Blk.row (c:=fileC (p,n) fa fc) (by assumption)) rfl (by simp[fileC,plainV]) (by omega) (by omega) ⟨_,rfl,fun _ h=>by cases h⟩ ?_;intro c5 H5 ho5 hx5;have hz5:=hx5.size)
    ((conv=>whnf);repeat(any_goals((first|refine Vc.stp ?_)<;>(intros;(conv=>whnf)))))
    (refine NextH.appF (news:=vs.drop ((i+1)*3)) (base:=H.size) (ho5.base (by omega)) ((hrv.drop (A.length+cap) (i+1) 3 (by omega)).ext (by exact Vc.xt)) (hvd _) (fun u hu=>hfv.plain u (List.mem_of_mem_drop hu)) (by omega) (by omega) ⟨_,rfl,fun _ h=>by cases h⟩ ?_;intro a6 c6 H6 ho6 hw6;have hx6:=And.intro trivial ((show Ext H1 H5 by exact Vc.xt).but hw6.toBut (by omega));have hb6:=hb1.ext hx6.2)
    ((conv=>whnf);repeat(any_goals((first|refine Vc.stp ?_)<;>(intros;(conv=>whnf)))))
    rename_i H7 z7 b7 x7
    have e0:i+1+(A.length-(i+1))=A.length:=by omega
    have hA':(A.take i++(p,n)::A.drop (i+1)).length=A.length:=by rw[List.length_append,List.length_take,List.length_cons,List.length_drop];omega
    rw[hput]
    have hfil:FilesV H6 (A.take i++(p,n)::A.drop (i+1)) (vs.take (i*3)++fileC (p,n) fa fc++vs.drop ((i+1)*3)):=by
     rw[List.append_assoc]
     exact((hfv.ext (x1.trans hx6.2)).take i).append (.cons ((hf.ext x1).ext hx6.2) ((hfv.ext (x1.trans hx6.2)).drop (i+1)))
    have hrf:RowF H6 a6 (A.take i++(p,n)::A.drop (i+1)):=⟨_,ho6.row,hfil⟩
    have hcl:=ho6.cap_le
    have b7:Blk H7 b #[.slice a6 (i+1+(A.length-(i+1))) c6] 48:=b7
    exact⟨rfl,.of b7 (by rw[hA',e0]) hcl (hrf.keep x7 fun x e _=>by subst e;exact .blk hb6 (slice_dumb _ _ _)),(x1.trans hx6.2).only.trans x7 fun _ _ e=>e⟩
   ·rw[decide_eq_false hp]at e2
    rw[Option.map_some,if_neg (by simpa using hp)]at hput
    ((conv=>whnf);repeat(any_goals((first|(refine IdxA.file hr1 rfl i x (by omega) hx ?_;intro bi oi ai ci hri hci;have hc0:=hci 0 _ rfl;have hc1:=hci 1 _ rfl;have hc2:=hci 2 _ rfl)|(refine BndH.nat i (by omega) (by omega) ?_)|((with_reducible refine Vc.DrawH.held [0,1,2,3,4,5,6,7,8,11,12,13,14,15,16,17,9,10,18,19,20,21] [(9,[4,14]),(10,[14])] mixed (by decide+kernel) ?_))|((with_reducible refine Vc.DrawH.held [0,1,2,3,4,5,6,7,8,10,11,12,13,14,15,9,16,17,18,19,20] [(9,[4,13]),(16,[4])] mixed (by decide+kernel) ?_))|refine Vc.stp ?_)<;>(intros;(conv=>whnf)))))
    (rename_i Hl zl bl xl;refine NextH.appF (n:=1) (news:=vs.drop (i*3)) (base:=H.size) (xs:=fileC (p,n) fa fc) (own_litK bl (by omega)) ((hrv.drop (A.length+cap) i 3 (fun e=>by rw[hvl];exact Nat.mul_le_mul_right 3 (by omega))).ext (by exact Vc.xt)) (hvd _) (fun u hu=>hfv.plain u (List.mem_of_mem_drop hu)) (by omega) (by omega) ⟨_,rfl,fun _ h=>by cases h⟩ ?_;intro a5 c5 H5 ho5 hw5;have hz5:=hw5.size;have hx15:=And.intro trivial (xl.but hw5.toBut (by omega));have hb5:=hb1.ext hx15.2)
    ((conv=>whnf);repeat(any_goals((first|refine Vc.stp ?_)<;>(intros;(conv=>whnf)))))
    (refine NextH.fullF (n:=i) (xs:=vs.take (i*3)) ((hrv.take (i*3)).ext (x1.trans hx15.2)) hvt ho5.row ho5.len (fun u hu=>(List.mem_append.1 hu).elim (fileC_plain (p,n) fa fc u) fun hu=>hfv.plain u (List.mem_of_mem_drop hu)) (by omega) (by omega) ⟨_,rfl,fun _ h=>by cases h⟩ ?_;intro c6 H6 ho6 hx6;have hz6:=hx6.size)
    ((conv=>whnf);repeat(any_goals((first|refine Vc.stp ?_)<;>(intros;(conv=>whnf)))))
    (rename_i H7 z7 b7 x7;have e0:i+(1+(A.length-i))=A.length+1:=(by omega);have hA':(A.take i++(p,n)::A.drop i).length=A.length+1:=(by rw[List.length_append,List.length_take,List.length_cons,List.length_drop];omega);rw[hput];have hx16:=hx15.2.trans hx6;have hfil:FilesV H6 (A.take i++(p,n)::A.drop i) (vs.take (i*3)++(fileC (p,n) fa fc++vs.drop (i*3))):=((hfv.ext (x1.trans hx16)).take i).append (.cons ((hf.ext x1).ext hx16) ((hfv.ext (x1.trans hx16)).drop i));have hrf:RowF H6 (some ⟨H5.size,0,none⟩) (A.take i++(p,n)::A.drop i):=⟨_,ho6.row,hfil⟩;have hcl:=ho6.cap_le;have b7:Blk H7 b #[.slice (some ⟨H5.size,0,none⟩) (i+(1+(A.length-i))) c6] 48:=b7;exact⟨rfl,.of b7 (by rw[hA',e0]) hcl (hrf.keep x7 fun x e _=>by subst e;exact .blk (hb1.ext hx16) (slice_dumb _ _ _)),(x1.trans hx16).only.trans x7 fun _ _ e=>e⟩)
 ·obtain rfl:i=A.length:=by omega
  have hput:=putF_at A p n A.length hlo (Nat.le_refl _) (fun y hy=>by simp at hy)
  rw[List.getElem?_eq_none (Nat.le_refl _),Option.map_none,if_neg (by simp)]at hput
  obtain⟨i,hi0⟩: ∃ i,i=A.length:=⟨_,rfl⟩
  rw[←hi0]at hput hvt
  ((conv=>whnf);repeat(any_goals((first|(refine BndH.nat i (by omega) (by omega) ?_)|((with_reducible refine Vc.DrawH.held [0,1,2,3,4,5,6,7,8,11,12,13,14,15,16,17,9,10,18,19,20,21] [(9,[4,14]),(10,[14])] mixed (by decide+kernel) ?_))|((with_reducible refine Vc.DrawH.held [0,1,2,3,4,5,6,7,8,10,11,12,13,14,15,9,16,17,18,19,20] [(9,[4,13]),(16,[4])] mixed (by decide+kernel) ?_))|refine Vc.stp ?_)<;>(intros;(conv=>whnf)))))
  (rename_i Hl zl bl xl;refine NextH.appF (n:=1) (news:=vs.drop (i*3)) (base:=H.size) (xs:=fileC (p,n) fa fc) (own_litK bl (by omega)) ((hrv.drop (A.length+cap) i 3 (fun e=>by rw[hvl];exact Nat.mul_le_mul_right 3 (by omega))).ext (by exact Vc.xt)) (hvd _) (fun u hu=>hfv.plain u (List.mem_of_mem_drop hu)) (by omega) (by omega) ⟨_,rfl,fun _ h=>by cases h⟩ ?_;intro a5 c5 H5 ho5 hw5;have hz5:=hw5.size;have hx15:=And.intro trivial (xl.but hw5.toBut (by omega));have hb5:=hb1.ext hx15.2)
  ((conv=>whnf);repeat(any_goals((first|refine Vc.stp ?_)<;>(intros;(conv=>whnf)))))
  (refine NextH.fullF (n:=i) (xs:=vs.take (i*3)) ((hrv.take (i*3)).ext (x1.trans hx15.2)) hvt ho5.row ho5.len (fun u hu=>(List.mem_append.1 hu).elim (fileC_plain (p,n) fa fc u) fun hu=>hfv.plain u (List.mem_of_mem_drop hu)) (by omega) (by omega) ⟨_,rfl,fun _ h=>by cases h⟩ ?_;intro c6 H6 ho6 hx6;have hz6:=hx6.size)
  ((conv=>whnf);repeat(any_goals((first|refine Vc.stp ?_)<;>(intros;(conv=>whnf)))))
  (rename_i H7 z7 b7 x7;have e0:i+(1+(A.length-i))=A.length+1:=(by omega);have hA':(A.take i++(p,n)::A.drop i).length=A.length+1:=(by rw[List.length_append,List.length_take,List.length_cons,List.length_drop];omega);rw[hput];have hx16:=hx15.2.trans hx6;have hfil:FilesV H6 (A.take i++(p,n)::A.drop i) (vs.take (i*3)++(fileC (p,n) fa fc++vs.drop (i*3))):=((hfv.ext (x1.trans hx16)).take i).append (.cons ((hf.ext x1).ext hx16) ((hfv.ext (x1.trans hx16)).drop i));have hrf:RowF H6 (some ⟨H5.size,0,none⟩) (A.take i++(p,n)::A.drop i):=⟨_,ho6.row,hfil⟩;have hcl:=ho6.cap_le;have b7:Blk H7 b #[.slice (some ⟨H5.size,0,none⟩) (i+(1+(A.length-i))) c6] 48:=b7;exact⟨rfl,.of b7 (by rw[hA',e0]) hcl (hrf.keep x7 fun x e _=>by subst e;exact .blk (hb1.ext hx16) (slice_dumb _ _ _)),(x1.trans hx16).only.trans x7 fun _ _ e=>e⟩)
end Go.Proofs.YtphkaogbcfdllaaGreatDoor
namespace Go.Tre
open Go.Pth Go.Scr
open Go.Vc (mget mput mdel mget_put mget_mem mget_of_mem mget_none)
theorem putF_le (p:Txt) (n:Node): ∀ A:Tr,(putF A p n).length≤A.length+1
 |[]=>by simp[putF]
 |x::l=>by
  simp only[putF]
  split
  ·have:=putF_le p n l;simp;omega
  ·split<;>simp
theorem makeF_le: ∀ (l:List Txt) (A:Tr),(makeF A l).length≤A.length+l.length
 |[],A=>by simp[makeF]
 |d::l,A=>by
  have h1:=makeF_le l (putF A d (true,[]))
  have h2:=putF_le d (true,[]) A
  show(makeF (putF A d (true,[])) l).length≤_
  simp;omega
end Go.Tre
namespace Go.Proofs.YtphkaogbcfdllaaGreatDoor
open Go Go.Vc Go.Scr Go.Pth Go.Tre
theorem rsize_any {b:Nat} {A:Tr} {H:Heap} (h:RTree H b A) (hAl:A.length≤1000000) (hs:sizeT A≤1000000000000):CallH Tryz.prog 79 [.pointer (some ⟨b,0,none⟩)] H fun v H'=>v= .int .i64 (sizeT A)∧H=H':=by
 obtain⟨a,cap,hb,hr⟩:=h.out
 refine Vc.CallH.body Tryz.func79 Tryz.call79 rfl (by decide+kernel) rfl ?_
 ((conv=>whnf);repeat(any_goals((first|refine Vc.stp ?_|refine Vc.spl ?_ ?_)<;>(intros;(conv=>whnf)))))
 refine LoopH.intro (fun(i:Nat)=>[(4,.int .i64 i),(3,.int .i64 (sizeT (A.take i):Nat))]) (fun i H'=>H=H'∧i≤A.length) (fun i=>A.length-i) 0 ⟨rfl,rfl,trivial⟩ ⟨rfl,Nat.zero_le _⟩ ?_
 rintro i _ ⟨rfl,hi⟩
 by_cases hlt:i<A.length
 ·obtain⟨x,hx⟩: ∃ x,A[i]? =some x:=⟨_,List.getElem?_eq_getElem (by omega)⟩
  have e1:sizeT (A.take (i+1))=sizeT (A.take i)+x.2.2.length:=by
   have:A.take (i+1)=A.take i++[x]:=by rw[List.take_add_one,hx];rfl
   rw[this];simp[sizeT,List.sum_append_nat]
  have e2:sizeT (A.take (i+1))≤sizeT A:=by
   conv=>rhs;rw[←List.take_append_drop (i+1) A]
   simp only[sizeT,List.map_append,List.sum_append_nat];exact Nat.le_add_right _ _
  ((conv=>whnf);repeat(any_goals((first|(refine IdxA.file hr rfl i x (by omega) hx ?_;intro bi oi ai ci hri hci;have hc2:=hci 2 _ rfl)|refine Vc.stp ?_|refine Vc.spl ?_ ?_)<;>(intros;(conv=>whnf)))))
  exact⟨i+1,⟨rfl,by rw[e1];(show Value.int .i64 ((sizeT (A.take i):Int)+(x.2.2.length:Int))=_);congr 1,trivial⟩,⟨rfl,by omega⟩,by omega⟩
 ·obtain rfl:i=A.length:=by omega
  rw[List.take_length]
  ((conv=>whnf);repeat(any_goals((first|refine Vc.stp ?_|refine Vc.spl ?_ ?_)<;>(intros;(conv=>whnf)))))
  exact⟨rfl,rfl⟩
theorem rfileB1 {K:Value→Prop} {o1 o2:Operand} {s:ByteArray} {x:Bool} (h:K (.agg #[.string s,.bool x,.slice none 0 0])):PureH Tryz.prog (Instr.build 71 ((List.map (fun x:Nat×Operand=>x.1) (#[(0,o1),(1,o2)]:Array (Nat×Operand)).toList).zip [.string s,.bool x]).toArray) K:=PureH.build _ (by kernel_rfl) h
theorem rfileB2 {K:Value→Prop} {o1 o2:Operand} {s:ByteArray} {a:Option Addr} {n c:Nat} (h:K (.agg #[.string s,.bool false,.slice a n c])):PureH Tryz.prog (Instr.build 71 ((List.map (fun x:Nat×Operand=>x.1) (#[(0,o1),(2,o2)]:Array (Nat×Operand)).toList).zip [.string s,.slice a n c]).toArray) K:=PureH.build _ (by kernel_rfl) h
theorem rmake_any {b:Nat} {A:Tr} {H:Heap} (h:RTree H b A) (ds:List Bs) (a:Option Addr) (n cap:Nat) (hr:Row H a (strs ds)) (hn:ds.length=n) (hl:A.length+n≤1000000):
  CallH Tryz.prog 80 [.pointer (some ⟨b,0,none⟩),.slice a n cap] H fun v H'=>v= .tuple #[]∧RTree H' b (makeF A ds)∧But b H H':=by
 refine Vc.CallH.body Tryz.func80 Tryz.call80 rfl (by decide+kernel) rfl ?_
 ((conv=>whnf);repeat(any_goals((first|refine Vc.stp ?_|refine Vc.spl ?_ ?_)<;>(intros;(conv=>whnf)))))
 refine LoopH.intro (fun(i:Nat)=>[(4,.int .i64 i)]) (fun i H'=>i≤n∧RTree H' b (makeF A (ds.take i))∧But b H H') (fun i=>n-i) 0 ⟨rfl,trivial⟩ ⟨Nat.zero_le _,h,Only.refl _ _⟩ ?_
 rintro i H2 ⟨hi,ht2,hx2⟩
 have hz2:=hx2.size
 have hr2:=hr.texts hx2 fun x e _=>by subst e;exact h.dumb
 have hml:=makeF_le (ds.take i) A
 rw[List.length_take]at hml
 by_cases hlt:i<n
 ·obtain⟨d,hd⟩: ∃ d,ds[i]? =some d:=⟨_,List.getElem?_eq_getElem (by omega)⟩
  have hp:=fun H' (k:Ext H2 H')=>rput_any (ht2.ext k) d (true,[]) none 0 (Row.nil _ _) (by omega)
  ((conv=>whnf);repeat(any_goals((first|(refine IdxA.strv hr2 hn i d (by omega) hd ?_;intro _ _ _ _ _)|((with_reducible apply rfileB1);(focus((conv=>whnf))))|(refine(hp _ (by exact Vc.xt)).mono ?_;rintro _ H4 ⟨rfl,ht4,hx4⟩;have hz4:=hx4.size)|refine Vc.stp ?_|refine Vc.spl ?_ ?_)<;>(intros;(conv=>whnf)))))
  refine⟨i+1,⟨rfl,trivial⟩,⟨by omega,?_,hx2.trans hx4 fun _ _ e=>e⟩,by omega⟩
  rw[List.take_add_one,hd]
  show RTree H4 b (makeF A (ds.take i++[d]))
  rw[makeF_snoc];exact ht4
 ·obtain rfl:i=n:=by omega
  rw[List.take_of_length_le (by omega)]at ht2
  ((conv=>whnf);repeat(any_goals((first|refine Vc.stp ?_|refine Vc.spl ?_ ?_)<;>(intros;(conv=>whnf)))))
  exact⟨rfl,ht2,hx2⟩
structure DidR (H H':Heap) (b:Nat) (v:Value) (r:Tr×Nat):Prop where
 code:v= .int .i64 r.2
 tree:RTree H' b r.1
 only:But b H H'
theorem DidR.none {H H':Heap} {b:Nat} {A:Tr} (h:RTree H b A) (k:Ext H H') (n:Nat):DidR H H' b (.int .i64 n) (A,n):=⟨rfl,h.ext k,k.only⟩
end Go.Proofs.YtphkaogbcfdllaaGreatDoor
namespace Go.Proofs.YtphkaogbcfdllaaGreatDoor
open Go Go.Vc Go.Scr Go.Pth Go.Tre
theorem nil_none {A:Tr} (hA:Okay A) {q:Bs} (h:q=[]):mget A q=none:=by
 cases hg:mget A q with
 |none=>rfl
 |some n=>exact absurd h (hA.clean q n hg).2
set_option maxHeartbeats 4000000 in
theorem rwrite_any {b:Nat} {A:Tr} {H:Heap} (h:RTree H b A) (hA:Okay A) (p bs:Bs) (hpl:p.length≤100000000) (a:Option Addr) (n cap:Nat) (hr:Row H a (strV bs)) (hn:bs.length=n) (hm:n≤10000000000):
  CallH Tryz.prog 32 [.pointer (some ⟨b,0,none⟩),.string (mkS p),.slice a n cap] H fun v H'=>DidR H H' b v (writeF A p bs):=by
 subst hn
 have hcl:=fun H=>rclean_any p hpl H
 have hAc:=hA.count
 have hAs:=hA.size
 unfold writeF
 by_cases h0: ¬(cleanF p).2=0
 ·rw[if_neg h0]
  have h0': ¬((cleanF p).2:Int)=0:=by omega
  generalize cleanF p=c at*
  refine Vc.CallH.body Tryz.func32 Tryz.call32 rfl (by decide+kernel) rfl ?_
  ((conv=>whnf);repeat(any_goals((first|(refine(hcl _).mono ?_;rintro _ H1 ⟨rfl,hx1⟩;have hz1:=hx1.size)|refine Vc.stp ?_|refine Vc.spl ?_ ?_)<;>(intros;(conv=>whnf)))))
  exact DidR.none h hx1 _
 have h0:(cleanF p).2=0:=by omega
 rw[if_pos h0]
 have hq:=clean_of h0
 obtain⟨q,hqe⟩: ∃ q,(cleanF p).1=q:=⟨_,rfl⟩
 rw[h0,hqe]at hcl
 rw[hqe]at hq ⊢
 have hql:q.length≤200:=by obtain⟨l,rfl,hl⟩:=hq;exact hl.long
 have e0:=eq_empty q
 obtain⟨ta,tcap,htb,htr⟩:=h.out
 have hat:=fun H' (k:Ext H H')=>rat_any (h.ext k) q (by omega)
 have hah:=fun H' (k:Ext H H')=>rahead_any (h.ext k) (p:=q) (by omega) (by omega)
 have hsz:=fun H' (k:Ext H H')=>rsize_any (h.ext k) (by omega) (by omega)
 have hlk:(lackF A q).length≤12:=by
  have h1:(lackF A q).length≤(pars q).length:=List.length_filter_le _ _
  have h2:=hq.parts.deep
  rw[pars_len]at h1;omega
 have hmk:=makeF_le (lackF A q) A
 have hmk0:=makeF_le [] A
 have e00:([]:List Txt).length=0:=rfl
 unfold RatV at hat
 unfold RaheadV at hah
 unfold writeP
 by_cases hqn:q=[]
 ·have hd:dirF A q=true:=by unfold dirF;simp[hqn]
  rw[if_pos (.inl hd)]
  rw[decide_eq_true hqn]at e0
  have hg0:mget A q=none:=nil_none hA hqn
  have hf0:fileF A q=false:=by rw[hqn];rfl
  rw[hg0]at hat
  rw[hf0]at hah
  simp only[if_neg (show ¬false=true by simp)]at hah
  refine Vc.CallH.body Tryz.func32 Tryz.call32 rfl (by decide+kernel) rfl ?_
  ((conv=>whnf);repeat(any_goals((first|(refine(hcl _).mono ?_;rintro _ H1 ⟨rfl,hx1⟩;have hz1:=hx1.size)|(refine(hat _ (by exact Vc.xt)).mono ?_;rintro _ _ ⟨(⟨_,rfl⟩|⟨_,_,_,hcon,_⟩),rfl⟩;rotate_left;exact absurd hcon (by simp))|(refine(hah _ (by exact Vc.xt)).mono ?_;rintro _ H3 ⟨⟨a3,c3,rfl,ho3⟩,hx3⟩;have hz3:=hx3.size)|refine Vc.stp ?_|refine Vc.spl ?_ ?_)<;>(intros;(conv=>whnf)))))
  exact DidR.none h (by exact Vc.xt) _
 rw[decide_eq_false hqn]at e0
 cases hg:mget A q with
 |none=>
  rw[hg]at hat
  have hd:dirF A q=false:=by unfold dirF;rw[hg];simpa using hqn
  by_cases hf:fileF A q=true
  ·simp only[if_pos hf]at hah
   rw[if_pos (.inr hf)]
   refine Vc.CallH.body Tryz.func32 Tryz.call32 rfl (by decide+kernel) rfl ?_
   ((conv=>whnf);repeat(any_goals((first|(refine(hcl _).mono ?_;rintro _ H1 ⟨rfl,hx1⟩;have hz1:=hx1.size)|(refine(hat _ (by exact Vc.xt)).mono ?_;rintro _ _ ⟨(⟨_,rfl⟩|⟨_,_,_,hcon,_⟩),rfl⟩;rotate_left;exact absurd hcon (by simp))|(refine(hah _ (by exact Vc.xt)).mono ?_;rintro _ H3 ⟨rfl,hx3⟩;have hz3:=hx3.size)|refine Vc.stp ?_|refine Vc.spl ?_ ?_)<;>(intros;(conv=>whnf)))))
   exact DidR.none h (by exact Vc.xt) _
  simp only[if_neg hf]at hah
  rw[if_neg (by rw[not_or,hd];exact⟨by simp,hf⟩)]
  have hoF:oldF A q=0:=by unfold oldF;rw[hg]
  have hmF:moreF A q=(lackF A q).length+1:=by unfold moreF;rw[hg];simp
  rw[hoF,hmF]
  by_cases hbad:65536<bs.length∨1048576<sizeT A-0+bs.length∨500<A.length+((lackF A q).length+1)
  ·rw[if_pos hbad]
   refine Vc.CallH.body Tryz.func32 Tryz.call32 rfl (by decide+kernel) rfl ?_
   rcases hbad with hb1|hb1
   ·((conv=>whnf);repeat(any_goals((first|(refine(hcl _).mono ?_;rintro _ H1 ⟨rfl,hx1⟩;have hz1:=hx1.size)|(refine(hat _ (by exact Vc.xt)).mono ?_;rintro _ _ ⟨(⟨_,rfl⟩|⟨_,_,_,hcon,_⟩),rfl⟩;rotate_left;exact absurd hcon (by simp))|(refine(hah _ (by exact Vc.xt)).mono ?_;rintro _ H3 ⟨⟨a3,c3,rfl,ho3⟩,hx3⟩;have hz3:=hx3.size)|(refine(hsz _ (by exact Vc.xt)).mono ?_;rintro _ _ ⟨rfl,rfl⟩)|refine Vc.stp ?_|refine Vc.spl ?_ ?_)<;>(intros;(conv=>whnf)))))
    exact DidR.none h (by exact Vc.xt) _
   ·by_cases hb2:65536<bs.length
    ·((conv=>whnf);repeat(any_goals((first|(refine(hcl _).mono ?_;rintro _ H1 ⟨rfl,hx1⟩;have hz1:=hx1.size)|(refine(hat _ (by exact Vc.xt)).mono ?_;rintro _ _ ⟨(⟨_,rfl⟩|⟨_,_,_,hcon,_⟩),rfl⟩;rotate_left;exact absurd hcon (by simp))|(refine(hah _ (by exact Vc.xt)).mono ?_;rintro _ H3 ⟨⟨a3,c3,rfl,ho3⟩,hx3⟩;have hz3:=hx3.size)|(refine(hsz _ (by exact Vc.xt)).mono ?_;rintro _ _ ⟨rfl,rfl⟩)|refine Vc.stp ?_|refine Vc.spl ?_ ?_)<;>(intros;(conv=>whnf)))))
     exact DidR.none h (by exact Vc.xt) _
    rcases hb1 with hb1|hb1
    ·((conv=>whnf);repeat(any_goals((first|(refine(hcl _).mono ?_;rintro _ H1 ⟨rfl,hx1⟩;have hz1:=hx1.size)|(refine(hat _ (by exact Vc.xt)).mono ?_;rintro _ _ ⟨(⟨_,rfl⟩|⟨_,_,_,hcon,_⟩),rfl⟩;rotate_left;exact absurd hcon (by simp))|(refine(hah _ (by exact Vc.xt)).mono ?_;rintro _ H3 ⟨⟨a3,c3,rfl,ho3⟩,hx3⟩;have hz3:=hx3.size)|(refine(hsz _ (by exact Vc.xt)).mono ?_;rintro _ _ ⟨rfl,rfl⟩)|refine Vc.stp ?_|refine Vc.spl ?_ ?_)<;>(intros;(conv=>whnf)))))
     all_goals exact DidR.none h (by exact Vc.xt) _
    ·by_cases hb3:1048576<sizeT A-0+bs.length
     ·((conv=>whnf);repeat(any_goals((first|(refine(hcl _).mono ?_;rintro _ H1 ⟨rfl,hx1⟩;have hz1:=hx1.size)|(refine(hat _ (by exact Vc.xt)).mono ?_;rintro _ _ ⟨(⟨_,rfl⟩|⟨_,_,_,hcon,_⟩),rfl⟩;rotate_left;exact absurd hcon (by simp))|(refine(hah _ (by exact Vc.xt)).mono ?_;rintro _ H3 ⟨⟨a3,c3,rfl,ho3⟩,hx3⟩;have hz3:=hx3.size)|(refine(hsz _ (by exact Vc.xt)).mono ?_;rintro _ _ ⟨rfl,rfl⟩)|refine Vc.stp ?_|refine Vc.spl ?_ ?_)<;>(intros;(conv=>whnf)))))
      exact DidR.none h (by exact Vc.xt) _
     ·((conv=>whnf);repeat(any_goals((first|(refine(hcl _).mono ?_;rintro _ H1 ⟨rfl,hx1⟩;have hz1:=hx1.size)|(refine(hat _ (by exact Vc.xt)).mono ?_;rintro _ _ ⟨(⟨_,rfl⟩|⟨_,_,_,hcon,_⟩),rfl⟩;rotate_left;exact absurd hcon (by simp))|(refine(hah _ (by exact Vc.xt)).mono ?_;rintro _ H3 ⟨⟨a3,c3,rfl,ho3⟩,hx3⟩;have hz3:=hx3.size)|(refine(hsz _ (by exact Vc.xt)).mono ?_;rintro _ _ ⟨rfl,rfl⟩)|refine Vc.stp ?_|refine Vc.spl ?_ ?_)<;>(intros;(conv=>whnf)))))
      exact DidR.none h (by exact Vc.xt) _
  ·rw[if_neg hbad]
   rw[not_or,not_or]at hbad
   refine Vc.CallH.body Tryz.func32 Tryz.call32 rfl (by decide+kernel) rfl ?_
   ((conv=>whnf);repeat(any_goals((first|(refine(hcl _).mono ?_;rintro _ H1 ⟨rfl,hx1⟩;have hz1:=hx1.size)|(refine(hat _ (by exact Vc.xt)).mono ?_;rintro _ _ ⟨(⟨_,rfl⟩|⟨_,_,_,hcon,_⟩),rfl⟩;rotate_left;exact absurd hcon (by simp))|(refine(hah _ (by exact Vc.xt)).mono ?_;rintro _ H3 ⟨⟨a3,c3,rfl,ho3⟩,hx3⟩;have hz3:=hx3.size)|(refine(hsz _ (by exact Vc.xt)).mono ?_;rintro _ _ ⟨rfl,rfl⟩)|(refine(rmake_any (h.ext (by exact Vc.xt)) (lackF A q) a3 _ c3 (ho3.row.ext (by exact Vc.xt)) rfl (by omega)).mono ?_;rintro _ H5 ⟨rfl,ht5,hx5⟩;have hz5:=hx5.size;have hx03:=And.intro trivial (show Ext H H3 by exact Vc.xt);have hr5:=(hr.ext hx03.2).bytes hx5 (fun x e _=>by subst e;exact(h.ext hx03.2).dumb))|(refine NextH.dup hr5 (strV_length _) (strV_plain _) (by omega) rfl ⟨_,rfl,fun _ h=>by cases h⟩ rfl rfl rfl rfl rfl ?_;intro a6 c6 H6 ho6 hx6;have hz6:=hx6.size)|((with_reducible apply rfileB2);(focus((conv=>whnf))))|(refine(rput_any (ht5.ext (by exact Vc.xt)) q (false,bs) a6 c6 (ho6.row.ext (by exact Vc.xt)) (by omega)).mono ?_;rintro _ H7 ⟨rfl,ht7,hx7⟩)|refine Vc.stp ?_|refine Vc.spl ?_ ?_)<;>(intros;(conv=>whnf)))))
   exact⟨rfl,ht7,((hx03.2.only.trans hx5 fun _ _ e=>e).ext (by exact Vc.xt)).trans hx7 fun _ _ e=>e⟩
 |some nd=>
  rw[hg]at hat
  obtain⟨dir,old⟩:=nd
  obtain⟨hl0,hf0⟩:=lack_nil hA hg
  rw[hf0,hl0]at hah
  simp only[if_neg (show ¬false=true by simp)]at hah
  have hol:=(hA.file q _ hg).1
  dsimp only at hol
  have e00:([]:List Txt).length=0:=rfl
  cases dir with
  |true=>
   have hd:dirF A q=true:=by unfold dirF;rw[hg];simp
   rw[if_pos (.inl hd)]
   refine Vc.CallH.body Tryz.func32 Tryz.call32 rfl (by decide+kernel) rfl ?_
   ((conv=>whnf);repeat(any_goals((first|(refine(hcl _).mono ?_;rintro _ H1 ⟨rfl,hx1⟩;have hz1:=hx1.size)|(refine(hat _ (by exact Vc.xt)).mono ?_;rintro _ H2 ⟨(⟨hcon,_⟩|⟨k,nn,hk,hnn,rfl⟩),rfl⟩;cases hcon;(obtain rfl:=Option.some.inj hnn);(have hkl:=(List.getElem?_eq_some_iff.1 hk).1))|(refine IdxA.file (htr.ext (by exact Vc.xt)) rfl k _ (by omega) hk ?_;intro bi oi ai ci hri hci;have hc0:=hci 0 _ rfl;have hc1:=hci 1 _ rfl;have hc2:=hci 2 _ rfl;try dsimp only at hri hc1 hc2)|(refine(hah _ (by exact Vc.xt)).mono ?_;rintro _ H3 ⟨⟨a3,c3,rfl,ho3⟩,hx3⟩;have hz3:=hx3.size)|refine Vc.stp ?_|refine Vc.spl ?_ ?_)<;>(intros;(conv=>whnf)))))
   exact DidR.none h (by exact Vc.xt) _
  |false=>
   have hd:dirF A q=false:=by unfold dirF;rw[hg];simpa using hqn
   rw[if_neg (by rw[hd,hf0];simp)]
   have hoF:oldF A q=old.length:=by unfold oldF;rw[hg]
   have hmF:moreF A q=0:=by unfold moreF;rw[hg];simp
   have hole:=old_le A q
   rw[hoF]at hole ⊢
   rw[hmF]
   by_cases hbad:65536<bs.length∨1048576<sizeT A-old.length+bs.length∨500<A.length+0
   ·rw[if_pos hbad]
    refine Vc.CallH.body Tryz.func32 Tryz.call32 rfl (by decide+kernel) rfl ?_
    by_cases hb2:65536<bs.length
    ·((conv=>whnf);repeat(any_goals((first|(refine(hcl _).mono ?_;rintro _ H1 ⟨rfl,hx1⟩;have hz1:=hx1.size)|(refine(hat _ (by exact Vc.xt)).mono ?_;rintro _ H2 ⟨(⟨hcon,_⟩|⟨k,nn,hk,hnn,rfl⟩),rfl⟩;cases hcon;(obtain rfl:=Option.some.inj hnn);(have hkl:=(List.getElem?_eq_some_iff.1 hk).1))|(refine IdxA.file (htr.ext (by exact Vc.xt)) rfl k _ (by omega) hk ?_;intro bi oi ai ci hri hci;have hc0:=hci 0 _ rfl;have hc1:=hci 1 _ rfl;have hc2:=hci 2 _ rfl;try dsimp only at hri hc1 hc2)|(refine(hah _ (by exact Vc.xt)).mono ?_;rintro _ H3 ⟨⟨a3,c3,rfl,ho3⟩,hx3⟩;have hz3:=hx3.size)|(refine(hsz _ (by exact Vc.xt)).mono ?_;rintro _ _ ⟨rfl,rfl⟩)|refine Vc.stp ?_|refine Vc.spl ?_ ?_)<;>(intros;(conv=>whnf)))))
     exact DidR.none h (by exact Vc.xt) _
    ·have hb3:1048576<sizeT A-old.length+bs.length:=by omega
     ((conv=>whnf);repeat(any_goals((first|(refine(hcl _).mono ?_;rintro _ H1 ⟨rfl,hx1⟩;have hz1:=hx1.size)|(refine(hat _ (by exact Vc.xt)).mono ?_;rintro _ H2 ⟨(⟨hcon,_⟩|⟨k,nn,hk,hnn,rfl⟩),rfl⟩;cases hcon;(obtain rfl:=Option.some.inj hnn);(have hkl:=(List.getElem?_eq_some_iff.1 hk).1))|(refine IdxA.file (htr.ext (by exact Vc.xt)) rfl k _ (by omega) hk ?_;intro bi oi ai ci hri hci;have hc0:=hci 0 _ rfl;have hc1:=hci 1 _ rfl;have hc2:=hci 2 _ rfl;try dsimp only at hri hc1 hc2)|(refine(hah _ (by exact Vc.xt)).mono ?_;rintro _ H3 ⟨⟨a3,c3,rfl,ho3⟩,hx3⟩;have hz3:=hx3.size)|(refine(hsz _ (by exact Vc.xt)).mono ?_;rintro _ _ ⟨rfl,rfl⟩)|refine Vc.stp ?_|refine Vc.spl ?_ ?_)<;>(intros;(conv=>whnf)))))
     exact DidR.none h (by exact Vc.xt) _
   ·rw[if_neg hbad]
    rw[not_or,not_or]at hbad
    rw[hl0]
    refine Vc.CallH.body Tryz.func32 Tryz.call32 rfl (by decide+kernel) rfl ?_
    ((conv=>whnf);repeat(any_goals((first|(refine(hcl _).mono ?_;rintro _ H1 ⟨rfl,hx1⟩;have hz1:=hx1.size)|(refine(hat _ (by exact Vc.xt)).mono ?_;rintro _ H2 ⟨(⟨hcon,_⟩|⟨k,nn,hk,hnn,rfl⟩),rfl⟩;cases hcon;(obtain rfl:=Option.some.inj hnn);(have hkl:=(List.getElem?_eq_some_iff.1 hk).1))|(refine IdxA.file (htr.ext (by exact Vc.xt)) rfl k _ (by omega) hk ?_;intro bi oi ai ci hri hci;have hc0:=hci 0 _ rfl;have hc1:=hci 1 _ rfl;have hc2:=hci 2 _ rfl;try dsimp only at hri hc1 hc2)|(refine(hah _ (by exact Vc.xt)).mono ?_;rintro _ H3 ⟨⟨a3,c3,rfl,ho3⟩,hx3⟩;have hz3:=hx3.size)|(refine(hsz _ (by exact Vc.xt)).mono ?_;rintro _ _ ⟨rfl,rfl⟩)|(refine(rmake_any (h.ext (by exact Vc.xt)) [] a3 0 c3 (Row.nil _ _) rfl (by omega)).mono ?_;rintro _ H5 ⟨rfl,ht5,hx5⟩;have hz5:=hx5.size;have hx03:=And.intro trivial (show Ext H H3 by exact Vc.xt);have hr5:=(hr.ext hx03.2).bytes hx5 (fun x e _=>by subst e;exact(h.ext hx03.2).dumb))|(refine NextH.dup hr5 (strV_length _) (strV_plain _) (by omega) rfl ⟨_,rfl,fun _ h=>by cases h⟩ rfl rfl rfl rfl rfl ?_;intro a6 c6 H6 ho6 hx6;have hz6:=hx6.size)|((with_reducible apply rfileB2);(focus((conv=>whnf))))|(refine(rput_any (ht5.ext (by exact Vc.xt)) q (false,bs) a6 c6 (ho6.row.ext (by exact Vc.xt)) (by omega)).mono ?_;rintro _ H7 ⟨rfl,ht7,hx7⟩)|refine Vc.stp ?_|refine Vc.spl ?_ ?_)<;>(intros;(conv=>whnf)))))
    exact⟨rfl,ht7,((hx03.2.only.trans hx5 fun _ _ e=>e).ext (by exact Vc.xt)).trans hx7 fun _ _ e=>e⟩
end Go.Proofs.YtphkaogbcfdllaaGreatDoor
namespace Go.Proofs.YtphkaogbcfdllaaGreatDoor
open Go Go.Vc Go.Scr Go.Pth Go.Tre
theorem rexists_any {b:Nat} {A:Tr} {H:Heap} (h:RTree H b A) (hAl:A.length≤1000000) (p:Bs) (hpl:p.length≤100000000):CallH Tryz.prog 130 [.pointer (some ⟨b,0,none⟩),.string (mkS p)] H fun v H'=>v= .bool (existsF A p)∧Ext H H':=by
 have hcl:=fun H=>rclean_any p hpl H
 unfold existsF
 have hat:=fun H' (k:Ext H H')=>rat_any (h.ext k) (cleanF p).1 (by omega)
 unfold RatV at hat
 have e0:=eq_empty (cleanF p).1
 obtain⟨ta,tcap,htb,htr⟩:=h.out
 by_cases h0:(cleanF p).2=0
 ·rw[h0]at hcl ⊢
  by_cases hqn:(cleanF p).1=[]
  ·rw[decide_eq_true hqn]at e0
   rw[hqn]
   refine Vc.CallH.body Tryz.func130 Tryz.call130 rfl (by decide+kernel) rfl ?_
   ((conv=>whnf);repeat(any_goals((first|(refine(hcl _).mono ?_;rintro _ H1 ⟨rfl,hx1⟩;have hz1:=hx1.size)|refine Vc.stp ?_|refine Vc.spl ?_ ?_)<;>(intros;(conv=>whnf)))))
   exact⟨rfl,by exact Vc.xt⟩
  rw[decide_eq_false hqn]at e0
  have en:((cleanF p).1== [])=false:=by simpa using hqn
  rw[en]
  cases hg:mget A (cleanF p).1 with
  |none=>
   rw[hg]at hat
   refine Vc.CallH.body Tryz.func130 Tryz.call130 rfl (by decide+kernel) rfl ?_
   ((conv=>whnf);repeat(any_goals((first|(refine(hcl _).mono ?_;rintro _ H1 ⟨rfl,hx1⟩;have hz1:=hx1.size)|(refine(hat _ (by exact Vc.xt)).mono ?_;rintro _ _ ⟨(⟨_,rfl⟩|⟨_,_,_,hcon,_⟩),rfl⟩;rotate_left;exact absurd hcon (by simp))|refine Vc.stp ?_|refine Vc.spl ?_ ?_)<;>(intros;(conv=>whnf)))))
   exact⟨rfl,by exact Vc.xt⟩
  |some n=>
   rw[hg]at hat
   refine Vc.CallH.body Tryz.func130 Tryz.call130 rfl (by decide+kernel) rfl ?_
   ((conv=>whnf);repeat(any_goals((first|(refine(hcl _).mono ?_;rintro _ H1 ⟨rfl,hx1⟩;have hz1:=hx1.size)|(refine(hat _ (by exact Vc.xt)).mono ?_;rintro _ H2 ⟨(⟨hcon,_⟩|⟨k,nn,hk,hnn,rfl⟩),rfl⟩;cases hcon;(obtain rfl:=Option.some.inj hnn);(have hkl:=(List.getElem?_eq_some_iff.1 hk).1))|(refine IdxA.file (htr.ext (by exact Vc.xt)) rfl k _ (by omega) hk ?_;intro bi oi ai ci hri hci;have hc0:=hci 0 _ rfl;have hc1:=hci 1 _ rfl;have hc2:=hci 2 _ rfl;try dsimp only at hri hc1 hc2)|refine Vc.stp ?_|refine Vc.spl ?_ ?_)<;>(intros;(conv=>whnf)))))
   exact⟨by(show Value.bool (decide _)=_);rw[decide_eq_true (by omega)];rfl,by exact Vc.xt⟩
 ·have e:((cleanF p).2==0)=false:=by simpa using h0
  rw[e,Bool.false_and]
  have h0': ¬((cleanF p).2:Int)=0:=by omega
  generalize cleanF p=c at*
  refine Vc.CallH.body Tryz.func130 Tryz.call130 rfl (by decide+kernel) rfl ?_
  ((conv=>whnf);repeat(any_goals((first|(refine(hcl _).mono ?_;rintro _ H1 ⟨rfl,hx1⟩;have hz1:=hx1.size)|refine Vc.stp ?_|refine Vc.spl ?_ ?_)<;>(intros;(conv=>whnf)))))
  exact⟨rfl,hx1⟩
set_option maxHeartbeats 1000000 in
theorem rread_any {b:Nat} {A:Tr} {H:Heap} (h:RTree H b A) (hA:Okay A) (p:Bs) (hpl:p.length≤100000000):CallH Tryz.prog 23 [.pointer (some ⟨b,0,none⟩),.string (mkS p)] H fun v H'=>
  (∃ a cap,v= .tuple #[.slice a (readF A p).1.length cap,.int .i64 (readF A p).2]∧Own H' H.size 5 1 a (readF A p).1.length cap (strV (readF A p).1))∧Ext H H':=by
 have hcl:=fun H=>rclean_any p hpl H
 have hAc:=hA.count
 unfold readF
 by_cases h0: ¬(cleanF p).2=0
 ·rw[if_neg h0]
  have h0': ¬((cleanF p).2:Int)=0:=by omega
  generalize cleanF p=c at*
  refine Vc.CallH.body Tryz.func23 Tryz.call23 rfl (by decide+kernel) rfl ?_
  ((conv=>whnf);repeat(any_goals((first|(refine(hcl _).mono ?_;rintro _ H1 ⟨rfl,hx1⟩;have hz1:=hx1.size)|refine Vc.stp ?_|refine Vc.spl ?_ ?_)<;>(intros;(conv=>whnf)))))
  exact⟨⟨none,0,rfl,Own.nil _ _ _ _⟩,hx1⟩
 have h0:(cleanF p).2=0:=by omega
 rw[if_pos h0]
 have hq:=clean_of h0
 obtain⟨q,hqe⟩: ∃ q,(cleanF p).1=q:=⟨_,rfl⟩
 rw[h0,hqe]at hcl
 rw[hqe]at hq ⊢
 have hql:q.length≤200:=by obtain⟨l,rfl,hl⟩:=hq;exact hl.long
 have e0:=eq_empty q
 obtain⟨ta,tcap,htb,htr⟩:=h.out
 have hat:=fun H' (k:Ext H H')=>rat_any (h.ext k) q (by omega)
 have hah:=fun H' (k:Ext H H')=>rahead_any (h.ext k) (p:=q) (by omega) (by omega)
 unfold RatV at hat
 unfold RaheadV at hah
 by_cases hqn:q=[]
 ·have hd:dirF A q=true:=by unfold dirF;simp[hqn]
  rw[if_pos (.inl hd)]
  rw[decide_eq_true hqn]at e0
  have hg0:mget A q=none:=nil_none hA hqn
  have hf0:fileF A q=false:=by rw[hqn];rfl
  rw[hg0]at hat
  rw[hf0]at hah
  simp only[if_neg (show ¬false=true by simp)]at hah
  refine Vc.CallH.body Tryz.func23 Tryz.call23 rfl (by decide+kernel) rfl ?_
  ((conv=>whnf);repeat(any_goals((first|(refine(hcl _).mono ?_;rintro _ H1 ⟨rfl,hx1⟩;have hz1:=hx1.size)|(refine(hat _ (by exact Vc.xt)).mono ?_;rintro _ _ ⟨(⟨_,rfl⟩|⟨_,_,_,hcon,_⟩),rfl⟩;rotate_left;exact absurd hcon (by simp))|(refine(hah _ (by exact Vc.xt)).mono ?_;rintro _ H3 ⟨⟨a3,c3,rfl,ho3⟩,hx3⟩;have hz3:=hx3.size)|refine Vc.stp ?_|refine Vc.spl ?_ ?_)<;>(intros;(conv=>whnf)))))
  exact⟨⟨none,0,rfl,Own.nil _ _ _ _⟩,by exact Vc.xt⟩
 rw[decide_eq_false hqn]at e0
 cases hg:mget A q with
 |none=>
  rw[hg]at hat
  have hd:dirF A q=false:=by unfold dirF;rw[hg];simpa using hqn
  by_cases hf:fileF A q=true
  ·simp only[if_pos hf]at hah
   rw[if_pos (.inr hf)]
   refine Vc.CallH.body Tryz.func23 Tryz.call23 rfl (by decide+kernel) rfl ?_
   ((conv=>whnf);repeat(any_goals((first|(refine(hcl _).mono ?_;rintro _ H1 ⟨rfl,hx1⟩;have hz1:=hx1.size)|(refine(hat _ (by exact Vc.xt)).mono ?_;rintro _ _ ⟨(⟨_,rfl⟩|⟨_,_,_,hcon,_⟩),rfl⟩;rotate_left;exact absurd hcon (by simp))|(refine(hah _ (by exact Vc.xt)).mono ?_;rintro _ H3 ⟨rfl,hx3⟩;have hz3:=hx3.size)|refine Vc.stp ?_|refine Vc.spl ?_ ?_)<;>(intros;(conv=>whnf)))))
   exact⟨⟨none,0,rfl,Own.nil _ _ _ _⟩,by exact Vc.xt⟩
  simp only[if_neg hf]at hah
  rw[if_neg (by rw[not_or,hd];exact⟨by simp,hf⟩)]
  refine Vc.CallH.body Tryz.func23 Tryz.call23 rfl (by decide+kernel) rfl ?_
  ((conv=>whnf);repeat(any_goals((first|(refine(hcl _).mono ?_;rintro _ H1 ⟨rfl,hx1⟩;have hz1:=hx1.size)|(refine(hat _ (by exact Vc.xt)).mono ?_;rintro _ _ ⟨(⟨_,rfl⟩|⟨_,_,_,hcon,_⟩),rfl⟩;rotate_left;exact absurd hcon (by simp))|(refine(hah _ (by exact Vc.xt)).mono ?_;rintro _ H3 ⟨⟨a3,c3,rfl,ho3⟩,hx3⟩;have hz3:=hx3.size)|refine Vc.stp ?_|refine Vc.spl ?_ ?_)<;>(intros;(conv=>whnf)))))
  exact⟨⟨none,0,rfl,Own.nil _ _ _ _⟩,by exact Vc.xt⟩
 |some nd=>
  rw[hg]at hat
  obtain⟨dir,old⟩:=nd
  obtain⟨hl0,hf0⟩:=lack_nil hA hg
  rw[hf0,hl0]at hah
  simp only[if_neg (show ¬false=true by simp)]at hah
  have hol:=(hA.file q _ hg).1
  dsimp only at hol
  have e00:([]:List Txt).length=0:=rfl
  cases dir with
  |true=>
   have hd:dirF A q=true:=by unfold dirF;rw[hg];simp
   rw[if_pos (.inl hd)]
   refine Vc.CallH.body Tryz.func23 Tryz.call23 rfl (by decide+kernel) rfl ?_
   ((conv=>whnf);repeat(any_goals((first|(refine(hcl _).mono ?_;rintro _ H1 ⟨rfl,hx1⟩;have hz1:=hx1.size)|(refine(hat _ (by exact Vc.xt)).mono ?_;rintro _ H2 ⟨(⟨hcon,_⟩|⟨k,nn,hk,hnn,rfl⟩),rfl⟩;cases hcon;(obtain rfl:=Option.some.inj hnn);(have hkl:=(List.getElem?_eq_some_iff.1 hk).1))|(refine IdxA.file (htr.ext (by exact Vc.xt)) rfl k _ (by omega) hk ?_;intro bi oi ai ci hri hci;have hc0:=hci 0 _ rfl;have hc1:=hci 1 _ rfl;have hc2:=hci 2 _ rfl;try dsimp only at hri hc1 hc2)|(refine(hah _ (by exact Vc.xt)).mono ?_;rintro _ H3 ⟨⟨a3,c3,rfl,ho3⟩,hx3⟩;have hz3:=hx3.size)|refine Vc.stp ?_|refine Vc.spl ?_ ?_)<;>(intros;(conv=>whnf)))))
   exact⟨⟨none,0,rfl,Own.nil _ _ _ _⟩,by exact Vc.xt⟩
  |false=>
   have hd:dirF A q=false:=by unfold dirF;rw[hg];simpa using hqn
   rw[if_neg (by rw[hd,hf0];simp)]
   dsimp only
   refine Vc.CallH.body Tryz.func23 Tryz.call23 rfl (by decide+kernel) rfl ?_
   ((conv=>whnf);repeat(any_goals((first|(refine(hcl _).mono ?_;rintro _ H1 ⟨rfl,hx1⟩;have hz1:=hx1.size)|(refine(hat _ (by exact Vc.xt)).mono ?_;rintro _ H2 ⟨(⟨hcon,_⟩|⟨k,nn,hk,hnn,rfl⟩),rfl⟩;cases hcon;(obtain rfl:=Option.some.inj hnn);(have hkl:=(List.getElem?_eq_some_iff.1 hk).1))|(refine IdxA.file (htr.ext (by exact Vc.xt)) rfl k _ (by omega) hk ?_;intro bi oi ai ci hri hci;have hc0:=hci 0 _ rfl;have hc1:=hci 1 _ rfl;have hc2:=hci 2 _ rfl;try dsimp only at hri hc1 hc2)|(refine(hah _ (by exact Vc.xt)).mono ?_;rintro _ H3 ⟨⟨a3,c3,rfl,ho3⟩,hx3⟩;have hz3:=hx3.size)|(refine NextH.dup (hri.ext (by exact Vc.xt)) (strV_length _) (strV_plain _) (by omega) rfl ⟨_,rfl,fun _ h=>by cases h⟩ rfl rfl rfl rfl rfl ?_;intro a6 c6 H6 ho6 hx6;have hz6:=hx6.size)|refine Vc.stp ?_|refine Vc.spl ?_ ?_)<;>(intros;(conv=>whnf)))))
   exact⟨⟨a6,c6,rfl,ho6.base (by omega)⟩,by exact Vc.xt⟩
set_option maxHeartbeats 1000000 in
theorem rmkdir_any {b:Nat} {A:Tr} {H:Heap} (h:RTree H b A) (hA:Okay A) (p:Bs) (hpl:p.length≤100000000):CallH Tryz.prog 74 [.pointer (some ⟨b,0,none⟩),.string (mkS p)] H fun v H'=>DidR H H' b v (mkdirF A p):=by
 have hcl:=fun H=>rclean_any p hpl H
 have hAc:=hA.count
 unfold mkdirF
 by_cases h0: ¬(cleanF p).2=0
 ·rw[if_neg h0]
  have h0': ¬((cleanF p).2:Int)=0:=by omega
  generalize cleanF p=c at*
  refine Vc.CallH.body Tryz.func74 Tryz.call74 rfl (by decide+kernel) rfl ?_
  ((conv=>whnf);repeat(any_goals((first|(refine(hcl _).mono ?_;rintro _ H1 ⟨rfl,hx1⟩;have hz1:=hx1.size)|refine Vc.stp ?_|refine Vc.spl ?_ ?_)<;>(intros;(conv=>whnf)))))
  exact DidR.none h hx1 _
 have h0:(cleanF p).2=0:=by omega
 rw[if_pos h0]
 have hq:=clean_of h0
 obtain⟨q,hqe⟩: ∃ q,(cleanF p).1=q:=⟨_,rfl⟩
 rw[h0,hqe]at hcl
 rw[hqe]at hq ⊢
 have hql:q.length≤200:=by obtain⟨l,rfl,hl⟩:=hq;exact hl.long
 have e0:=eq_empty q
 obtain⟨ta,tcap,htb,htr⟩:=h.out
 have hat:=fun H' (k:Ext H H')=>rat_any (h.ext k) q (by omega)
 have hah:=fun H' (k:Ext H H')=>rahead_any (h.ext k) (p:=q) (by omega) (by omega)
 unfold RatV at hat
 unfold RaheadV at hah
 unfold mkdirP
 by_cases hqn:q=[]
 ·have hd:dirF A q=true:=by unfold dirF;simp[hqn]
  rw[if_pos hd]
  rw[decide_eq_true hqn]at e0
  refine Vc.CallH.body Tryz.func74 Tryz.call74 rfl (by decide+kernel) rfl ?_
  ((conv=>whnf);repeat(any_goals((first|(refine(hcl _).mono ?_;rintro _ H1 ⟨rfl,hx1⟩;have hz1:=hx1.size)|refine Vc.stp ?_|refine Vc.spl ?_ ?_)<;>(intros;(conv=>whnf)))))
  exact DidR.none h (by exact Vc.xt) _
 rw[decide_eq_false hqn]at e0
 have hlk:(lackF A q).length≤12:=by
  have h1:(lackF A q).length≤(pars q).length:=List.length_filter_le _ _
  have h2:=hq.parts.deep
  rw[pars_len]at h1;omega
 cases hg:mget A q with
 |none=>
  rw[hg]at hat
  have hd:dirF A q=false:=by unfold dirF;rw[hg];simpa using hqn
  rw[if_neg (by rw[hd];simp)]
  by_cases hf:fileF A q=true
  ·simp only[if_pos hf]at hah
   rw[if_pos (.inr hf)]
   refine Vc.CallH.body Tryz.func74 Tryz.call74 rfl (by decide+kernel) rfl ?_
   ((conv=>whnf);repeat(any_goals((first|(refine(hcl _).mono ?_;rintro _ H1 ⟨rfl,hx1⟩;have hz1:=hx1.size)|(refine(hat _ (by exact Vc.xt)).mono ?_;rintro _ _ ⟨(⟨_,rfl⟩|⟨_,_,_,hcon,_⟩),rfl⟩;rotate_left;exact absurd hcon (by simp))|(refine(hah _ (by exact Vc.xt)).mono ?_;rintro _ H3 ⟨rfl,hx3⟩;have hz3:=hx3.size)|refine Vc.stp ?_|refine Vc.spl ?_ ?_)<;>(intros;(conv=>whnf)))))
   exact DidR.none h (by exact Vc.xt) _
  simp only[if_neg hf]at hah
  rw[if_neg (by rw[not_or];exact⟨by simp,hf⟩)]
  by_cases hrm:500<A.length+((lackF A q).length+1)
  ·rw[if_pos hrm]
   refine Vc.CallH.body Tryz.func74 Tryz.call74 rfl (by decide+kernel) rfl ?_
   ((conv=>whnf);repeat(any_goals((first|(refine(hcl _).mono ?_;rintro _ H1 ⟨rfl,hx1⟩;have hz1:=hx1.size)|(refine(hat _ (by exact Vc.xt)).mono ?_;rintro _ _ ⟨(⟨_,rfl⟩|⟨_,_,_,hcon,_⟩),rfl⟩;rotate_left;exact absurd hcon (by simp))|(refine(hah _ (by exact Vc.xt)).mono ?_;rintro _ H3 ⟨⟨a3,c3,rfl,ho3⟩,hx3⟩;have hz3:=hx3.size)|refine Vc.stp ?_|refine Vc.spl ?_ ?_)<;>(intros;(conv=>whnf)))))
   exact DidR.none h (by exact Vc.xt) _
  ·rw[if_neg hrm]
   refine Vc.CallH.body Tryz.func74 Tryz.call74 rfl (by decide+kernel) rfl ?_
   ((conv=>whnf);repeat(any_goals((first|(refine(hcl _).mono ?_;rintro _ H1 ⟨rfl,hx1⟩;have hz1:=hx1.size)|(refine(hat _ (by exact Vc.xt)).mono ?_;rintro _ _ ⟨(⟨_,rfl⟩|⟨_,_,_,hcon,_⟩),rfl⟩;rotate_left;exact absurd hcon (by simp))|(refine(hah _ (by exact Vc.xt)).mono ?_;rintro _ H3 ⟨⟨a3,c3,rfl,ho3⟩,hx3⟩;have hz3:=hx3.size)|(refine(rmake_any (h.ext (by exact Vc.xt)) (lackF A q++[q]) a6 _ c6 (by(have:=ho6.row);rw[strs_append];exact this) (by simp) (by omega)).mono ?_;rintro _ H7 ⟨rfl,ht7,hx7⟩;have hz7:=hx7.size)|(refine NextH.push1b (by assumption) (ho3.ext (by assumption)) (by omega) (by omega) rfl ⟨_,rfl,fun _ h=>by cases h⟩ rfl rfl rfl rfl rfl rfl rfl ?_;intro a6 c6 H6 ho6 hz6 hw6;have hx26:=(show Ext H1 H6 from(hx3.trans (by assumption)).wr (ho3.ext (by assumption)) (Nat.le_refl _) hw6))|refine Vc.stp ?_|refine Vc.spl ?_ ?_)<;>(intros;(conv=>whnf)))))
   exact⟨rfl,ht7,(show Ext H H6 by exact Vc.xt).only.trans hx7 fun _ _ e=>e⟩
 |some nd=>
  rw[hg]at hat
  obtain⟨dir,old⟩:=nd
  obtain⟨hl0,hf0⟩:=lack_nil hA hg
  rw[hf0,hl0]at hah
  simp only[if_neg (show ¬false=true by simp)]at hah
  cases dir with
  |true=>
   have hd:dirF A q=true:=by unfold dirF;rw[hg];simp
   rw[if_pos hd]
   refine Vc.CallH.body Tryz.func74 Tryz.call74 rfl (by decide+kernel) rfl ?_
   ((conv=>whnf);repeat(any_goals((first|(refine(hcl _).mono ?_;rintro _ H1 ⟨rfl,hx1⟩;have hz1:=hx1.size)|(refine(hat _ (by exact Vc.xt)).mono ?_;rintro _ H2 ⟨(⟨hcon,_⟩|⟨k,nn,hk,hnn,rfl⟩),rfl⟩;cases hcon;(obtain rfl:=Option.some.inj hnn);(have hkl:=(List.getElem?_eq_some_iff.1 hk).1))|(refine IdxA.file (htr.ext (by exact Vc.xt)) rfl k _ (by omega) hk ?_;intro bi oi ai ci hri hci;have hc0:=hci 0 _ rfl;have hc1:=hci 1 _ rfl;have hc2:=hci 2 _ rfl;try dsimp only at hri hc1 hc2)|(refine(hah _ (by exact Vc.xt)).mono ?_;rintro _ H3 ⟨⟨a3,c3,rfl,ho3⟩,hx3⟩;have hz3:=hx3.size)|refine Vc.stp ?_|refine Vc.spl ?_ ?_)<;>(intros;(conv=>whnf)))))
   exact DidR.none h (by exact Vc.xt) _
  |false=>
   have hd:dirF A q=false:=by unfold dirF;rw[hg];simpa using hqn
   rw[if_neg (by rw[hd];simp),if_pos (.inl rfl)]
   refine Vc.CallH.body Tryz.func74 Tryz.call74 rfl (by decide+kernel) rfl ?_
   ((conv=>whnf);repeat(any_goals((first|(refine(hcl _).mono ?_;rintro _ H1 ⟨rfl,hx1⟩;have hz1:=hx1.size)|(refine(hat _ (by exact Vc.xt)).mono ?_;rintro _ H2 ⟨(⟨hcon,_⟩|⟨k,nn,hk,hnn,rfl⟩),rfl⟩;cases hcon;(obtain rfl:=Option.some.inj hnn);(have hkl:=(List.getElem?_eq_some_iff.1 hk).1))|(refine IdxA.file (htr.ext (by exact Vc.xt)) rfl k _ (by omega) hk ?_;intro bi oi ai ci hri hci;have hc0:=hci 0 _ rfl;have hc1:=hci 1 _ rfl;have hc2:=hci 2 _ rfl;try dsimp only at hri hc1 hc2)|(refine(hah _ (by exact Vc.xt)).mono ?_;rintro _ H3 ⟨⟨a3,c3,rfl,ho3⟩,hx3⟩;have hz3:=hx3.size)|refine Vc.stp ?_|refine Vc.spl ?_ ?_)<;>(intros;(conv=>whnf)))))
   exact DidR.none h (by exact Vc.xt) _
end Go.Proofs.YtphkaogbcfdllaaGreatDoor
namespace Go.Proofs.YtphkaogbcfdllaaGreatDoor
open Go Go.Vc Go.Scr Go.Pth Go.Tre
theorem rappend_any {b:Nat} {A:Tr} {H:Heap} (h:RTree H b A) (hA:Okay A) (p bs:Bs) (hpl:p.length≤100000000) (a:Option Addr) (n cap:Nat) (hr:Row H a (strV bs)) (hn:bs.length=n) (hm:n≤1000000000):
  CallH Tryz.prog 127 [.pointer (some ⟨b,0,none⟩),.string (mkS p),.slice a n cap] H fun v H'=>DidR H H' b v (appendF A p bs):=by
 subst hn
 have hcl:=fun H=>rclean_any p hpl H
 have hAc:=hA.count
 obtain⟨ta,tcap,htb,htr⟩:=h.out
 have hat:=fun H' (k:Ext H H')=>rat_any (h.ext k) (cleanF p).1 (by omega)
 unfold RatV at hat
 have hwr:=fun H' (k:Ext H H') a' c' (hr':Row H' a' (strV bs))=>rwrite_any (h.ext k) hA p bs hpl a' bs.length c' hr' rfl (by omega)
 have hdid: ∀ {H1 H2:Heap} {v:Value} {r:Tr×Nat},Ext H H1→DidR H1 H2 b v r→DidR H H2 b v r:=fun k hd=>⟨hd.code,hd.tree,k.only.trans hd.only fun _ _ e=>e⟩
 by_cases h0: ¬(cleanF p).2=0
 ·have e:appendF A p bs=writeF A p bs:=by unfold appendF writeF;rw[if_neg h0,if_neg h0]
  have h0': ¬((cleanF p).2:Int)=0:=by omega
  rw[e]
  refine Vc.CallH.body Tryz.func127 Tryz.call127 rfl (by decide+kernel) rfl ?_
  ((conv=>whnf);repeat(any_goals((first|(refine(hcl _).mono ?_;rintro _ H1 ⟨rfl,hx1⟩;have hz1:=hx1.size)|(refine NextH.dup (hr.ext (by exact Vc.xt)) (strV_length _) (strV_plain _) (by omega) rfl ⟨_,rfl,fun _ h=>by cases h⟩ rfl rfl rfl rfl rfl ?_;intro a6 c6 H6 ho6 hx6;have hz6:=hx6.size)|(refine(hwr _ (by exact Vc.xt) a6 c6 ho6.row).mono ?_;rintro _ H7 hd;obtain rfl:=hd.code)|refine Vc.stp ?_|refine Vc.spl ?_ ?_)<;>(intros;(conv=>whnf)))))
  exact hdid (by exact Vc.xt) hd
 have h0:(cleanF p).2=0:=by omega
 rw[h0]at hcl
 cases hg:mget A (cleanF p).1 with
 |none=>
  rw[hg]at hat
  have e:appendF A p bs=writeF A p bs:=by unfold appendF writeF bytesF;rw[if_pos h0,if_pos h0,hg];rfl
  rw[e]
  refine Vc.CallH.body Tryz.func127 Tryz.call127 rfl (by decide+kernel) rfl ?_
  ((conv=>whnf);repeat(any_goals((first|(refine(hcl _).mono ?_;rintro _ H1 ⟨rfl,hx1⟩;have hz1:=hx1.size)|(refine(hat _ (by exact Vc.xt)).mono ?_;rintro _ _ ⟨(⟨_,rfl⟩|⟨_,_,_,hcon,_⟩),rfl⟩;rotate_left;exact absurd hcon (by simp))|(refine NextH.dup (hr.ext (by exact Vc.xt)) (strV_length _) (strV_plain _) (by omega) rfl ⟨_,rfl,fun _ h=>by cases h⟩ rfl rfl rfl rfl rfl ?_;intro a6 c6 H6 ho6 hx6;have hz6:=hx6.size)|(refine(hwr _ (by exact Vc.xt) a6 c6 ho6.row).mono ?_;rintro _ H7 hd;obtain rfl:=hd.code)|refine Vc.stp ?_|refine Vc.spl ?_ ?_)<;>(intros;(conv=>whnf)))))
  exact hdid (by exact Vc.xt) hd
 |some nd=>
  rw[hg]at hat
  have hol:=(hA.file _ _ hg).1
  have e:appendF A p bs=writeF A p (nd.2++bs):=by unfold appendF writeF bytesF;rw[if_pos h0,if_pos h0,hg]
  have hwr2:=fun H' (k:Ext H H') a' c' (hr':Row H' a' (strV (nd.2++bs)))=>rwrite_any (h.ext k) hA p (nd.2++bs) hpl a' (nd.2.length+bs.length) c' hr' (List.length_append) (by omega)
  rw[e]
  refine Vc.CallH.body Tryz.func127 Tryz.call127 rfl (by decide+kernel) rfl ?_
  ((conv=>whnf);repeat(any_goals((first|(refine(hcl _).mono ?_;rintro _ H1 ⟨rfl,hx1⟩;have hz1:=hx1.size)|(refine(hat _ (by exact Vc.xt)).mono ?_;rintro _ H2 ⟨(⟨hcon,_⟩|⟨k,nn,hk,hnn,rfl⟩),rfl⟩;cases hcon;(obtain rfl:=Option.some.inj hnn);(have hkl:=(List.getElem?_eq_some_iff.1 hk).1))|(refine IdxA.file (htr.ext (by exact Vc.xt)) rfl k _ (by omega) hk ?_;intro bi oi ai ci hri hci;have hc0:=hci 0 _ rfl;have hc1:=hci 1 _ rfl;have hc2:=hci 2 _ rfl;try dsimp only at hri hc1 hc2)|(refine NextH.append (m:=bs.length) (i:=Tryz.t5) (z:= .int .u8 0) (base:=H1.size) rfl ⟨_,rfl,fun _ h=>by cases h⟩ rfl rfl rfl ho6 (Src.row (hr.ext (by exact Vc.xt)) (by rw[strV_length];exact(Nat.mul_one _).symm) (strV_plain _)) (by unfold maxLen;omega) (by show(nd.2.length+bs.length)*1≤_;omega) (by omega) ?_;intro a8 c8 H8 ho8 hw8 hn8;have hx8:=And.intro trivial (hx6.wr ho6 (Nat.le_refl _) hw8))|(refine NextH.dup (hri.ext (by exact Vc.xt)) (strV_length _) (strV_plain _) (by omega) rfl ⟨_,rfl,fun _ h=>by cases h⟩ rfl rfl rfl rfl rfl ?_;intro a6 c6 H6 ho6 hx6;have hz6:=hx6.size)|(refine(hwr2 _ (hx1.trans hx8.2) a8 c8 (by(have:=ho8.row);rw[strV_append];exact this)).mono ?_;rintro _ H9 hd;obtain rfl:=hd.code)|refine Vc.stp ?_|refine Vc.spl ?_ ?_)<;>(intros;(conv=>whnf)))))
  exact hdid (hx1.trans hx8.2) hd
structure RmS where
 i:Nat
 vs:List Value
 a:Option Addr
 cap:Nat
theorem rremove_any {b:Nat} {A:Tr} {H:Heap} (h:RTree H b A) (hA:Okay A) (p:Bs) (hpl:p.length≤100000000):CallH Tryz.prog 99 [.pointer (some ⟨b,0,none⟩),.string (mkS p)] H fun v H'=>DidR H H' b v (removeF A p):=by
 have hcl:=fun H=>rclean_any p hpl H
 have hAc:=hA.count
 unfold removeF
 by_cases h0: ¬(cleanF p).2=0
 ·rw[if_neg h0]
  have h0': ¬((cleanF p).2:Int)=0:=by omega
  generalize cleanF p=c at*
  refine Vc.CallH.body Tryz.func99 Tryz.call99 rfl (by decide+kernel) rfl ?_
  ((conv=>whnf);repeat(any_goals((first|(refine(hcl _).mono ?_;rintro _ H1 ⟨rfl,hx1⟩;have hz1:=hx1.size)|refine Vc.stp ?_|refine Vc.spl ?_ ?_)<;>(intros;(conv=>whnf)))))
  exact DidR.none h hx1 _
 have h0:(cleanF p).2=0:=by omega
 rw[if_pos h0]
 have hq:=clean_of h0
 obtain⟨q,hqe⟩: ∃ q,(cleanF p).1=q:=⟨_,rfl⟩
 rw[h0,hqe]at hcl
 rw[hqe]at hq ⊢
 have hql:q.length≤200:=by obtain⟨l,rfl,hl⟩:=hq;exact hl.long
 have e0:=eq_empty q
 obtain⟨ta,tcap,htb,htr⟩:=h.out
 have hat:=fun H' (k:Ext H H')=>rat_any (h.ext k) q (by omega)
 unfold RatV at hat
 by_cases hqn:q=[]
 ·rw[if_pos hqn]
  rw[decide_eq_true hqn]at e0
  refine Vc.CallH.body Tryz.func99 Tryz.call99 rfl (by decide+kernel) rfl ?_
  ((conv=>whnf);repeat(any_goals((first|(refine(hcl _).mono ?_;rintro _ H1 ⟨rfl,hx1⟩;have hz1:=hx1.size)|refine Vc.stp ?_|refine Vc.spl ?_ ?_)<;>(intros;(conv=>whnf)))))
  exact DidR.none h hx1 _
 rw[if_neg hqn]
 rw[decide_eq_false hqn]at e0
 cases hg:mget A q with
 |none=>
  rw[hg]at hat
  rw[if_pos rfl]
  refine Vc.CallH.body Tryz.func99 Tryz.call99 rfl (by decide+kernel) rfl ?_
  ((conv=>whnf);repeat(any_goals((first|(refine(hcl _).mono ?_;rintro _ H1 ⟨rfl,hx1⟩;have hz1:=hx1.size)|(refine(hat _ (by exact Vc.xt)).mono ?_;rintro _ _ ⟨(⟨_,rfl⟩|⟨_,_,_,hcon,_⟩),rfl⟩;rotate_left;exact absurd hcon (by simp))|refine Vc.stp ?_|refine Vc.spl ?_ ?_)<;>(intros;(conv=>whnf)))))
  exact DidR.none h hx1 _
 |some nd=>
  rw[hg]at hat
  rw[if_neg (by simp)]
  refine Vc.CallH.body Tryz.func99 Tryz.call99 rfl (by decide+kernel) rfl ?_
  ((conv=>whnf);repeat(any_goals((first|(refine(hcl _).mono ?_;rintro _ H1 ⟨rfl,hx1⟩;have hz1:=hx1.size)|(refine(hat _ (by exact Vc.xt)).mono ?_;rintro _ H2 ⟨(⟨hcon,_⟩|⟨k,nn,hk,hnn,rfl⟩),rfl⟩;cases hcon)|refine Vc.stp ?_|refine Vc.spl ?_ ?_)<;>(intros;(conv=>whnf)))))
  refine LoopH.intro (fun(x:RmS)=>[(8,.int .i64 x.i),(7,.slice x.a ((A.take x.i).filter fun y=> !withinF y.1 q).length x.cap)])
   (fun x H'=>x.i≤A.length∧FilesV H1 ((A.take x.i).filter fun y=> !withinF y.1 q) x.vs∧Own H' H1.size 71 3 x.a ((A.take x.i).filter fun y=> !withinF y.1 q).length x.cap x.vs∧Ext H1 H') (fun x=>A.length-x.i) ⟨0,[],none,0⟩ ⟨rfl,rfl,trivial⟩ ⟨Nat.zero_le _,.nil,Own.nil _ _ _ _,Ext.refl _⟩ ?_
  rintro⟨i,vs,a,cap⟩ H3 ⟨hi,hfv,ho3,hx3⟩
  dsimp only at hi hfv ho3 ⊢
  have hz3:=hx3.size
  have htb3:=(htb.ext hx1).ext hx3
  have htr1:=htr.ext hx1
  have hfl:((A.take i).filter fun y=> !withinF y.1 q).length≤i:=Nat.le_trans (List.length_filter_le _ _) (by rw[List.length_take];omega)
  by_cases hlt:i<A.length
  ·obtain⟨x,hx⟩: ∃ x,A[i]? =some x:=⟨_,List.getElem?_eq_getElem (by omega)⟩
   have hxl:x.1.length≤200:=by
    obtain⟨⟨l,e,hl⟩,_⟩:=hA.clean x.1 x.2 (mget_of_mem hA.sorted.nodup (List.mem_of_getElem? hx))
    rw[e];exact hl.long
   have htk:A.take (i+1)=A.take i++[x]:=by rw[List.take_add_one,hx];rfl
   have hwi:=fun H=>rwithin_any x.1 q (by omega) (by omega) H
   by_cases hw:withinF x.1 q=true
   ·rw[hw]at hwi
    have ef:((A.take (i+1)).filter fun y=> !withinF y.1 q)=(A.take i).filter fun y=> !withinF y.1 q:=by rw[htk,List.filter_append,List.filter_cons,if_neg (by rw[hw];simp)];simp
    ((conv=>whnf);repeat(any_goals((first|(refine IdxA.file (htr1.ext (by exact Vc.xt)) rfl i x (by omega) hx ?_;intro bi oi ai ci hri hci;have hc0:=hci 0 _ rfl)|(refine(hwi _).mono ?_;rintro _ _ ⟨rfl,rfl⟩)|refine Vc.stp ?_|refine Vc.spl ?_ ?_)<;>(intros;(conv=>whnf)))))
    exact⟨⟨i+1,vs,a,cap⟩,⟨rfl,by dsimp only;rw[ef];rfl,trivial⟩,⟨by show i+1≤_;omega,by dsimp only;rw[ef];exact hfv,by dsimp only;rw[ef];exact ho3,hx3⟩,by show A.length-(i+1)<A.length-i;omega⟩
   ·have hw:withinF x.1 q=false:=by simpa using hw
    rw[hw]at hwi
    have ef:((A.take (i+1)).filter fun y=> !withinF y.1 q)=((A.take i).filter fun y=> !withinF y.1 q)++[x]:=by rw[htk,List.filter_append,List.filter_cons,if_pos (by rw[hw];rfl)];simp
    have efl:((A.take (i+1)).filter fun y=> !withinF y.1 q).length=((A.take i).filter fun y=> !withinF y.1 q).length+1:=by rw[ef,List.length_append];rfl
    ((conv=>whnf);repeat(any_goals((first|(refine IdxA.file htr1 rfl i x (by omega) hx ?_;intro bi oi ai ci hri hci;have hc0:=hci 0 _ rfl)|(refine(hwi _).mono ?_;rintro _ _ ⟨rfl,rfl⟩)|((with_reducible apply SemH.load_file);(focus((exact hci)));(focus((exact hx3)));(focus((conv=>whnf))))|(rename_i Hl zl bl xl;refine NextH.appF (news:=fileC x ai ci) (ho3.ext xl) (Blk.row (c:=fileC x ai ci) bl) rfl (fileC_plain x ai ci) (by omega) (by omega) ⟨_,rfl,fun _ h=>by cases h⟩ ?_;intro a6 c6 H6 ho6 hw6)|refine Vc.stp ?_|refine Vc.spl ?_ ?_)<;>(intros;(conv=>whnf)))))
    refine⟨⟨i+1,vs++fileC x ai ci,a6,c6⟩,⟨rfl,by dsimp only;rw[efl];rfl,trivial⟩,⟨by show i+1≤_;omega,?_,by dsimp only;rw[efl];exact ho6,(hx3.trans xl).wr (ho3.ext xl) (by omega) hw6⟩,by show A.length-(i+1)<A.length-i;omega⟩
    dsimp only
    rw[ef]
    have:=hfv.append (FilesV.cons (cap:=ci) hri .nil)
    rwa[List.append_nil]at this
  ·obtain rfl:i=A.length:=by omega
   rw[List.take_length]at hfv ho3 ⊢
   have hcl3:=ho3.cap_le
   ((conv=>whnf);repeat(any_goals((first|refine Vc.stp ?_|refine Vc.spl ?_ ?_)<;>(intros;(conv=>whnf)))))
   rename_i H7 z7 b7 x7
   have b7:Blk H7 b #[.slice a (A.filter fun y=> !withinF y.1 q).length cap] 48:=b7
   have hrf:RowF H3 a (A.filter fun y=> !withinF y.1 q):=⟨_,ho3.row,hfv.ext hx3⟩
   exact⟨rfl,.of b7 rfl hcl3 (hrf.keep x7 fun x e _=>by subst e;exact .blk htb3 (slice_dumb _ _ _)),(hx1.trans hx3).only.trans x7 fun _ _ e=>e⟩
end Go.Proofs.YtphkaogbcfdllaaGreatDoor
namespace Go.Tre
open Go.Pth Go.Scr
open Go.Vc (mget mput mdel mget_put mget_mem mget_of_mem mget_none)
theorem moved_snoc (A:Tr) (p q:Txt) (i:Nat) (x:Txt×Node) (hx:A[i]? =some x):movedF (A.take (i+1)) p q=movedF (A.take i) p q++if withinF x.1 p=true then [(q++x.1.drop p.length,x.2)]else []:=by
 have:A.take (i+1)=A.take i++[x]:=by rw[List.take_add_one,hx];rfl
 rw[this]
 unfold movedF
 rw[List.filter_append,List.map_append]
 by_cases hw:withinF x.1 p=true<;>simp[hw]
theorem moved_len (A:Tr) (p q:Txt):(movedF A p q).length≤A.length:=by unfold movedF;rw[List.length_map];exact List.length_filter_le _ _
end Go.Tre
namespace Go.Proofs.YtphkaogbcfdllaaGreatDoor
open Go Go.Vc Go.Scr Go.Pth Go.Tre
structure CoS where
 i:Nat
 fs:List SF
 a:Option Addr
 cap:Nat
theorem within_len {x p:Bs} (h:withinF x p=true):p.length≤x.length:=by
 unfold withinF at h
 rw[Bool.or_eq_true,Bool.or_eq_true]at h
 rcases h with (h|h)|h
 ·have:p=[]:=by simpa using h
  rw[this];exact Nat.zero_le _
 ·have:x=p:=by simpa using h
  rw[this];exact Nat.le_refl _
 ·have:=(List.isPrefixOf_iff_prefix.1 h).length_le
  rw[List.length_append]at this;omega
theorem rcopied_any {b:Nat} {A:Tr} {H:Heap} (h:RTree H b A) (hA:Okay A) (p q:Bs) (hpl:p.length≤200) (hql:q.length≤200):CallH Tryz.prog 218 [.pointer (some ⟨b,0,none⟩),.string (mkS p),.string (mkS q)] H fun v H'=>
  (∃ a cap fs,v= .slice a (movedF A p q).length cap∧ToldL H' fs (movedF A p q)∧Row H' a (fs.flatMap encF))∧Ext H H':=by
 obtain⟨ta,tcap,htb,htr⟩:=h.out
 have hAc:=hA.count
 refine Vc.CallH.body Tryz.func218 Tryz.call218 rfl (by decide+kernel) rfl ?_
 ((conv=>whnf);repeat(any_goals((first|refine Vc.stp ?_|refine Vc.spl ?_ ?_)<;>(intros;(conv=>whnf)))))
 refine LoopH.intro (fun(x:CoS)=>[(8,.int .i64 x.i),(7,.slice x.a (movedF (A.take x.i) p q).length x.cap)])
  (fun x H'=>x.i≤A.length∧ToldL H' x.fs (movedF (A.take x.i) p q)∧Own H' H.size 71 3 x.a (movedF (A.take x.i) p q).length x.cap (x.fs.flatMap encF)∧Ext H H') (fun x=>A.length-x.i) ⟨0,[],none,0⟩ ⟨rfl,rfl,trivial⟩ ⟨Nat.zero_le _,trivial,Own.nil _ _ _ _,Ext.refl _⟩ ?_
 rintro⟨i,fs,a,cap⟩ H3 ⟨hi,hfv,ho3,hx3⟩
 dsimp only at hi hfv ho3 ⊢
 have hz3:=hx3.size
 have hfl:=moved_len (A.take i) p q
 rw[List.length_take]at hfl
 by_cases hlt:i<A.length
 ·obtain⟨x,hx⟩: ∃ x,A[i]? =some x:=⟨_,List.getElem?_eq_getElem (by omega)⟩
  have hxl:x.1.length≤200:=by
   obtain⟨⟨l,e,hl⟩,_⟩:=hA.clean x.1 x.2 (mget_of_mem hA.sorted.nodup (List.mem_of_getElem? hx))
   rw[e];exact hl.long
  have hbl:=(hA.file x.1 x.2 (mget_of_mem hA.sorted.nodup (List.mem_of_getElem? hx))).1
  have hwi:=fun H=>rwithin_any x.1 p (by omega) (by omega) H
  have hsn:=moved_snoc A p q i x hx
  by_cases hw:withinF x.1 p=true
  ·rw[hw]at hwi
   rw[if_pos hw]at hsn
   have hwl:=within_len hw
   have hdr:(mkS x.1).extract p.length (mkS x.1).size=mkS (x.1.drop p.length):=mkS_drop _ _
   ((conv=>whnf);repeat(any_goals((first|(refine IdxA.file (htr.ext (by exact Vc.xt)) rfl i x (by omega) hx ?_;intro bi oi ai ci hri hci;have hc0:=hci 0 _ rfl)|(refine(hwi _).mono ?_;rintro _ _ ⟨rfl,rfl⟩)|((with_reducible apply SemH.load_file);(focus((exact hci)));(focus((exact Ext.refl _)));(focus((conv=>whnf))))|(refine BndH.nat p.length rfl hwl ?_)|(rw[hdr,mkS_app];refine NeedH.mk ⟨by rw[mkS_size,mkS_size,List.length_drop];omega,?_⟩)|(rename_i Ha za ba xa Hb zb bb xb Hc zc bc xc;have xc3:Ext H3 Hc:=(xa.but xb (by omega)).but xc (by omega);have hrc:=hri.ext xc3;refine NextH.dup hrc (strV_length _) (strV_plain _) (by omega) rfl ⟨_,rfl,fun _ h=>by cases h⟩ rfl rfl rfl rfl rfl ?_;intro a6 c6 H6 ho6 hx6;have hz6:=hx6.size)|(rename_i Hd zd bd xd He ze be xe;have ho6e:=(ho6.keep xd (fun p hp hf=>by have:=(ho6.block p hp).1;omega)).ext xe;have x3e:Ext H3 He:=((xc3.trans hx6).but xd (by omega)).ext xe;refine NextH.pushF (f:=(q++x.1.drop p.length,x.2.1,a6,x.2.2.length,c6)) be (ho3.ext x3e) (by omega) (by omega) ⟨_,rfl,fun _ h=>by cases h⟩ ?_;intro a7 c7 H7 ho7 hz7 hw7)|refine Vc.stp ?_|refine Vc.spl ?_ ?_)<;>(intros;(conv=>whnf)))))
   have hle:(movedF (A.take (i+1)) p q).length=(movedF (A.take i) p q).length+1:=by rw[hsn,List.length_append];rfl
   have hne: ∀ b c,(∃ p,a=some p∧p.block=b)→ ¬Blk He b c 5:=by
    rintro b c ⟨p,hp,rfl⟩ hb
    rcases (ho3.ext x3e).out with ⟨h1,_⟩|⟨g,cur,h1,_,hb2,_⟩
    ·rw[h1]at hp;cases hp
    ·rw[h1]at hp;cases hp
     exact absurd (blk_one hb hb2).1 (by decide)
   have ht:=ToldL.snoc (x:=(q++x.1.drop p.length,x.2)) (f:=(q++x.1.drop p.length,x.2.1,a6,x.2.2.length,c6)) ⟨rfl,rfl,rfl,(ho6e.base (Nat.zero_le _)).keep hw7 fun p hp hf=>by
    rcases (ho6e).out with ⟨h1,_⟩|⟨g,cur,h1,_,hb2,_⟩
    ·rw[h1]at hp;cases hp
    ·rw[h1]at hp;cases hp
     exact hne _ _ hf hb2⟩ ((hfv.ext x3e).keep hw7 hne)
   exact⟨⟨i+1,fs++[_],a7,c7⟩,⟨rfl,by dsimp only;rw[hle];rfl,trivial⟩,⟨by show i+1≤_;omega,by dsimp only;rw[hsn];exact ht,by dsimp only;rw[hle];exact ho7,(hx3.trans x3e).wr (ho3.ext x3e) (Nat.le_refl _) hw7⟩,by show A.length-(i+1)<A.length-i;omega⟩
  ·have hw:withinF x.1 p=false:=by simpa using hw
   rw[hw]at hwi
   rw[if_neg (by rw[hw];simp),List.append_nil]at hsn
   ((conv=>whnf);repeat(any_goals((first|(refine IdxA.file (htr.ext (by exact Vc.xt)) rfl i x (by omega) hx ?_;intro bi oi ai ci hri hci;have hc0:=hci 0 _ rfl)|(refine(hwi _).mono ?_;rintro _ _ ⟨rfl,rfl⟩)|refine Vc.stp ?_|refine Vc.spl ?_ ?_)<;>(intros;(conv=>whnf)))))
   exact⟨⟨i+1,fs,a,cap⟩,⟨rfl,by dsimp only;rw[hsn];rfl,trivial⟩,⟨by show i+1≤_;omega,by dsimp only;rw[hsn];exact hfv,by dsimp only;rw[hsn];exact ho3,hx3⟩,by show A.length-(i+1)<A.length-i;omega⟩
 ·obtain rfl:i=A.length:=by omega
  rw[List.take_length]at hfv ho3 ⊢
  ((conv=>whnf);repeat(any_goals((first|refine Vc.stp ?_|refine Vc.spl ?_ ?_)<;>(intros;(conv=>whnf)))))
  exact⟨⟨a,cap,fs,rfl,hfv,ho3.row⟩,hx3⟩
end Go.Proofs.YtphkaogbcfdllaaGreatDoor
namespace Go.Tre
open Go.Pth Go.Scr
open Go.Vc (mget mput mdel mget_put mget_mem mget_of_mem mget_none)
theorem puts_le: ∀ (l A:Tr),(putsF A l).length≤A.length+l.length
 |[],A=>Nat.le_refl _
 |x::l,A=>by
  have h1:=puts_le l (putF A x.1 x.2)
  have h2:=putF_le x.1 x.2 A
  show(putsF (putF A x.1 x.2) l).length≤_
  simp only[List.length_cons];omega
theorem puts_snocR (A l:Tr) (x:Txt×Node):putsF A (l++[x])=putF (putsF A l) x.1 x.2:=by unfold putsF;rw[List.foldl_append];rfl
theorem moved_sizeR (A:Tr) (p q:Txt):sizeT (movedF A p q)≤sizeT A:=by
 have:sizeT (movedF A p q)=sizeT (A.filter fun x=>withinF x.1 p):=by
  unfold movedF sizeT
  rw[List.map_map];rfl
 rw[this];exact filter_size A _
theorem moved_path {A:Tr} (hA:Okay A) {p q:Txt} (hq:q.length≤200) {x:Txt×Node} (h:x∈movedF A p q):x.1.length≤400∧x.2.2.length≤65536:=by
 unfold movedF at h
 obtain⟨y,hy,rfl⟩:=List.mem_map.1 h
 have hy:=(List.mem_filter.1 hy).1
 have hg:=mget_of_mem hA.sorted.nodup hy
 obtain⟨⟨l,e,hl⟩,_⟩:=hA.clean y.1 y.2 hg
 have hl:=hl.long
 rw[←e]at hl
 refine⟨?_,(hA.file _ _ hg).1⟩
 show(q++y.1.drop p.length).length≤400
 rw[List.length_append,List.length_drop];omega
end Go.Tre
namespace Go.Proofs.YtphkaogbcfdllaaGreatDoor
open Go Go.Vc Go.Scr Go.Pth Go.Tre
set_option maxHeartbeats 4000000 in
theorem rtwo_any {b:Nat} {A:Tr} {H:Heap} (h:RTree H b A) (hA:Okay A) (s t:Bs) (hsl:s.length≤100000000) (htl:t.length≤100000000) (stays:Bool):CallH Tryz.prog 177 [.pointer (some ⟨b,0,none⟩),.string (mkS s),.string (mkS t),.bool stays] H fun v H'=>DidR H H' b v (twoF A s t stays):=by
 have hcl:=fun H=>rclean_any s hsl H
 have hct:=fun H=>rclean_any t htl H
 have hAc:=hA.count
 have hAs:=hA.size
 unfold Tre.twoF
 by_cases h0: ¬(cleanF s).2=0
 ·rw[if_neg h0]
  have h0': ¬((cleanF s).2:Int)=0:=by omega
  generalize cleanF s=c at*
  refine Vc.CallH.body Tryz.func177 Tryz.call177 rfl (by decide+kernel) rfl ?_
  ((conv=>whnf);repeat(any_goals((first|(refine(hcl _).mono ?_;rintro _ H1 ⟨rfl,hx1⟩;have hz1:=hx1.size)|refine Vc.stp ?_|refine Vc.spl ?_ ?_)<;>(intros;(conv=>whnf)))))
  exact DidR.none h hx1 _
 have h0:(cleanF s).2=0:=by omega
 rw[if_pos h0]
 have hp:=clean_of h0
 obtain⟨p,hpe⟩: ∃ p,(cleanF s).1=p:=⟨_,rfl⟩
 rw[h0,hpe]at hcl
 rw[hpe]at hp ⊢
 have hpl:p.length≤200:=by obtain⟨l,rfl,hl⟩:=hp;exact hl.long
 by_cases h1: ¬(cleanF t).2=0
 ·rw[if_neg h1]
  have h1': ¬((cleanF t).2:Int)=0:=by omega
  generalize cleanF t=c at*
  refine Vc.CallH.body Tryz.func177 Tryz.call177 rfl (by decide+kernel) rfl ?_
  ((conv=>whnf);repeat(any_goals((first|(refine(hcl _).mono ?_;rintro _ H1 ⟨rfl,hx1⟩;have hz1:=hx1.size)|(refine(hct _).mono ?_;rintro _ H2 ⟨rfl,hx2⟩;have hz2:=hx2.size)|refine Vc.stp ?_|refine Vc.spl ?_ ?_)<;>(intros;(conv=>whnf)))))
  exact DidR.none h (hx1.trans hx2) _
 have h1:(cleanF t).2=0:=by omega
 rw[if_pos h1]
 have hq:=clean_of h1
 obtain⟨q,hqe⟩: ∃ q,(cleanF t).1=q:=⟨_,rfl⟩
 rw[h1,hqe]at hct
 rw[hqe]at hq ⊢
 have hql:q.length≤200:=by obtain⟨l,rfl,hl⟩:=hq;exact hl.long
 have ep:=eq_empty p
 have eq:=eq_empty q
 have hap:=fun H' (k:Ext H H')=>rat_any (h.ext k) p (by omega)
 have haq:=fun H' (k:Ext H H')=>rat_any (h.ext k) q (by omega)
 unfold RatV at hap haq
 have hwi:=fun H=>rwithin_any q p (by omega) (by omega) H
 have hah:=fun H' (k:Ext H H')=>rahead_any (h.ext k) (p:=q) (by omega) (by omega)
 unfold RaheadV at hah
 have hcp:=fun H' (k:Ext H H')=>rcopied_any (h.ext k) hA p q hpl hql
 unfold twoP
 by_cases hpn:p=[]
 ·rw[if_neg (fun e=>e.1 hpn),if_pos (.inl hpn)]
  rw[decide_eq_true hpn]at ep
  refine Vc.CallH.body Tryz.func177 Tryz.call177 rfl (by decide+kernel) rfl ?_
  ((conv=>whnf);repeat(any_goals((first|(refine(hcl _).mono ?_;rintro _ H1 ⟨rfl,hx1⟩;have hz1:=hx1.size)|(refine(hct _).mono ?_;rintro _ H2 ⟨rfl,hx2⟩;have hz2:=hx2.size)|refine Vc.stp ?_|refine Vc.spl ?_ ?_)<;>(intros;(conv=>whnf)))))
  exact DidR.none h (hx1.trans hx2) _
 rw[decide_eq_false hpn]at ep
 cases hgp:mget A p with
 |none=>
  rw[if_pos ⟨hpn,rfl⟩]
  rw[hgp]at hap
  refine Vc.CallH.body Tryz.func177 Tryz.call177 rfl (by decide+kernel) rfl ?_
  ((conv=>whnf);repeat(any_goals((first|(refine(hcl _).mono ?_;rintro _ H1 ⟨rfl,hx1⟩;have hz1:=hx1.size)|(refine(hct _).mono ?_;rintro _ H2 ⟨rfl,hx2⟩;have hz2:=hx2.size)|(refine(hap _ (by exact Vc.xt)).mono ?_;rintro _ _ ⟨(⟨_,rfl⟩|⟨_,_,_,hcon,_⟩),rfl⟩;rotate_left;exact absurd hcon (by simp))|refine Vc.stp ?_|refine Vc.spl ?_ ?_)<;>(intros;(conv=>whnf)))))
  exact DidR.none h (hx1.trans hx2) _
 |some np=>
 rw[hgp]at hap
 rw[if_neg (fun e=>by cases e.2)]
 by_cases hw:withinF q p=true
 ·rw[if_pos (.inr hw)]
  rw[hw]at hwi
  refine Vc.CallH.body Tryz.func177 Tryz.call177 rfl (by decide+kernel) rfl ?_
  ((conv=>whnf);repeat(any_goals((first|(refine(hcl _).mono ?_;rintro _ H1 ⟨rfl,hx1⟩;have hz1:=hx1.size)|(refine(hct _).mono ?_;rintro _ H2 ⟨rfl,hx2⟩;have hz2:=hx2.size)|(refine(hap _ (by exact Vc.xt)).mono ?_;rintro _ _ ⟨(⟨hcon,_⟩|⟨k,nn,hk,hnn,rfl⟩),rfl⟩;cases hcon)|(refine(hwi _).mono ?_;rintro _ _ ⟨rfl,rfl⟩)|refine Vc.stp ?_|refine Vc.spl ?_ ?_)<;>(intros;(conv=>whnf)))))
  exact DidR.none h (hx1.trans hx2) _
 have hwf:withinF q p=false:=by simpa using hw
 rw[hwf]at hwi
 rw[if_neg (by rw[not_or];exact⟨hpn,hw⟩)]
 by_cases hqn:q=[]
 ·rw[if_pos (.inl hqn)]
  rw[decide_eq_true hqn]at eq
  refine Vc.CallH.body Tryz.func177 Tryz.call177 rfl (by decide+kernel) rfl ?_
  ((conv=>whnf);repeat(any_goals((first|(refine(hcl _).mono ?_;rintro _ H1 ⟨rfl,hx1⟩;have hz1:=hx1.size)|(refine(hct _).mono ?_;rintro _ H2 ⟨rfl,hx2⟩;have hz2:=hx2.size)|(refine(hap _ (by exact Vc.xt)).mono ?_;rintro _ _ ⟨(⟨hcon,_⟩|⟨k,nn,hk,hnn,rfl⟩),rfl⟩;cases hcon)|(refine(hwi _).mono ?_;rintro _ _ ⟨rfl,rfl⟩)|refine Vc.stp ?_|refine Vc.spl ?_ ?_)<;>(intros;(conv=>whnf)))))
  exact DidR.none h (hx1.trans hx2) _
 rw[decide_eq_false hqn]at eq
 cases hgq:mget A q with
 |some nq=>
  rw[if_pos (.inr rfl)]
  rw[hgq]at haq
  refine Vc.CallH.body Tryz.func177 Tryz.call177 rfl (by decide+kernel) rfl ?_
  ((conv=>whnf);repeat(any_goals((first|(refine(hcl _).mono ?_;rintro _ H1 ⟨rfl,hx1⟩;have hz1:=hx1.size)|(refine(hct _).mono ?_;rintro _ H2 ⟨rfl,hx2⟩;have hz2:=hx2.size)|(refine(hap _ (by exact Vc.xt)).mono ?_;rintro _ _ ⟨(⟨hcon,_⟩|⟨k,nn,hk,hnn,rfl⟩),rfl⟩;cases hcon)|(refine(hwi _).mono ?_;rintro _ _ ⟨rfl,rfl⟩)|(refine(haq _ (by exact Vc.xt)).mono ?_;rintro _ _ ⟨(⟨hcon,_⟩|⟨k2,nn2,hk2,hnn2,rfl⟩),rfl⟩;cases hcon)|refine Vc.stp ?_|refine Vc.spl ?_ ?_)<;>(intros;(conv=>whnf)))))
  exact DidR.none h (hx1.trans hx2) _
 |none=>
 rw[hgq]at haq
 rw[if_neg (by rw[not_or];exact⟨hqn,by simp⟩)]
 by_cases hf:fileF A q=true
 ·rw[if_pos hf]
  simp only[if_pos hf]at hah
  refine Vc.CallH.body Tryz.func177 Tryz.call177 rfl (by decide+kernel) rfl ?_
  ((conv=>whnf);repeat(any_goals((first|(refine(hcl _).mono ?_;rintro _ H1 ⟨rfl,hx1⟩;have hz1:=hx1.size)|(refine(hct _).mono ?_;rintro _ H2 ⟨rfl,hx2⟩;have hz2:=hx2.size)|(refine(hap _ (by exact Vc.xt)).mono ?_;rintro _ _ ⟨(⟨hcon,_⟩|⟨k,nn,hk,hnn,rfl⟩),rfl⟩;cases hcon)|(refine(hwi _).mono ?_;rintro _ _ ⟨rfl,rfl⟩)|(refine(haq _ (by exact Vc.xt)).mono ?_;rintro _ _ ⟨(⟨_,rfl⟩|⟨_,_,_,hcon,_⟩),rfl⟩;rotate_left;exact absurd hcon (by simp))|(refine(hah _ (by exact Vc.xt)).mono ?_;rintro _ H3 ⟨rfl,hx3⟩;have hz3:=hx3.size)|refine Vc.stp ?_|refine Vc.spl ?_ ?_)<;>(intros;(conv=>whnf)))))
  exact DidR.none h ((hx1.trans hx2).trans hx3) _
 rw[if_neg hf]
 simp only[if_neg hf]at hah
 have hlk:(lackF A q).length≤12:=by
  have h1:(lackF A q).length≤(pars q).length:=List.length_filter_le _ _
  have h2:=hq.parts.deep
  rw[pars_len]at h1;omega
 have hMl:=moved_len A p q
 have hMs:=moved_sizeR A p q
 have hMp:=fun x (hx:x∈movedF A p q)=>moved_path (p:=p) hA hql hx
 have hbad: ∀ x∈movedF A p q,(cleanF x.1).2≠0→badM (movedF A p q)=true:=fun x hx hc=>by
  unfold badM;rw[List.any_eq_true];exact⟨x,hx,by simpa using hc⟩
 have hgood: ∀ i,i=(movedF A p q).length→(∀ x∈(movedF A p q).take i,(cleanF x.1).2=0)→badM (movedF A p q)=false:=fun i hi hc=>by
  unfold badM;rw[List.any_eq_false];intro x hx;have:=hc x (by rw[hi,List.take_length];exact hx);simp[this]
 generalize hM:movedF A p q=M at*
 refine Vc.CallH.body Tryz.func177 Tryz.call177 rfl (by decide+kernel) rfl ?_
 ((conv=>whnf);repeat(any_goals((first|(refine(hcl _).mono ?_;rintro _ H1 ⟨rfl,hx1⟩;have hz1:=hx1.size)|(refine(hct _).mono ?_;rintro _ H2 ⟨rfl,hx2⟩;have hz2:=hx2.size)|(refine(hap _ (by exact Vc.xt)).mono ?_;rintro _ _ ⟨(⟨hcon,_⟩|⟨k,nn,hk,hnn,rfl⟩),rfl⟩;cases hcon)|(refine(hwi _).mono ?_;rintro _ _ ⟨rfl,rfl⟩)|(refine(haq _ (by exact Vc.xt)).mono ?_;rintro _ _ ⟨(⟨_,rfl⟩|⟨_,_,_,hcon,_⟩),rfl⟩;rotate_left;exact absurd hcon (by simp))|(refine(hah _ (by exact Vc.xt)).mono ?_;rintro _ H3 ⟨⟨a3,c3,rfl,ho3⟩,hx3⟩;have hz3:=hx3.size)|(refine(hcp _ (by exact Vc.xt)).mono ?_;rintro _ H4 ⟨⟨a4,c4,fs,rfl,htd,hr4⟩,hx4⟩;have hz4:=hx4.size)|refine Vc.stp ?_|refine Vc.spl ?_ ?_)<;>(intros;(conv=>whnf)))))
 have hx04:Ext H H4:=((hx1.trans hx2).trans hx3).trans hx4
 have hrf:RowF H4 a4 M:=⟨_,hr4,htd.files⟩
 refine LoopH.intro (fun(i:Nat)=>[(15,.int .i64 i)]) (fun i H'=>i≤M.length∧(∀ x∈M.take i,(cleanF x.1).2=0)∧Ext H4 H') (fun i=>M.length-i) 0 ⟨rfl,trivial⟩ ⟨Nat.zero_le _,by(show ∀ x∈M.take 0,_;rw[List.take_zero];intro x hx;cases hx),Ext.refl _⟩ ?_
 rintro i H5 ⟨hi,hall,hx5⟩
 have hz5:=hx5.size
 by_cases hlt:i<M.length
 ·obtain⟨x,hx⟩: ∃ x,M[i]? =some x:=⟨_,List.getElem?_eq_getElem hlt⟩
  have hxm:=List.mem_of_getElem? hx
  obtain⟨hx1l,hx2l⟩:=hMp x hxm
  have hcx:=fun H=>rclean_any x.1 (by omega) H
  by_cases hc:(cleanF x.1).2=0
  ·have hc':((cleanF x.1).2:Int)=0:=by omega
   ((conv=>whnf);repeat(any_goals((first|(refine IdxA.file (hrf.ext hx5) rfl i x rfl hx ?_;intro bi oi ai ci hri hci;have hc0:=hci 0 _ rfl)|(refine(hcx _).mono ?_;rintro _ H6 ⟨rfl,hx6⟩;have hz6:=hx6.size)|refine Vc.stp ?_|refine Vc.spl ?_ ?_)<;>(intros;(conv=>whnf)))))
   refine⟨i+1,⟨rfl,trivial⟩,⟨by omega,?_,hx5.trans hx6⟩,by omega⟩
   rw[List.take_add_one,hx]
   intro y hy
   rcases List.mem_append.1 hy with hy|hy
   ·exact hall y hy
   ·rw[List.mem_singleton.1 hy];exact hc
  ·have hc': ¬((cleanF x.1).2:Int)=0:=by omega
   ((conv=>whnf);repeat(any_goals((first|(refine IdxA.file (hrf.ext hx5) rfl i x rfl hx ?_;intro bi oi ai ci hri hci;have hc0:=hci 0 _ rfl)|(refine(hcx _).mono ?_;rintro _ H6 ⟨rfl,hx6⟩;have hz6:=hx6.size)|refine Vc.stp ?_|refine Vc.spl ?_ ?_)<;>(intros;(conv=>whnf)))))
   rw[if_pos (hbad x hxm hc)]
   exact DidR.none h ((hx04.trans hx5).trans hx6) _
 ·obtain rfl:i=M.length:=by omega
  rw[if_neg (by rw[hgood _ rfl hall];simp)]
  clear hcl hct hap haq hwi hah hcp hgood hbad hall
  have hx05:Ext H H5:=hx04.trans hx5
  have h5:=h.ext hx05
  have hsz:=rsize_any h5 (by omega) (by omega)
  obtain⟨ta,tcap,htb,htr⟩:=h5.out
  have hrf5:=hrf.ext hx5
  have hlr5:=(ho3.row.ext hx4).ext hx5
  have hloop: ∀ (B:Tr) (H6:Heap),RTree H6 b B→B.length≤600→RowF H6 a4 M→But b H5 H6→ ∀ i H',i≤M.length→RTree H' b (putsF B (M.take i))→But b H6 H'→RowF H' a4 M∧(∀ x,M[i]? =some x→ ∀ fa fc H'',Row H'' fa (strV x.2.2)→Ext H' H''→CallH Tryz.prog 81 [.pointer (some ⟨b,0,none⟩),.agg #[.string (mkS x.1),.bool x.2.1,.slice fa x.2.2.length fc]] H'' fun v H3=>v= .tuple #[]∧RTree H3 b (putsF B (M.take (i+1)))∧But b H'' H3):=by
   intro B H6 ht6 hB hrf6 hx6 i H' hi ht' hx'
   refine⟨hrf6.keep hx' fun x e _=>by subst e;exact ht6.dumb,fun x hx fa fc H'' hra hx2=> ?_⟩
   have hl:=puts_le (M.take i) B
   rw[List.length_take]at hl
   have:=rput_any (ht'.ext hx2) x.1 x.2 fa fc hra (by omega)
   refine this.mono ?_
   rintro v H3 ⟨rfl,ht3,hx3⟩
   refine⟨rfl,?_,hx3⟩
   rw[List.take_add_one,hx]
   show RTree H3 b (putsF B (M.take i++[x]))
   rw[puts_snocR];exact ht3
  cases stays with
  |false=>
   simp only[Bool.false_eq_true,if_false,Nat.add_zero]
   by_cases hsp:500<A.length+(lackF A q).length
   ·rw[if_pos (.inl hsp)]
    ((conv=>whnf);repeat(any_goals((first|(refine hsz.mono ?_;rintro _ _ ⟨rfl,rfl⟩)|refine Vc.stp ?_|refine Vc.spl ?_ ?_)<;>(intros;(conv=>whnf)))))
    exact DidR.none h hx05 _
   ·rw[if_neg (by omega)]
    have hrem:removeF A p=(restF A p false,0):=by
     unfold removeF restF
     rw[hp.id,if_pos rfl,if_neg hpn,if_neg (by rw[hgp];simp)];rfl
    have hrl:(restF A p false).length≤A.length:=List.length_filter_le _ _
    ((conv=>whnf);repeat(any_goals((first|(refine hsz.mono ?_;rintro _ _ ⟨rfl,rfl⟩)|(refine(rremove_any h5 hA p (by omega)).mono ?_;rintro _ H6 hd6;(obtain rfl:=hd6.code);rw[hrem]at hd6;have ht6:=hd6.tree;have hx6:=hd6.only;clear hd6)|(refine(rmake_any ht6 (lackF A q) a3 _ c3 (hlr5.texts hx6 (fun x e _=>by subst e;exact h5.dumb)) rfl (by dsimp only;omega)).mono ?_;rintro _ H7 ⟨rfl,ht7,hx7⟩)|refine Vc.stp ?_|refine Vc.spl ?_ ?_)<;>(intros;(conv=>whnf)))))
    dsimp only at ht6 ht7
    have hx57:But b H5 H7:=hx6.trans hx7 fun _ _ e=>e
    have hr7:RowF H7 a4 M:=hrf5.keep hx57 fun x e _=>by subst e;exact h5.dumb
    obtain⟨B,hB⟩: ∃ B,makeF (restF A p false) (lackF A q)=B:=⟨_,rfl⟩
    have hBl:B.length≤600:=by have:=makeF_le (lackF A q) (restF A p false);rw[←hB];omega
    rw[hB]at ht7 ⊢
    (refine LoopH.intro (fun(i:Nat)=>[(21,.int .i64 i)]) (fun i H'=>i≤M.length∧RTree H' b (putsF B (M.take i))∧But b H7 H') (fun i=>M.length-i) 0 ⟨rfl,trivial⟩ ⟨Nat.zero_le _,ht7,Only.refl _ _⟩ ?_;rintro j H8 ⟨hj,ht8,hx8⟩;obtain⟨hr8,hpt⟩:=hloop B H7 ht7 hBl hr7 hx57 j H8 hj ht8 hx8;by_cases hlt2:j<M.length;(obtain⟨x,hx⟩: ∃ x,M[j]? =some x:=⟨_,List.getElem?_eq_getElem hlt2⟩);(have hpx:=hpt x hx);rotate_left;(obtain rfl:j=M.length:=by omega);rw[List.take_length]at ht8)
    ·((conv=>whnf);repeat(any_goals((first|refine Vc.stp ?_|refine Vc.spl ?_ ?_)<;>(intros;(conv=>whnf)))))
     exact⟨rfl,ht8,hx05.only.trans (hx57.trans hx8 fun _ _ e=>e) fun _ _ e=>e⟩
    ·((conv=>whnf);repeat(any_goals((first|(refine IdxA.file hr8 rfl j x rfl hx ?_;intro bi oi ai ci hri hci;have hc0:=hci 0 _ rfl)|((with_reducible apply SemH.load_file);(focus((exact hci)));(focus((exact Ext.refl _)));(focus((conv=>whnf))))|(refine(hpx ai ci _ hri (Ext.refl _)).mono ?_;rintro _ H9 ⟨rfl,ht9,hx9⟩)|refine Vc.stp ?_|refine Vc.spl ?_ ?_)<;>(intros;(conv=>whnf)))))
     exact⟨j+1,⟨rfl,trivial⟩,⟨by omega,ht9,hx8.trans hx9 fun _ _ e=>e⟩,by omega⟩
  |true=>
   simp only[if_true]
   ((conv=>whnf);repeat(any_goals((first|refine Vc.stp ?_|refine Vc.spl ?_ ?_)<;>(intros;(conv=>whnf)))))
   refine LoopH.intro (fun(i:Nat)=>[(20,.int .i64 i),(19,.int .i64 (sizeT (M.take i):Nat))]) (fun i H'=>H'=H5∧i≤M.length) (fun i=>M.length-i) 0 ⟨rfl,rfl,trivial⟩ ⟨rfl,Nat.zero_le _⟩ ?_
   rintro j _ ⟨rfl,hj⟩
   by_cases hlt2:j<M.length
   ·obtain⟨x,hx⟩: ∃ x,M[j]? =some x:=⟨_,List.getElem?_eq_getElem hlt2⟩
    have e1:sizeT (M.take (j+1))=sizeT (M.take j)+x.2.2.length:=by
     have:M.take (j+1)=M.take j++[x]:=by rw[List.take_add_one,hx];rfl
     rw[this];simp[sizeT,List.sum_append_nat]
    have e2:sizeT (M.take (j+1))≤sizeT M:=by
     conv=>rhs;rw[←List.take_append_drop (j+1) M]
     simp only[sizeT,List.map_append,List.sum_append_nat];exact Nat.le_add_right _ _
    ((conv=>whnf);repeat(any_goals((first|(refine IdxA.file hrf5 rfl j x rfl hx ?_;intro bi oi ai ci hri hci;have hc2:=hci 2 _ rfl)|refine Vc.stp ?_|refine Vc.spl ?_ ?_)<;>(intros;(conv=>whnf)))))
    exact⟨j+1,⟨rfl,by rw[e1];(show Value.int .i64 ((sizeT (M.take j):Int)+(x.2.2.length:Int))=_);congr 1,trivial⟩,⟨rfl,by omega⟩,by omega⟩
   ·obtain rfl:j=M.length:=by omega
    rw[List.take_length]
    by_cases hsp:500<A.length+((lackF A q).length+M.length)∨1048576<sizeT A+sizeT M
    ·rw[if_pos hsp]
     by_cases hs1:500<A.length+((lackF A q).length+M.length)
     ·((conv=>whnf);repeat(any_goals((first|(refine hsz.mono ?_;rintro _ _ ⟨rfl,rfl⟩)|refine Vc.stp ?_|refine Vc.spl ?_ ?_)<;>(intros;(conv=>whnf)))))
      exact DidR.none h hx05 _
     ·have hs2:1048576<sizeT A+sizeT M:=hsp.resolve_left hs1
      ((conv=>whnf);repeat(any_goals((first|(refine hsz.mono ?_;rintro _ _ ⟨rfl,rfl⟩)|refine Vc.stp ?_|refine Vc.spl ?_ ?_)<;>(intros;(conv=>whnf)))))
      exact DidR.none h hx05 _
    ·rw[if_neg hsp]
     rw[not_or]at hsp
     obtain⟨hs1,hs2⟩:=hsp
     ((conv=>whnf);repeat(any_goals((first|(refine hsz.mono ?_;rintro _ _ ⟨rfl,rfl⟩)|(refine(rmake_any h5 (lackF A q) a3 _ c3 hlr5 rfl (by omega)).mono ?_;rintro _ H7 ⟨rfl,ht7,hx57⟩)|refine Vc.stp ?_|refine Vc.spl ?_ ?_)<;>(intros;(conv=>whnf)))))
     have hr7:RowF H7 a4 M:=hrf5.keep hx57 fun x e _=>by subst e;exact h5.dumb
     have hre:restF A p true=A:=rfl
     rw[hre]
     obtain⟨B,hB⟩: ∃ B,makeF A (lackF A q)=B:=⟨_,rfl⟩
     have hBl:B.length≤600:=by have:=makeF_le (lackF A q) A;rw[←hB];omega
     rw[hB]at ht7 ⊢
     (refine LoopH.intro (fun(i:Nat)=>[(21,.int .i64 i)]) (fun i H'=>i≤M.length∧RTree H' b (putsF B (M.take i))∧But b H7 H') (fun i=>M.length-i) 0 ⟨rfl,trivial⟩ ⟨Nat.zero_le _,ht7,Only.refl _ _⟩ ?_;rintro j H8 ⟨hj,ht8,hx8⟩;obtain⟨hr8,hpt⟩:=hloop B H7 ht7 hBl hr7 hx57 j H8 hj ht8 hx8;by_cases hlt2:j<M.length;(obtain⟨x,hx⟩: ∃ x,M[j]? =some x:=⟨_,List.getElem?_eq_getElem hlt2⟩);(have hpx:=hpt x hx);rotate_left;(obtain rfl:j=M.length:=by omega);rw[List.take_length]at ht8)
     ·((conv=>whnf);repeat(any_goals((first|refine Vc.stp ?_|refine Vc.spl ?_ ?_)<;>(intros;(conv=>whnf)))))
      exact⟨rfl,ht8,hx05.only.trans (hx57.trans hx8 fun _ _ e=>e) fun _ _ e=>e⟩
     ·((conv=>whnf);repeat(any_goals((first|(refine IdxA.file hr8 rfl j x rfl hx ?_;intro bi oi ai ci hri hci;have hc0:=hci 0 _ rfl)|((with_reducible apply SemH.load_file);(focus((exact hci)));(focus((exact Ext.refl _)));(focus((conv=>whnf))))|(refine(hpx ai ci _ hri (Ext.refl _)).mono ?_;rintro _ H9 ⟨rfl,ht9,hx9⟩)|refine Vc.stp ?_|refine Vc.spl ?_ ?_)<;>(intros;(conv=>whnf)))))
      exact⟨j+1,⟨rfl,trivial⟩,⟨by omega,ht9,hx8.trans hx9 fun _ _ e=>e⟩,by omega⟩
end Go.Proofs.YtphkaogbcfdllaaGreatDoor
namespace Go.Vc
variable {P:Program} {H H':Heap}
theorem over_mem: ∀ (l:List Value) (c:Array Value) (o:Nat) (v:Value),v∈(over c o l).toList→v∈c.toList∨v∈l
 |[],c,o,v,h=> .inl h
 |x::l,c,o,v,h=>by
  rcases over_mem l _ _ v h with h|h
  ·rw[Array.toList_setIfInBounds]at h
   rcases List.mem_or_eq_of_mem_set h with h|h
   ·exact .inl h
   ·exact .inr (by simp[h])
  ·exact .inr (by simp[h])
structure AllQ (Q:Value→Prop) (H:Heap) (a:Option Addr):Prop where out: ∀ p,a=some p→ ∀ o v,hcell H ⟨p.block,o,none⟩=some v→Q v
theorem AllQ.none (Q:Value→Prop) (H:Heap):AllQ Q H none:=⟨fun p hp=>by cases hp⟩
theorem AllQ.keep {Q:Value→Prop} {F:Nat→Prop} {a:Option Addr} (h:AllQ Q H a) (k:Only F H H') (ha: ∀ p,a=some p→p.block<H.size∧ ¬F p.block):AllQ Q H' a:=⟨fun p hp o v hv=>by
 refine h.out p hp o v ?_
 unfold hcell at hv ⊢
 rw[k.same _ (ha p hp).1 (ha p hp).2]at hv;exact hv⟩
theorem AllQ.ext {Q:Value→Prop} {base:Nat} {e:TypeId} {size:Nat} {a:Option Addr} {n cap:Nat} {xs:List Value} (h:AllQ Q H a) (ho:Own H base e size a n cap xs) (k:Ext H H'):AllQ Q H' a:=h.keep k fun p hp=>⟨(ho.block p hp).2,id⟩
theorem hcell_cells {b o:Nat} {c:Array Value} {t:TypeId} {fr:Nat×Nat} {v:Value} (h:H[b]? =some (.cells c t fr)) (hv:hcell H ⟨b,o,none⟩=some v):v∈c.toList:=by
 unfold hcell at hv
 rw[h]at hv
 have hv:c[o]? =some v:=by simpa using hv
 rw[←Array.getElem?_toList]at hv
 exact List.mem_of_getElem? hv
theorem NextH.appendQ {Q:Value→Prop} {t u e ty:TypeId} {i:TypeInfo} {z:Value} {base:Nat} {a:Option Addr} {n cap:Nat} {xs:List Value} {x:Value} {m:Nat} {news:List Value} {cb:Array Bool} {K:Value→Heap→Prop}
  (ht:P.underlying t=some (.slice e)) (hu: ∃ d,P.underlying u=some d∧(∀ k,d≠ .int k)) (hi:P.info? e=some i) (hz:i.zero=some z) (hzs:z.cells.size=i.size) (hown:Own H base e i.size a n cap xs) (hsrc:Src P H x i.size m news)
  (h63:n+m≤maxLen) (hbytes:(n+m)*i.bytes≤140737488355328) (hbase:base≤H.size) (hall:AllQ Q H a) (hxq: ∀ v∈xs,Q v) (hnq: ∀ v∈news,Q v) (hzq: ∀ v∈z.cells.toList,Q v)
  (hk: ∀ a' cap' H',Own H' base e i.size a' (n+m) cap' (xs++news)→Wr a H H'→(∀ p,a'=some p→a'=a∨H.size≤p.block)→AllQ Q H' a'→K (.slice a' (n+m) cap') H'):
  NextH P (builtin .append #[t,u] ty cb #[.slice a n cap,x]) H K:=by
 refine⟨fun w hw=> ?_⟩
 obtain⟨d,hu,hd⟩:=hu
 have hzero:(match d with| .int _=>true|_=>false)=false:=by cases d<;>first|rfl|exact absurd rfl (hd _)
 have hsmall:n+m≤9223372036854775807:=by have:=h63;simp only[maxLen]at this;omega
 have hlen:(xs++news).length=(n+m)*i.size:=by rw[List.length_append,hown.len,hsrc.len,Nat.add_mul]
 have goal: ∀ {v w'},(Builtin.append_ #[t,u] ty #[.slice a n cap,x]).run P w= .ok v w'→Same w w'→K v w'.heap→Nexts P w K ((builtin .append #[t,u] ty cb #[.slice a n cap,x]).run P w):=by
  intro v w' hr hs hk
  simp only[builtin,Sem.run_bind,hr,Result.andThen_ok]
  exact⟨hs,hk⟩
 by_cases hroom:n+m≤cap
 ·rcases hown.out with ⟨ha,hn,hc⟩|⟨g,cur,ha,hb,hg,hnc,hmc,hcs,htake⟩
  ·have hm:m=0:=by omega
   subst ha hn hc hm
   have hnews:news=[]:=List.eq_nil_of_length_eq_zero (by rw[hsrc.len];simp)
   have hx:xs=[]:=List.eq_nil_of_length_eq_zero (by rw[hown.len];simp)
   subst hnews hx
   refine goal (v:= .slice none 0 0) (w':=w) ?_ (Same.refl w) ?_
   ·simp[Builtin.append_,underlying_of ht,underlying_of hu,sizeOf_of hi,hzero,hsrc.lenOf,hsrc.first w hw]
   ·rw[hw];exact hk none 0 H (Own.nil _ _ _ _) (Only.refl _ _) (fun p hp=>by cases hp) (AllQ.none _ _)
  ·subst ha
   obtain⟨fr,hg1,hg2⟩:=hg.out
   have hfit:n*i.size+news.length≤cur.size:=by rw[hsrc.len,hcs,←Nat.add_mul];exact Nat.mul_le_mul_right _ hroom
   obtain⟨w',hr,hs,_,hw'⟩:=run_storeCells (P:=P) g e fr news (n*i.size) 0 w cur (by rw[hw];exact hg1) hg2 hsrc.plain (by omega)
   refine goal (v:= .slice (some ⟨g,0,none⟩) (n+m) cap) (w':=w') ?_ hs ?_
   ·simp[Builtin.append_,underlying_of ht,underlying_of hu,sizeOf_of hi,hzero,hsrc.lenOf,hroom,hsrc.first w hw,addk,hr]
   ·rw[hw',hw]
    have hg':Blk (H.setIfInBounds g (.cells (over cur (n*i.size+0) news) e fr)) g (over cur (n*i.size) news) e:=
     ⟨fr,by rw[Array.getElem?_setIfInBounds_self_of_lt hg.lt];rfl,by rw[over_size];exact hg2⟩
    refine hk _ _ _ ⟨hlen,.inr ⟨g,_,rfl,hb,hg',hroom,hmc,by rw[over_size];exact hcs,?_⟩⟩ (Wr.of_but (Only.set _ _ _)) (fun p hp=> .inl rfl) ⟨fun p hp o v hv=> ?_⟩
    ·apply List.ext_getElem?
     intro j
     rw[List.getElem?_take,Array.getElem?_toList]
     rw[over_get _ _ _ _ hfit,←htake]
     have hlx:(cur.toList.take (n*i.size)).length=n*i.size:=by rw[htake];exact hown.len
     have hnm:(n+m)*i.size=n*i.size+news.length:=by rw[hsrc.len,Nat.add_mul]
     rw[hnm]
     by_cases hj:j<n*i.size
     ·rw[if_pos (by omega),if_neg (by omega),List.getElem?_append_left (by omega),List.getElem?_take,if_pos hj,Array.getElem?_toList]
     ·by_cases hj2:j<n*i.size+news.length
      ·rw[if_pos hj2,if_pos (by omega),List.getElem?_append_right (by omega),hlx]
      ·rw[if_neg hj2,List.getElem?_append_right (by omega),hlx,List.getElem?_eq_none (by omega)]
    ·cases hp
     obtain⟨fr2,hb2,_⟩:=hg'.out
     rcases over_mem _ _ _ _ (hcell_cells hb2 hv)with h|h
     ·obtain⟨o',ho'⟩:=List.mem_iff_getElem?.1 h
      exact hall.out _ rfl o' v (by rw[hg.cell];simpa using ho')
     ·exact hnq v h
 ·have hgrow:cap<n+m:=by omega
  have h63': ¬(9223372036854775807<((n:Int)+(m:Int))):=by omega
  have hfit:=growslice_fits hgrow hbytes
  have h48: ¬(281474976710656<Builtin.nextslicecap (n+m) cap*i.bytes):=by omega
  have hold: ∀ w':World,w'.heap=H→(Builtin.firstCells i.size n (.slice a n cap)).run P w'= .ok xs.toArray w':=fun w' hw'=>run_firstRow hown.row hown.len w' hw'
  have hge:n+m≤grownCap w (n+m) cap e:=grownCap_ge w (n+m) cap e
  have hcm:grownCap w (n+m) cap e≤maxLen:=grownCap_le_maxLen w (n+m) cap e h63
  refine goal (v:= .slice (some ⟨w.heap.size,0,none⟩) (n+m) (grownCap w (n+m) cap e))
   (w':=w.drew.alloc (.cells (xs.toArray++news.toArray++Builtin.zeroCells z.cells (grownCap w (n+m) cap e-(n+m))) e)) ?_ ⟨rfl,rfl,rfl⟩ ?_
  ·have e1:=hold w.drew hw
   have e2:=hsrc.first w.drew hw
   simp[Builtin.append_,underlying_of ht,underlying_of hu,sizeOf_of hi,typeInfo_of hi,hzero,hsrc.lenOf,hroom,h63',h48,Question.forced,e1,e2,zeroValue,hz,newRow,grownCap]
   congr 2
   apply Array.ext'
   simp[List.append_assoc]
  ·subst hw
   refine hk _ _ _ ⟨hlen,.inr ⟨w.heap.size,_,rfl,hbase,Blk.new (push_last _ _),hge,hcm,?_,?_⟩⟩ (Only.push _ _ _) (fun p hp=> .inr (by cases hp;exact Nat.le_refl _)) ⟨fun p hp o v hv=> ?_⟩
   ·simp only[Array.size_append,List.size_toArray,size_zeroCells,hzs,hown.len,hsrc.len,←Nat.add_mul]
    congr 1
    omega
   ·simp only[Array.toList_append,List.append_assoc]
    rw[←List.append_assoc,←hlen]
    exact List.take_left
   ·cases hp
    have:=hcell_cells (c:=xs.toArray++news.toArray++Builtin.zeroCells z.cells (grownCap w (n+m) cap e-(n+m))) (push_last _ _) hv
    simp only[Array.toList_append,List.mem_append]at this
    rcases this with (h|h)|h
    ·exact hxq v h
    ·exact hnq v h
    ·refine hzq v ?_
     unfold Builtin.zeroCells at h
     simp only[Array.toList_map,Array.toList_range,List.mem_map,List.mem_range]at h
     obtain⟨j,hj,rfl⟩:=h
     have hpos:0<z.cells.size:=by
      rcases Nat.eq_zero_or_pos z.cells.size with h0|h0
      ·rw[h0]at hj;simp at hj
      ·exact h0
     have hlt:=Nat.mod_lt j hpos
     rw[getElem!_pos z.cells (j % z.cells.size) hlt]
     exact Array.getElem_mem_toList hlt
def isStr:Value→Prop| .string _=>True|_=>False
end Go.Vc
namespace Go.Proofs.YtphkaogbcfdllaaGreatDoor
open Go Go.Vc Go.Scr Go.Pth Go.Tre
theorem RowF.strs {F:Nat→Prop} {H H':Heap} {a:Option Addr} {A:Tr} (h:RowF H a A) (k:Only F H H') (hF: ∀ b,F b→ ∀ o v,hcell H ⟨b,o,none⟩=some v→isStr v):RowF H' a A:=by
 obtain⟨vs,h1,h2⟩:=h.out
 have key: ∀ {A:Tr} {vs:List Value},FilesV H A vs→FilesV H' A vs:=by
  intro A vs h
  induction h with
  |nil=>exact .nil
  | @cons x A vs a cap hr _ ih=>
   refine .cons (hr.keep' k fun hne p hp hf=> ?_) ih
   obtain⟨b,o,ha,hlt,hc⟩:=hr.at (List.length_pos_iff.2 hne)
   rw[ha]at hp;cases hp
   have hl:0<x.2.2.length:=by rw[←strV_length];exact List.length_pos_iff.2 hne
   exact hF _ hf _ _ (hc 0 _ (strV_get hl))
 refine⟨vs,h1.keep' k fun hne p hp hf=> ?_,key h2⟩
 obtain⟨b,o,ha,hlt,hc⟩:=h1.at (List.length_pos_iff.2 hne)
 rw[ha]at hp;cases hp
 cases h2 with
 |nil=>exact hne rfl
 | @cons x A vs a cap hr _=>exact hF _ hf _ _ (hc 1 (.bool x.2.1) rfl)
theorem RTree.strs {F:Nat→Prop} {H H':Heap} {b:Nat} {A:Tr} (h:RTree H b A) (k:Only F H H') (hb: ¬F b) (hF: ∀ b,F b→ ∀ o v,hcell H ⟨b,o,none⟩=some v→isStr v):RTree H' b A:=by
 obtain⟨a,cap,h1,h2⟩:=h.out
 exact⟨a,cap,h1.keep k hb,h2.strs k hF⟩
end Go.Proofs.YtphkaogbcfdllaaGreatDoor
namespace Go.Proofs.YtphkaogbcfdllaaGreatDoor
open Go Go.Vc Go.Scr Go.Pth Go.Tre
theorem rrename_any {b:Nat} {A:Tr} {H:Heap} (h:RTree H b A) (hA:Okay A) (s t:Bs) (hsl:s.length≤100000000) (htl:t.length≤100000000):CallH Tryz.prog 126 [.pointer (some ⟨b,0,none⟩),.string (mkS s),.string (mkS t)] H fun v H'=>DidR H H' b v (Tre.twoF A s t false):=by
 have hp:=rtwo_any h hA s t hsl htl false
 refine Vc.CallH.body Tryz.func126 Tryz.call126 rfl (by decide+kernel) rfl ?_
 ((conv=>whnf);repeat(any_goals((first|(refine hp.mono ?_;rintro v2 H2 hd;obtain rfl:=hd.code)|refine Vc.stp ?_|refine Vc.spl ?_ ?_)<;>(intros;(conv=>whnf)))))
 exact hd
theorem rcopy_any {b:Nat} {A:Tr} {H:Heap} (h:RTree H b A) (hA:Okay A) (s t:Bs) (hsl:s.length≤100000000) (htl:t.length≤100000000):CallH Tryz.prog 125 [.pointer (some ⟨b,0,none⟩),.string (mkS s),.string (mkS t)] H fun v H'=>DidR H H' b v (Tre.twoF A s t true):=by
 have hp:=rtwo_any h hA s t hsl htl true
 refine Vc.CallH.body Tryz.func125 Tryz.call125 rfl (by decide+kernel) rfl ?_
 ((conv=>whnf);repeat(any_goals((first|(refine hp.mono ?_;rintro v2 H2 hd;obtain rfl:=hd.code)|refine Vc.stp ?_|refine Vc.spl ?_ ?_)<;>(intros;(conv=>whnf)))))
 exact hd
end Go.Proofs.YtphkaogbcfdllaaGreatDoor
