import Derived.Test.YtphkaogbcfdllaaGreatDoorKd
import Derived.Test.YtphkaogbcfdllaaGreatDoorKc
import Derived.Test.YtphkaogbcfdllaaGreatDoorRows
import Derived.KernelRfl
set_option linter.unusedVariables false
set_option linter.unusedSimpArgs false
set_option maxRecDepth 100000
/- Trees of files, plain: one path told under another. -/
namespace Go.cM
open Go.eg Go.cN
open Go.Vc (ck fk kX jX lf jy ka)
def eM (A:Tr) (p q:ap):Tr:=(A.filter fun x=>eL x.1 p).map fun x=>(q++x.1.drop p.length,x.2)
def yn (l:Tr):Bool:=l.any fun x=>(cF x.1).2 != 0
def kN (A:Tr) (l:Tr):Tr:=l.foldl (fun A x=>iu A x.1 x.2) A
def nR (A:Tr) (p:ap) (stays:Bool):Tr:=if stays=true then A else A.filter fun x=> !eL x.1 p
def As (A:Tr) (p q:ap) (stays:Bool):Tr×Nat:=
 if p≠ []/\ck A p=none then(A,52)
 else if p=[]\/eL q p=true then(A,54)
 else if q=[]\/(ck A q).isSome=true then(A,53)
 else if kG A q=true then(A,54)
 else if yn (eM A p q)=true then(A,50)
 else if 500<A.length+((dm A q).length+if stays=true then(eM A p q).length else 0)\/1048576<cQ A+(if stays=true then cQ (eM A p q)else 0)then(A,55)
 else(kN (gi (nR A p stays) (dm A q)) (eM A p q),0)
def kW (A:Tr) (s t:ap) (stays:Bool):Tr×Nat:=
 if(cF s).2=0 then(if(cF t).2=0 then As A (cF s).1 (cF t).1 stays else(A,(cF t).2))else(A,(cF s).2)
theorem Bo (k:ap): ∀ (l A:Tr),(l.map (·.1)).Nodup->ck (kN A l) k=match ck l k with
  |some n=>some n
  |none=>ck A k
 |[],A,_=>rfl
 |x::l,A,h=>by
  rw[dw,fV]at h;show ck (kN (iu A x.1 x.2) l) k=_;rw[Bo k l _ h.2,uC];simp only[ck];by_cases hk:k=x.1
  .have hn:ck l k=none:=by rw[ka,hk];exact h.1
   rw[hn,av hk,av hk]
  .rw[ak hk,ak hk]
theorem Bi: ∀ (l:Tr) {A:Tr},Sorted A->Sorted (kN A l)
 |[],_,h=>h
 |x::l,_,h=>Bi l (C9 h _ _)
theorem Nu: ∀ (l:Tr) {A:Tr},Sorted A->(l.map (·.1)).Nodup->(∀ x∈l,ck A x.1=none)->(kN A l).length=A.length+l.length/\cQ (kN A l)=cQ A+cQ l
 |[],_,_,_,_=>⟨rfl,rfl⟩
 |x::l,A,h,hn,hl=>by
  rw[dw,fV]at hn;have hx:=hl x (by simp);have e1: ∀ (y:ap×Node) (m:Tr),cQ (y::m)=y.2.2.length+cQ m:=fun y m=>by simp[cQ]
  have h1:=N2 h x.1 x.2;have h2:=JQ h x.1 x.2;rw[av hx]at h1;have h3:fL A x.1=0:=by unfold fL;rw[hx]
  obtain⟨g1,g2⟩:=Nu l (C9 h x.1 x.2) hn.2 fun y hy=>by
   rw[uC,ak fun e=>hn.1 (by rw[<-e];exact fE hy)];exact hl y (by simp[hy])
  show(kN (iu A x.1 x.2) l).length=_/\cQ (kN (iu A x.1 x.2) l)=_;rw[g1,g2,h1,e1,ay];omega
structure ai0 (A:Tr) (p q:ap):Prop where
 nodup:((eM A p q).map (·.1)).Nodup
 keys: ∀ x∈eM A p q,∃ k m r,p=glue k/\q=glue m/\uK (k++r)/\(∀ y∈m++r,jY y)/\x.1=glue (m++r)/\ck A (glue (k++r))=some x.2
theorem goes {A:Tr} (hA:dr A) {p q:ap} (hp:jk p) (hq:jk q) (lO:p≠ []) (mZ:q≠ []):ai0 A p q:=by
 obtain⟨k,rfl,hk⟩:=hp;obtain⟨m,rfl,hm⟩:=hq;have oH:k≠ []:=by rintro rfl;exact lO rfl
 have oI:m≠ []:=by rintro rfl;exact mZ rfl
 have key: ∀ y∈A,eL y.1 (glue k)=true-> ∃ r,y.1=glue (k++r)/\uK (k++r):=by
  intro y hy hw;obtain⟨⟨l,e,hl⟩,_⟩:=hA.clean y.1 y.2 (jy hA.sorted.nodup hy);rw[e]at hw;obtain⟨r,rfl⟩:=(eg.within_iff hl.good hk.good).1 hw;exact⟨r,e,hl⟩
 have gm: ∀ {r:List ap},uK (k++r)-> ∀ y∈m++r,jY y:=fun{r} h y hy=>(bZ.1 hy).elim (hm.good y) fun hy=>h.good y (by simp[hy]);refine⟨?_,fun x hx=> ?_⟩
 .unfold eM;rw[gV];unfold List.Nodup;rw[gJ];refine List.Pairwise.imp_of_mem ?_ (List.Pairwise.filter (fun x:ap×Node=>eL x.1 (glue k)) (gJ.1 hA.sorted.nodup));intro a b ha hb cz e;rw[bT]at ha hb;obtain⟨r,ea,rO⟩:=key a ha.1 ha.2;obtain⟨s,eb,qW⟩:=key b hb.1 hb.2;have e':glue m++a.1.drop (glue k).length=glue m++b.1.drop (glue k).length:=e;rw[ea,eb,JO oH oI,JO oH oI]at e';have:=List.append_cancel_left (uG (gm rO) (gm qW) e');exact cz (by rw[ea,eb,this])
 .unfold eM at hx;obtain⟨y,hy,rfl⟩:=bH.1 hx;rw[bT]at hy;obtain⟨r,ea,rO⟩:=key y hy.1 hy.2;refine⟨k,m,r,rfl,rfl,rO,gm rO,?_,?_⟩
  .show glue m++y.1.drop (glue k).length=_;rw[ea,JO oH oI]
  .rw[<-ea];exact jy hA.sorted.nodup hy.1
theorem SA {A:Tr} (hA:dr A) {m r:List ap} (hg: ∀ y∈m++r,jY y) (oI:m≠ []) (h:ck A (glue m)=none):ck A (glue (m++r))=none:=by
 by_cases hr:r=[]
 .subst hr;rw[dD];exact h
 .cases hx:ck A (glue (m++r))with
  |none=>rfl
  |some n=>
   have hd:glue m∈jm (glue (m++r)):=(n0 hg).2 ⟨m,gT _ _,oI,by rw[au];have:=bY.2 hr;omega,rfl⟩;obtain⟨t,ht⟩:=hA.above _ n hx _ hd;rw[h]at ht;cases ht
structure xZ (A:Tr) (p q:ap):Prop where
 lack: ∀ d∈dm A q,eL d p=false
 O9: ∀ x∈eM A p q,eL x.1 p=false
 fresh: ∀ x∈eM A p q,ck A x.1=none
 Pa: ∀ x∈eM A p q,x.1∉dm A q
theorem apart {A:Tr} (hA:dr A) {p q:ap} (hp:jk p) (hq:jk q) (lO:p≠ []) (mZ:q≠ []) (qA:ck A p≠none) (lE:ck A q=none) (hw:eL q p=false):xZ A p q:=by
 have hG:=goes hA hp hq lO mZ;obtain⟨k,rfl,hk⟩:=hp;obtain⟨m,rfl,hm⟩:=hq;have oH:k≠ []:=by rintro rfl;exact lO rfl
 have oI:m≠ []:=by rintro rfl;exact mZ rfl
 have nF: ¬k<+:m:=fun h=>by rw[(eg.within_iff hm.good hk.good).2 h]at hw;cases hw
 refine⟨fun d hd=> ?_,fun x hx=> ?_,fun x hx=> ?_,fun x hx hl=> ?_⟩
 .obtain⟨h1,_⟩:=tq hd;obtain⟨j,hj,_,_,rfl⟩:=(n0 hm.good).1 h1;cases sT:eL (glue j) (glue k)with
  |false=>rfl
  |true=>exact absurd (((eg.within_iff (zo hm hj).good hk.good).1 sT).trans hj) nF
 .obtain⟨k',m',r,ek,em,qB,pg,e,_⟩:=hG.keys x hx;have ai1: ∀ y∈k',jY y:=fun y hy=>qB.good y (by simp[hy]);have Gx: ∀ y∈m',jY y:=fun y hy=>pg y (by simp[hy]);have:=uG hk.good ai1 ek;subst this;have:=uG hm.good Gx em;subst this;cases sT:eL x.1 (glue k)with
  |false=>rfl
  |true=>
   rw[e]at sT;have h1:=(eg.within_iff pg hk.good).1 sT;rcases List.prefix_or_prefix_of_prefix h1 (gT m r)with h2|h2
   .exact absurd h2 nF
   .obtain⟨s,rfl⟩:=h2;exact absurd (SA hA hk.good oI lE) qA
 .obtain⟨k',m',r,ek,em,qB,pg,e,_⟩:=hG.keys x hx;have Gx: ∀ y∈m',jY y:=fun y hy=>pg y (by simp[hy]);have:=uG hm.good Gx em;subst this;rw[e];exact SA hA pg oI lE
 .obtain⟨k',m',r,ek,em,qB,pg,e,_⟩:=hG.keys x hx;have Gx: ∀ y∈m',jY y:=fun y hy=>pg y (by simp[hy]);have:=uG hm.good Gx em;subst this;obtain⟨j,hj,_,A1,e2⟩:=(n0 hm.good).1 (tq hl).1;rw[e]at e2;have:=uG pg (zo hm hj).good e2;have:=aZ List.length this;rw[au]at this;omega
end Go.cM
namespace Go.Vc
variable {P:Program} {H H':ae}
def rm:Value->Bool
 | .int .u8 _=>false
 | .string _=>false
 |_=>true
structure qQ (H:ae) (b:Nat):Prop where
 out: ∀ o v,hcell H ⟨b,o,none⟩=some v->rm v=true
theorem qQ.map {b:Nat} {l:List (Bs×Value)} (h:jb H b l):qQ H b:=⟨fun o v hv=>by
 obtain⟨_,_,h1,_⟩:=h.out;unfold hcell at hv;rw[h1]at hv;cases hv⟩
theorem qQ.cL {b:Nat} {c:Array Value} {t:TypeId} (h:bu H b c t) (hc: ∀ v∈c.toList,rm v=true):qQ H b:=⟨fun o v hv=>by
 rw[h.cell]at hv;exact hc v (by rw[<-dL]at hv;exact aU hv)⟩
theorem Row.bytes {F:Nat->Prop} {a:Option Addr} {l:List UInt8} (h:Row H a (cv l)) (k:cD F H H') (hF: ∀ b,F b->b<H.size->qQ H b):Row H' a (cv l):=h.vY k fun cz p hp hf=>by
 have rB:0<(cv l).length:=bY.2 cz;obtain⟨b,o,ha,ct,hc⟩:=h.at rB;rw[ha]at hp;cases hp;rw[ik]at rB;have h0:=hc 0 _ (xu rB);have:=(hF _ hf ct).out _ _ h0;cases this
theorem Row.texts {F:Nat->Prop} {a:Option Addr} {l:List Bs} (h:Row H a (strs l)) (k:cD F H H') (hF: ∀ b,F b->b<H.size->qQ H b):Row H' a (strs l):=h.vY k fun cz p hp hf=>by
 have rB:0<(strs l).length:=bY.2 cz;obtain⟨b,o,ha,ct,hc⟩:=h.at rB;rw[ha]at hp;cases hp;cases l with
 |nil=>exact cz rfl
 |cons x l=>
  have h0:=hc 0 (.string (ag x)) rfl;have:=(hF _ hf ct).out _ _ h0;cases this
end Go.Vc
namespace Go.Proofs.YtphkaogbcfdllaaGreatDoor
open Go Go.Vc Go.cN Go.eg Go.cM
variable {Z:Nat->Prop}
structure pL (H:ae) (b:Nat):Prop where
 mF:qQ H b
 nn: ∀ c,¬bu H b c 148
theorem pL.map {H:ae} {b:Nat} {l:List (Bs×Value)} (h:jb H b l):pL H b:=⟨.map h,fun _ k=>h.ne k rfl⟩
theorem pw {H:ae} {b:Nat} {c d:Array Value} {t u:TypeId} (h:bu H b c t) (k:bu H b d u):t=u/\c=d:=by
 obtain⟨_,h1,_⟩:=h.out;obtain⟨_,h2,_⟩:=k.out;rw[h1]at h2;simp only[dO,Obj.cells.injEq]at h2;exact⟨h2.2.1,h2.1⟩
theorem pL.cL {H:ae} {b:Nat} {c:Array Value} {t:TypeId} (h:bu H b c t) (hc: ∀ v∈c.toList,rm v=true) (ht:t≠148):pL H b:=⟨.cL h hc,fun _ k=>ht (pw h k).1⟩
abbrev no:Nat->Prop:=fun _=>False
structure iJ (Z:Nat->Prop) (H:ae) (v:Value) (n:cM.Node):Prop where
 out: ∃ g a cap,v= .pointer (some ⟨g,0,none⟩)/\bu H g #[.bool n.1,.slice a n.2.length cap] 148/\Row H a (cv n.2)
 tN: ∀ g a cap,v= .pointer (some ⟨g,0,none⟩)->bu H g #[.bool n.1,.slice a n.2.length cap] 148->n.2≠ []-> ∀ p,a=some p-> ¬Z p.block
theorem iJ.KI {Y F:Nat->Prop} {H H':ae} {v:Value} {n:cM.Node} (h:iJ Z H v n) (k:cD F H H') (hF: ∀ b,F b->b<H.size->(pL H b\/(Z b/\ ∀ c,¬bu H b c 148))) (hY: ∀ x,Y x->Z x\/H.size<=x):iJ Y H' v n:=by
 obtain⟨g,a,cap,h1,h2,h3⟩:=h.out;have hg: ¬F g:=fun hf=>by
  rcases hF _ hf h2.lt with e|e
  .exact e.nn _ h2
  .exact e.2 _ h2
 have LC:=h2.keep k hg;refine⟨⟨g,a,cap,h1,LC,h3.vY k fun cz p hp hf=> ?_⟩,fun g' a' cS e hb hn p hp=> ?_⟩
 .have rB:0<(cv n.2).length:=bY.2 cz;obtain⟨b,o,ha,ct,hc⟩:=h3.at rB;have CK:n.2≠ []:=fun e=>by rw[e]at rB;exact absurd rB (by decide)
  have hz:=h.tN g a cap h1 h2 CK p hp;rw[ha]at hp;cases hp;rcases hF _ hf ct with e|e
  .rw[ik]at rB;have:=e.mF.out _ _ (hc 0 _ (xu rB));cases this
  .exact hz e.1
 .rw[h1]at e;cases e;have:=(pw hb LC).2;simp only[Array.mk.injEq,iC,Value.slice.injEq,true_and,and_true]at this;rw[this.1]at hp;intro hy;rcases hY _ hy with e|e
  .exact h.tN g a cap h1 h2 hn p hp e
  .obtain⟨b,o,ha,ct,_⟩:=h3.at (by rw[ik];exact bY.2 hn);rw[ha]at hp;cases hp;exact absurd ct (by dsimp only at e;omega)
theorem iJ.keep {F:Nat->Prop} {H H':ae} {v:Value} {n:cM.Node} (h:iJ Z H v n) (k:cD F H H') (hF: ∀ b,F b->b<H.size->(pL H b\/(Z b/\ ∀ c,¬bu H b c 148))):iJ Z H' v n:=h.KI k hF fun _=> .inl
theorem iJ.ext {H H':ae} {v:Value} {n:cM.Node} (h:iJ Z H v n) (k:ax H H'):iJ Z H' v n:=h.keep k fun _ h=>h.elim
theorem iJ.Hu {H:ae} {g cap:Nat} {a:Option Addr} {n:cM.Node} (h2:bu H g #[.bool n.1,.slice a n.2.length cap] 148) (h3:Row H a (cv n.2)) (hz:n.2≠ []-> ∀ p,a=some p-> ¬Z p.block):iJ Z H (.pointer (some ⟨g,0,none⟩)) n:=⟨⟨g,a,cap,rfl,h2,h3⟩,fun g' a' cS e hb hn p hp=>by
 cases e;have:=(pw hb h2).2;simp only[Array.mk.injEq,iC,Value.slice.injEq,true_and,and_true]at this;rw[this.1]at hp;exact hz hn p hp⟩
structure jw (Z:Nat->Prop) (H:ae) (mb:Nat) (A:Tr):Prop where
 out: ∃ l,jb H mb l/\(∀ k,ck A k=none->ck l k=none)/\ ∀ k n,ck A k=some n-> ∃ v,ck l k=some v/\iJ Z H v n
structure iQ (Z:Nat->Prop) (H:ae) (b mb:Nat) (A:Tr):Prop where
 map:jw Z H mb A
 cL:bu H b #[.map (some mb),.int .i64 (cQ A)] 133
 low: ∀ x,Z x->x<H.size
theorem jw.jT {H:ae} {mb:Nat} {A:Tr} (h:jw Z H mb A):pL H mb:=let ⟨_,h,_⟩:=h.out;.map h
theorem jw.lt {H:ae} {mb:Nat} {A:Tr} (h:jw Z H mb A):mb<H.size:=let ⟨_,h,_⟩:=h.out;h.lt
theorem jw.ne {H:ae} {mb g:Nat} {A:Tr} {c:Array Value} {t:TypeId} (h:jw Z H mb A) (k:bu H g c t):mb≠g:=let ⟨_,h,_⟩:=h.out;h.ne k
theorem jw.KI {Y F:Nat->Prop} {H H':ae} {mb:Nat} {A:Tr} (h:jw Z H mb A) (k:cD F H H') (hm: ¬F mb) (hF: ∀ b,F b->b<H.size->(pL H b\/(Z b/\ ∀ c,¬bu H b c 148))) (hY: ∀ x,Y x->Z x\/H.size<=x):jw Y H' mb A:=by
 obtain⟨l,h1,h2,h3⟩:=h.out;exact⟨l,h1.keep k hm,h2,fun k' n hk=>let ⟨v,g1,g2⟩:=h3 k' n hk;⟨v,g1,g2.KI k hF hY⟩⟩
theorem jw.keep {F:Nat->Prop} {H H':ae} {mb:Nat} {A:Tr} (h:jw Z H mb A) (k:cD F H H') (hm: ¬F mb) (hF: ∀ b,F b->b<H.size->(pL H b\/(Z b/\ ∀ c,¬bu H b c 148))):jw Z H' mb A:=h.KI k hm hF fun _=> .inl
theorem jw.ext {H H':ae} {mb:Nat} {A:Tr} (h:jw Z H mb A) (k:ax H H'):jw Z H' mb A:=h.keep k id fun _ h=>h.elim
theorem acX (mb:Nat) (s:Int): ∀ v∈(#[.map (some mb),.int .i64 s]:Array Value).toList,rm v=true:=by simp[rm]
theorem Du {H:ae} {b mb:Nat} {s:Int} (h:bu H b #[.map (some mb),.int .i64 s] 133):pL H b:= .cL h (acX _ _) (by decide)
theorem iQ.jT {H:ae} {b mb:Nat} {A:Tr} (h:iQ Z H b mb A):pL H b:=Du h.cL
theorem iQ.keep {F:Nat->Prop} {H H':ae} {b mb:Nat} {A:Tr} (h:iQ Z H b mb A) (k:cD F H H') (hb: ¬F b) (hm: ¬F mb) (hF: ∀ b,F b->b<H.size->(pL H b\/(Z b/\ ∀ c,¬bu H b c 148))):iQ Z H' b mb A:=⟨h.map.keep k hm hF,h.cL.keep k hb,fun x hx=>dG (h.low x hx) k.size⟩
theorem iQ.ext {H H':ae} {b mb:Nat} {A:Tr} (h:iQ Z H b mb A) (k:ax H H'):iQ Z H' b mb A:=h.keep k id id fun _ h=>h.elim
abbrev B9 (b mb:Nat) (H H':ae):Prop:=cD (fun x=>x=b\/x=mb) H H'
theorem jw.put {H H':ae} {mb:Nat} {A:Tr} {l:List (Bs×Value)} {k:Bs} {v:Value} {n:cM.Node} (h1:jb H mb l) (h2: ∀ k,ck A k=none->ck l k=none) (h3: ∀ k n,ck A k=some n-> ∃ v,ck l k=some v/\iJ Z H v n) (hv:iJ Z H v n) (h4:jb H' mb (fk l k v)) (hx:fw mb H H'):jw Z H' mb (iu A k n):=by
 have ho: ∀ b,b=mb->b<H.size->(pL H b\/(Z b/\ ∀ c,¬bu H b c 148)):=fun b e _=>by subst e;exact .inl (.map h1)
 refine⟨_,h4,fun k' iK=> ?_,fun k' m iK=> ?_⟩
 .rw[uC]at iK;rw[jX];split at iK
  .cases iK
  .rename_i cz;rw[ak cz];exact h2 _ iK
 .rw[uC]at iK;rw[jX];split at iK
  .rename_i e;rw[av e];cases iK;exact⟨v,rfl,hv.keep hx ho⟩
  .rename_i cz;rw[ak cz];obtain⟨u,g1,g2⟩:=h3 _ _ iK;exact⟨u,g1,g2.keep hx ho⟩
theorem N4 {P:Program} {H:ae} {t kt et:TypeId} {i:TypeInfo} {z:Value} {mb:Nat} {A:Tr} {k:Bs} {K:Value->ae->Prop} (hm:jw Z H mb A) (hA:ck A k=none) (ht:P.underlying t=some (.map kt et)) (hk:P.underlying kt=some .string)
  (hi:P.info? et=some i) (hz:i.zero=some z) (h:K z H):aE P (Instr.lookup t (.map (some mb)) (.string (ag k)) false) H K:=by
 obtain⟨l,h1,h2,h3⟩:=hm.out;refine aE.n9 h1 ht hk hi hz ?_;rw[h2 k hA];exact h
theorem FG {P:Program} {H:ae} {t kt et:TypeId} {i:TypeInfo} {z:Value} {mb:Nat} {A:Tr} {k:Bs} {n:cM.Node} {K:Value->ae->Prop} (hm:jw Z H mb A) (hA:ck A k=some n) (ht:P.underlying t=some (.map kt et)) (hk:P.underlying kt=some .string)
  (hi:P.info? et=some i) (hz:i.zero=some z) (h: ∀ g a cap,bu H g #[.bool n.1,.slice a n.2.length cap] 148->Row H a (cv n.2)->K (.pointer (some ⟨g,0,none⟩)) H):aE P (Instr.lookup t (.map (some mb)) (.string (ag k)) false) H K:=by
 obtain⟨l,h1,h2,h3⟩:=hm.out;refine aE.n9 h1 ht hk hi hz ?_;obtain⟨v,g1,g2⟩:=h3 k n hA;obtain⟨g,a,cap,rfl,g3,g4⟩:=g2.out;rw[g1];exact h g a cap g3 g4
theorem T6 {P:Program} {H:ae} {t kt et:TypeId} {i:TypeInfo} {z:Value} {mb:Nat} {A:Tr} {k:Bs} {n:cM.Node} {K:Value->ae->Prop} (hm:jw Z H mb A) (hA:ck A k=some n) (ht:P.underlying t=some (.map kt et)) (hk:P.underlying kt=some .string)
  (hi:P.info? et=some i) (hz:i.zero=some z) (h: ∀ v,iJ Z H v n->K v H):aE P (Instr.lookup t (.map (some mb)) (.string (ag k)) false) H K:=by
 obtain⟨l,h1,h2,h3⟩:=hm.out;refine aE.n9 h1 ht hk hi hz ?_;obtain⟨v,g1,g2⟩:=h3 k n hA;rw[g1];exact h v g2
theorem FU {P:Program} {H:ae} {t kt et:TypeId} {mb:Nat} {A:Tr} {k:Bs} {v:Value} {n:cM.Node} {K:ae->Prop} (hm:jw Z H mb A) (hv:iJ Z H v n) (ht:P.underlying t=some (.map kt et)) (hk:P.underlying kt=some .string)
  (h: ∀ H',H'.size=H.size->jw Z H' mb (iu A k n)->fw mb H H'->K H'):dc P (Instr.mapUpdate t (.map (some mb)) (.string (ag k)) v) H K:=by
 obtain⟨l,h1,h2,h3⟩:=hm.out;exact dc.p9 h1 ht hk fun H' hz h4 hx=>h H' hz (jw.put h1 h2 h3 hv h4 hx) hx
def K9 (A:Tr) (k:ap):Tr:=A.filter fun x=> !(x.1==k)
theorem Te (A:Tr) (k k':ap):ck (K9 A k) k'=if k'=k then none else ck A k':=by
 unfold K9;rw[Fh (fun x=> !(x==k))];by_cases h:k'=k<;>simp[h]
theorem agf {P:Program} {H:ae} {t u kt et ty:TypeId} {cb:Array Bool} {mb:Nat} {A:Tr} {k:Bs} {K:Value->ae->Prop} (hm:jw Z H mb A) (ht:P.underlying t=some (.map kt et)) (hk:P.underlying kt=some .string)
  (h: ∀ H',H'.size=H.size->jw Z H' mb (K9 A k)->fw mb H H'->K (.tuple #[]) H'):cP P (builtin .delete #[t,u] ty cb #[.map (some mb),.string (ag k)]) H K:=by
 obtain⟨l,h1,h2,h3⟩:=hm.out;refine cP.acT h1 ht hk fun H' hz h4 hx=>h H' hz ⟨_,h4,fun k' iK=> ?_,fun k' m iK=> ?_⟩ hx
 .rw[Te]at iK;rw[T4 h1.nodup];split at iK
  .rename_i e;rw[av e]
  .rename_i cz;rw[ak cz];exact h2 _ iK
 .rw[Te]at iK;rw[T4 h1.nodup];split at iK
  .cases iK
  .rename_i cz;rw[ak cz];obtain⟨w,g1,g2⟩:=h3 _ _ iK;exact⟨w,g1,g2.keep hx fun b e _=>by subst e;exact .inl (.map h1)⟩
theorem jw.len {H:ae} {mb:Nat} {A:Tr} {l:List (Bs×Value)} (hA:(A.map (·.1)).Nodup) (h1:jb H mb l) (h2: ∀ k,ck A k=none->ck l k=none) (h3: ∀ k n,ck A k=some n-> ∃ v,ck l k=some v/\iJ Z H v n):A.length=l.length:=
 aeD hA h1.nodup fun k=>⟨h2 k,fun h=>by
  cases hg:ck A k with
  |none=>rfl
  |some n=>obtain⟨v,g,_⟩:=h3 k n hg;rw[h]at g;cases g⟩
theorem Oy {P:Program} {H:ae} {t kt et ty:TypeId} {ts:Array TypeId} {mb:Nat} {A:Tr} {K:Value->ae->Prop} (hm:jw Z H mb A) (hA:Sorted A) (h0:ts[0]? =some t) (ht:P.underlying t=some (.map kt et))
  (h:K (.int .i64 A.length) H):aE P (Builtin.len_ ts ty #[.map (some mb)]) H K:=by
 obtain⟨l,h1,h2,h3⟩:=hm.out;refine aE.ahr h1 h0 ht ?_;rw[<-jw.len hA.nodup h1 h2 h3];exact h
def AtV (Z:Nat->Prop) (H:ae) (v:Value):Option cM.Node->Prop
 |none=>v= .pointer none
 |some n=>iJ Z H v n
def nodeAt (A:Tr) (p:ap):Option cM.Node:=if p=[]then some (true,[])else ck A p
end Go.Proofs.YtphkaogbcfdllaaGreatDoor
namespace Go.Proofs.YtphkaogbcfdllaaGreatDoor
open Go Go.Vc Go.cN
theorem Kj (c:UInt8):gR c=(c.toNat==32 || c.toNat==9):=by
 unfold gR;have h: ∀ d:UInt8,(c==d)=(c.toNat==d.toNat):=fun d=>by
  rw[dI,bU,bU];exact⟨fun e=>by rw[e],dJ.1⟩
 rw[h,h];rfl
theorem Wa {c:UInt8} (h:c.toNat=32\/c.toNat=9):gR c=true:=by rw[Kj];rcases h with h|h<;>rw[h]<;>rfl
theorem Wb {c:UInt8} (h1:c.toNat≠32) (h2:c.toNat≠9):gR c=false:=by rw[Kj];simp[h1,h2]
theorem Bq (c:UInt8) (H:ae):az Tryz.prog 233 [.int .u8 c.toNat] H fun v H'=>v= .bool (gR c)/\H=H':=by
 refine Vc.az.body Tryz.func233 Tryz.call233 rfl (by decide+kernel) rfl ?_;((conv=>whnf);repeat(any_goals((first|refine Vc.aq ?_|refine Vc.bz ?_ ?_)<;>(intros;(conv=>whnf)))))
 .exact⟨by rw[Wa (.inl (by omega))];rfl,rfl⟩
 .refine⟨?_,rfl⟩;show Value.bool _=Value.bool _;rw[Kj];rename_i h;have:(c.toNat==32)=false:=by rw[bK];omega
  rw[this,Bool.false_or];congr 1;rw[dI,bU,bU];omega
theorem T7 (c:Int) (H:ae):az Tryz.prog 235 [.int .i32 c] H fun v H'=>v= .bool (c==32 || c==9)/\H=H':=by
 refine Vc.az.body Tryz.func235 Tryz.call235 rfl (by decide+kernel) rfl ?_;((conv=>whnf);repeat(any_goals((first|refine Vc.aq ?_|refine Vc.bz ?_ ?_)<;>(intros;(conv=>whnf)))))
 .rename_i h;subst h;exact⟨rfl,rfl⟩
 .rename_i h;refine⟨?_,rfl⟩;have:(c==32)=false:=by rw[bK];exact h
  rw[this];rfl
def j2 (l:Bs):Nat:=(l.takeWhile fun x=> !gR x).length
theorem Kk: ∀ l:Bs,j2 l<=l.length
 |[]=>aB _
 |c::t=>by
  unfold j2;rw[eP];split
  .have:=Kk t;unfold j2 at this;simp only[ay];omega
  .simp
theorem U6: ∀ (l:Bs) (j:Nat),j<j2 l->gR (l.getD j 0)=false
 |[],j,h=>by simp[j2]at h
 |c::t,j,h=>by
  unfold j2 at h;rw[eP]at h;split at h
  .rename_i hc;cases j with
   |zero=>simpa using hc
   |succ j=>exact U6 t j (by simpa [j2]using h)
  .simp at h
theorem Oz: ∀ (l:Bs),j2 l<l.length->gR (l.getD (j2 l) 0)=true
 |[],h=>by simp at h
 |c::t,h=>by
  unfold j2 at h ⊢;rw[eP]at h ⊢;split
  .rename_i hc;rw[av hc]at h;have:=Oz t (by simp only[ay]at h;unfold j2;omega);simpa [j2]using this
  .rename_i hc;simpa using hc
theorem acY {l:Bs} {p:Nat} (h1: ∀ j,j<p->gR (l.getD j 0)=false) (h2:p<l.length) (h3:gR (l.getD p 0)=true):j2 l=p:=by
 have hle:=Kk l;rcases Nat.lt_trichotomy (j2 l) p with h|h|h
 .have:=Oz l (by omega);rw[h1 _ h]at this;cases this
 .exact h
 .have:=U6 l p h;rw[h3]at this;cases this
theorem aeE {l:Bs} (h1: ∀ j,j<l.length->gR (l.getD j 0)=false):j2 l=l.length:=by
 have hle:=Kk l;rcases bR (j2 l) l.length with h|h
 .have:=Oz l h;rw[h1 _ h]at this;cases this
 .omega
theorem aeF (l:Bs):l.takeWhile (fun x=> !gR x)=l.take (j2 l):=by
 unfold j2;exact(List.prefix_iff_eq_take.1 (List.takeWhile_prefix _))
theorem T8: ∀ l:Bs,l.dropWhile (fun x=> !gR x)=l.drop (j2 l)
 |[]=>rfl
 |c::t=>by
  unfold j2;rw[eP,gN];split
  .rw[T8 t];rfl
  .rfl
set_option maxHeartbeats 1000000 in
theorem aau (l:Bs) (hl:l.length<=4000000000000) (H:ae):az Tryz.prog 260 [.string (ag l),.func (.func 235) #[] #[],.bool true] H fun v H'=>v= .int .i64 (if j2 l<l.length then(j2 l:Int)else-1)/\ax H H':=by
 have ez:(ag l).size=l.length:=rfl;refine Vc.az.body Tryz.func260 Tryz.call260 rfl (by decide+kernel) rfl ?_;((conv=>whnf);repeat(any_goals(first|(refine Vc.cJ ?_;(conv=>whnf)))))
 refine aE.acI rfl ?_;intro H1 jr A2 cd;((conv=>whnf);repeat(any_goals(first|(refine Vc.cJ ?_;(conv=>whnf)))))
 refine dt.intro (fun(p:Nat)=>[]) (fun p H'=>p<=l.length/\(∀ j,j<p->gR (l.getD j 0)=false)/\Iter H' H.size (ag l) p/\ax H H') (fun p=>l.length-p) 0 trivial ⟨by omega,fun j h=>by omega,A2,cd⟩ ?_;rintro p H2 ⟨hp,je,sj,bh⟩;by_cases ct:p<l.length
 .have hr:=aay l p ct;obtain⟨⟨c,w⟩,hd⟩: ∃ x,Utf8.decode (ag l) p=x:=⟨_,rfl⟩;rw[hd]at hr;dsimp only at hr;obtain⟨CF,hle,rM,EB⟩:=hr;((conv=>whnf);repeat(any_goals(first|(refine Vc.cJ ?_;(conv=>whnf)))))
  refine aE.aeo sj (by omega) ?_;rw[hd];dsimp only;intro H3 nG hi3 bw;have e3:ax H H3:=bh.but bw (aB _);by_cases hc:c=32\/c=9
  .have hb:(((c:Int)==32 || (c:Int)==9)==true)=true:=by rcases hc with rfl|rfl<;>rfl
   ((conv=>whnf);repeat(any_goals(first|((refine(T7 _ _).mono ?_;rintro _ _ ⟨rfl,rfl⟩);(conv=>whnf))|((refine eN.pos hb ?_);(conv=>whnf))|(refine Vc.cJ ?_;(conv=>whnf)))))
   have qC:(l.getD p 0).toNat<128:=by
    rcases bR (l.getD p 0).toNat 128 with h|h
    .exact h
    .have:=(EB h).1;omega
   have EC:=(rM qC).1;have:j2 l=p:=acY je ct (Wa (by omega));rw[this,av ct];exact⟨rfl,e3⟩
  .have hb:(((c:Int)==32 || (c:Int)==9)==true)=false:=by
    have h1:((c:Int)==32)=false:=by rw[bK];omega
    have h2:((c:Int)==9)=false:=by rw[bK];omega
    rw[h1,h2];rfl
   ((conv=>whnf);repeat(any_goals(first|((refine(T7 _ _).mono ?_;rintro _ _ ⟨rfl,rfl⟩);(conv=>whnf))|((refine eN.neg hb ?_);(conv=>whnf))|(refine Vc.cJ ?_;(conv=>whnf)))))
   refine⟨p+w,aF,⟨hle,fun j hj=> ?_,hi3,e3⟩,by omega⟩;rcases bR j p with h|h
   .exact je j h
   .rcases bR (l.getD p 0).toNat 128 with h8|h8
    .obtain⟨e1,e2⟩:=rM h8;have:j=p:=by omega
     subst this;exact Wb (by omega) (by omega)
    .have:=(EB h8).2 j h hj;exact Wb (by omega) (by omega)
 ·((conv=>whnf);repeat(any_goals(first|(refine Vc.cJ ?_;(conv=>whnf)))))
  refine aE.aep sj (by omega) ?_;((conv=>whnf);repeat(any_goals(first|(refine Vc.cJ ?_;(conv=>whnf)))))
  have:j2 l=l.length:=aeE fun j hj=>je j (by omega);rw[this,ak (by omega)];exact⟨rfl,bh⟩
theorem aav (l:Bs) (hl:l.length<=4000000000000) (H:ae):az Tryz.prog 234 [.string (ag l),.func (.func 235) #[] #[]] H fun v H'=>v= .int .i64 (if j2 l<l.length then(j2 l:Int)else-1)/\ax H H':=by
 refine Vc.az.body Tryz.func234 Tryz.call234 rfl (by decide+kernel) rfl ?_;((conv=>whnf);repeat(any_goals(first|((refine(aau l hl _).mono ?_;rintro _ H1 ⟨rfl,cd⟩);(conv=>whnf))|(refine Vc.cJ ?_;(conv=>whnf)))))
 exact⟨rfl,cd⟩
def agh:Option (Bs×Bs)->Value
 |none=> .tuple #[.string (ag []),.string (ag []),.bool false]
 |some (w,r)=> .tuple #[.string (ag w),.string (ag r),.bool true]
set_option maxHeartbeats 2000000 in
theorem abJ (t:Bs) (hl:t.length<=1000000000) (H:ae):az Tryz.prog 236 [.string (ag (34::t))] H fun v H'=>v=agh (gS t)/\ax H H':=by
 obtain⟨L,hL⟩: ∃ L,34::t=L:=⟨_,rfl⟩;have yG:L.length=t.length+1:=by rw[<-hL];rfl
 have lZ:L.drop 1=t:=by rw[<-hL];rfl
 rw[hL];have ez:(ag L).size=L.length:=rfl;obtain⟨Q,hQ⟩: ∃ Q,gS t=Q:=⟨_,rfl⟩;rw[hQ];refine Vc.az.body Tryz.func236 Tryz.call236 rfl (by decide+kernel) rfl ?_;((conv=>whnf);repeat(any_goals(first|(refine Vc.cJ ?_;(conv=>whnf)))))
 refine dt.intro (fun(s:Nat×Bs×Option Addr×Nat)=>[(5,.slice s.2.2.1 s.2.1.length s.2.2.2),(6,.int .i64 s.1)]) (fun s H'=>1<=s.1/\s.1<=L.length/\s.2.1.length<=s.1/\cq H' H.size 5 1 s.2.2.1 s.2.1.length s.2.2.2 (cv s.2.1)/\ax H H'/\Q=(gS (L.drop s.1)).map fun p=>(s.2.1++p.1,p.2)) (fun s=>L.length-s.1) (1,[],none,0) ⟨rfl,rfl,aF⟩ ⟨aB _,by omega,aI _,cq.nil _ _ _ _,ax.refl _,by rw[<-hQ,lZ];show gS t=(gS t).map fun p=>([]++p.1,p.2);cases gS t<;>rfl⟩ ?_;rintro⟨i,acc,a,cap⟩ H2 ⟨h1,hi,ng,dy,bh,hinv⟩;dsimp only at h1 hi ng dy hinv ⊢;by_cases ct:i<L.length
 .obtain⟨c,hc,pM⟩:=pX ct;rw[pM]at hinv;unfold gS at hinv;by_cases ub:c=34
  .subst ub;rw[av rfl]at hinv;((conv=>whnf);repeat(any_goals((first|(refine db.nat i rfl (by omega) ?_;(conv=>whnf);rw[hc])|((with_reducible apply ml);rfl;rfl;rfl;(focus(exact dy.row));rfl)|(refine dk.nat (i+1) rfl (by omega) ?_)|refine Vc.aq ?_|refine Vc.bz ?_ ?_)<;>(intros;(conv=>whnf)))))
   rw[hinv];refine⟨?_,bh⟩;show Value.tuple #[.string (ag acc),.string ((ag L).extract (i+1) (ag L).size),.bool true]= .tuple #[.string (ag (acc++[])),.string (ag (L.drop (i+1))),.bool true];rw[nY,dD]
  .have n34:=vT 34 (by decide) ub;rw[ak ub]at hinv;by_cases G9:c=92
   .subst G9;rw[av rfl]at hinv;by_cases uV:i+1<L.length
    .obtain⟨d,hd,ai2⟩:=pX uV;rw[ai2]at hinv;dsimp only at hinv;by_cases HF:d=34\/d=92
     .rw[av HF]at hinv;have PE:d.toNat=34\/d.toNat=92:=by rcases HF with rfl|rfl<;>simp
      have DT:Q=(gS (L.drop (i+1+1))).map fun p=>((acc++[d])++p.1,p.2):=by rw[hinv];cases gS (L.drop (i+1+1))<;>simp
      rcases PE with PE|PE
      ·((conv=>whnf);repeat(any_goals((first|(refine db.nat i rfl (by omega) ?_;(conv=>whnf);rw[hc])|(refine db.nat (i+1) rfl (by omega) ?_;(conv=>whnf);rw[hd])|refine Vc.aq ?_|refine Vc.bz ?_ ?_)<;>(intros;(conv=>whnf)))))
       rename_i H3 nG fR bw a4 c4 H4 dE cH;exact⟨(i+1+1,acc++[d],a4,c4),⟨zA _ _ _ _,rfl,aF⟩,⟨by omega,by show i+1+1<=_;omega,by show(acc++[d]).length<=i+1+1;simp;omega,zn dE,cH,DT⟩,by show L.length-(i+1+1)<L.length-i;omega⟩
      ·((conv=>whnf);repeat(any_goals((first|(refine db.nat i rfl (by omega) ?_;(conv=>whnf);rw[hc])|(refine db.nat (i+1) rfl (by omega) ?_;(conv=>whnf);rw[hd])|refine Vc.aq ?_|refine Vc.bz ?_ ?_)<;>(intros;(conv=>whnf)))))
       rename_i H3 nG fR bw a4 c4 H4 dE cH;exact⟨(i+1+1,acc++[d],a4,c4),⟨zA _ _ _ _,rfl,aF⟩,⟨by omega,by show i+1+1<=_;omega,by show(acc++[d]).length<=i+1+1;simp;omega,zn dE,cH,DT⟩,by show L.length-(i+1+1)<L.length-i;omega⟩
     .rw[ak HF]at hinv;have m34:=vT 34 (by decide) fun e=>HF (.inl e);have m92:=vT 92 (by decide) fun e=>HF (.inr e);by_cases sR:d=110
      .subst sR;rw[av rfl]at hinv;have DT:Q=(gS (L.drop (i+1+1))).map fun p=>((acc++[10])++p.1,p.2):=by rw[hinv];cases gS (L.drop (i+1+1))<;>simp
       ((conv=>whnf);repeat(any_goals((first|(refine db.nat i rfl (by omega) ?_;(conv=>whnf);rw[hc])|(refine db.nat (i+1) rfl (by omega) ?_;(conv=>whnf);rw[hd])|refine Vc.aq ?_|refine Vc.bz ?_ ?_)<;>(intros;(conv=>whnf)))))
       rename_i H3 nG fR bw a4 c4 H4 dE cH;exact⟨(i+1+1,acc++[10],a4,c4),⟨zA _ _ _ _,rfl,aF⟩,⟨by omega,by show i+1+1<=_;omega,by show(acc++[10]).length<=i+1+1;simp;omega,zn dE,cH,DT⟩,by show L.length-(i+1+1)<L.length-i;omega⟩
      .have akK:=vT 110 (by decide) sR;rw[ak sR]at hinv;((conv=>whnf);repeat(any_goals((first|(refine db.nat i rfl (by omega) ?_;(conv=>whnf);rw[hc])|(refine db.nat (i+1) rfl (by omega) ?_;(conv=>whnf);rw[hd])|refine Vc.aq ?_|refine Vc.bz ?_ ?_)<;>(intros;(conv=>whnf)))))
       rw[hinv];exact⟨rfl,bh⟩
    .rw[aV (by omega)]at hinv;((conv=>whnf);repeat(any_goals((first|(refine db.nat i rfl (by omega) ?_;(conv=>whnf);rw[hc])|refine Vc.aq ?_|refine Vc.bz ?_ ?_)<;>(intros;(conv=>whnf)))))
     rw[hinv];exact⟨rfl,bh⟩
   .have n92:=vT 92 (by decide) G9;rw[ak G9]at hinv;have DT:Q=(gS (L.drop (i+1))).map fun p=>((acc++[c])++p.1,p.2):=by rw[hinv];cases gS (L.drop (i+1))<;>simp
    ((conv=>whnf);repeat(any_goals((first|(refine db.nat i rfl (by omega) ?_;(conv=>whnf);rw[hc])|refine Vc.aq ?_|refine Vc.bz ?_ ?_)<;>(intros;(conv=>whnf)))))
    rename_i H3 nG fR bw a4 c4 H4 dE cH;exact⟨(i+1,acc++[c],a4,c4),⟨zA _ _ _ _,rfl,aF⟩,⟨by omega,by show i+1<=_;omega,by show(acc++[c]).length<=i+1;simp;omega,zn dE,cH,DT⟩,by show L.length-(i+1)<L.length-i;omega⟩
 .rw[aV (by omega)]at hinv;((conv=>whnf);repeat(any_goals((first|refine Vc.aq ?_|refine Vc.bz ?_ ?_)<;>(intros;(conv=>whnf)))))
  rw[hinv];exact⟨rfl,bh⟩
def aht (H:ae) (base:Nat) (v:Value):Option (List Bs)->Prop
 |none=>v= .tuple #[.slice none 0 0,.bool false]
 |some ws=>∃ a cap,v= .tuple #[.slice a ws.length cap,.bool true]/\cq H base 9 1 a ws.length cap (strs ws)
theorem aeG {c:UInt8} {t:Bs} (h:gR c=false):c::t.takeWhile (fun x=> !gR x)=(c::t).take (j2 (c::t))/\t.dropWhile (fun x=> !gR x)=(c::t).drop (j2 (c::t))/\0<j2 (c::t):=by
 have e1:=aeF (c::t);have e2:=T8 (c::t);rw[eP,av (by rw[h];rfl)]at e1;rw[gN,av (by rw[h];rfl)]at e2;refine⟨e1,e2,?_⟩;have:=aZ List.length e1;simp only[ay,aJ]at this;omega
theorem Fc: ∀ (n:Nat) (l:Bs),l.length<=n-> ∀ {w r:Bs},gS l=some (w,r)->w.length<=l.length
 |_,[],_,_,_,h=>by simp[gS]at h
 |0,c::t,hn,_,_,_=>by simp at hn
 |n+1,c::t,hn,w,r,h=>by
  simp only[ay]at hn ⊢;unfold gS at h;split at h
  .cases h;simp
  .split at h
   .split at h
    .cases h
    .rename_i d u;simp only[ay]at hn ⊢;split at h
     .cases hq:gS u with
      |none=>rw[hq]at h;cases h
      |some p=>rw[hq]at h;cases h;have:=Fc n u (by omega) (w:=p.1) (r:=p.2) hq;simp;omega
     .split at h
      .cases hq:gS u with
       |none=>rw[hq]at h;cases h
       |some p=>rw[hq]at h;cases h;have:=Fc n u (by omega) (w:=p.1) (r:=p.2) hq;simp;omega
      .cases h
   .cases hq:gS t with
    |none=>rw[hq]at h;cases h
    |some p=>rw[hq]at h;cases h;have:=Fc n t (by omega) (w:=p.1) (r:=p.2) hq;simp;omega
structure WSt where
 r:Bs
 out:List Bs
 a:Option Addr
 cap:Nat
set_option maxHeartbeats 4000000 in
theorem acZ (s:Bs) (hl:s.length<=1000000000) (H:ae):az Tryz.prog 199 [.string (ag s)] H fun v H'=>aht H' H.size v (li s)/\ax H H':=by
 obtain⟨W,hW⟩: ∃ W,li s=W:=⟨_,rfl⟩;rw[hW];refine Vc.az.body Tryz.func199 Tryz.call199 rfl (by decide+kernel) rfl ?_;((conv=>whnf);repeat(any_goals(first|(refine Vc.cJ ?_;(conv=>whnf)))))
 refine dt.intro (fun(s:WSt)=>[(0,.string (ag s.r)),(4,.slice s.a s.out.length s.cap)]) (fun x H'=>x.out.length+x.r.length<=s.length/\cq H' H.size 9 1 x.a x.out.length x.cap (strs x.out)/\ax H H'/\W=(li x.r).map fun l=>x.out++l) (fun x=>x.r.length) ⟨s,[],none,0⟩ ⟨rfl,rfl,aF⟩ ⟨by simp,cq.nil _ _ _ _,ax.refl _,by rw[hW];cases W<;>rfl⟩ ?_;rintro⟨r,out,a,cap⟩ H2 ⟨hlen,dy,bh,hinv⟩;dsimp only at hlen dy hinv ⊢;cases r with
 |nil=>
  rw[M1]at hinv;((conv=>whnf);repeat(any_goals((first|refine Vc.aq ?_|refine Vc.bz ?_ ?_)<;>(intros;(conv=>whnf)))))
  rw[hinv];exact⟨⟨a,cap,by simp;rfl,by simpa using dy⟩,bh⟩
 |cons c t=>
  have cz:=xv c t;have iL:(ag (c::t)).data.toList.getD 0 0=c:=rfl;have ez:(ag (c::t)).size=t.length+1:=rfl;simp only[ay]at hlen;cases hb:gR c
  .by_cases ub:c=34
   .subst ub;rw[MH]at hinv;have hq:=fun H=>abJ t (by omega) H;cases ED:gS t with
    |none=>
     rw[ED]at hq hinv;((conv=>whnf);repeat(any_goals((first|(refine db.nat 0 rfl (by omega) ?_;(conv=>whnf);rw[iL])|(refine(Bq _ _).mono ?_;rintro _ _ ⟨rfl,rfl⟩)|(refine(hq _).mono ?_;rintro _ H3 ⟨rfl,bw⟩)|refine Vc.aq ?_|refine Vc.bz ?_ ?_)<;>(intros;(conv=>whnf)))))
     rw[hinv];exact⟨rfl,bh.trans bw⟩
    |some p=>
     obtain⟨w,q⟩:=p;have CL:=Bl _ t (aB _) ED;rw[ED]at hq hinv;dsimp only at hinv;have XG:(ag w).size=w.length:=rfl;have h1:(⟨#[34]⟩:ByteArray).size=1:=rfl;have ug:w.length<=1000000000:=by
      have:=Fc _ t (aB _) ED;omega
     cases q with
     |nil=>
      rw[ak (by simp),M1]at hinv;((conv=>whnf);repeat(any_goals((first|(refine db.nat 0 rfl (by omega) ?_;(conv=>whnf);rw[iL])|(refine(Bq _ _).mono ?_;rintro _ _ ⟨rfl,rfl⟩)|(refine(hq _).mono ?_;rintro _ H3 ⟨rfl,bw⟩)|refine Vc.aq ?_|refine Vc.bz ?_ ?_)<;>(intros;(conv=>whnf)))))
      rename_i H4 rN iX cH a5 c5 H5 eW cE;refine⟨⟨[],out++[34::w],a5,c5⟩,⟨rfl,uF _ _ _ _,aF⟩,⟨by show(out++[34::w]).length+0<=_;simp;omega,tp (kC [34] w) eW,cE,?_⟩,by show 0<t.length+1;omega⟩;rw[hinv,M1];simp
     |cons d u=>
      have ai3:=xv d u;have nh:(ag (d::u)).data.toList.getD 0 0=d:=rfl;have aiQ:(ag (d::u)).size=u.length+1:=rfl;simp only[ay]at CL;cases pG:gR d
      .rw[av (by simp[pG])]at hinv;((conv=>whnf);repeat(any_goals((first|(refine db.nat 0 rfl (by omega) ?_;(conv=>whnf);first|rw[iL]|rw[nh])|(refine(Bq _ _).mono ?_;rintro _ _ ⟨rfl,rfl⟩)|(refine(hq _).mono ?_;rintro _ H3 ⟨rfl,bw⟩)|refine Vc.aq ?_|refine Vc.bz ?_ ?_)<;>(intros;(conv=>whnf)))))
       all_goals(rw[hinv];exact⟨rfl,bh.trans bw⟩)
      .rw[ak (by simp[pG])]at hinv;((conv=>whnf);repeat(any_goals((first|(refine db.nat 0 rfl (by omega) ?_;(conv=>whnf);first|rw[iL]|rw[nh])|(refine(Bq _ _).mono ?_;rintro _ _ ⟨rfl,rfl⟩)|(refine(hq _).mono ?_;rintro _ H3 ⟨rfl,bw⟩)|refine Vc.aq ?_|refine Vc.bz ?_ ?_)<;>(intros;(conv=>whnf)))))
       rename_i H4 rN iX cH a5 c5 H5 eW cE;refine⟨⟨d::u,out++[34::w],a5,c5⟩,⟨rfl,uF _ _ _ _,aF⟩,⟨by show(out++[34::w]).length+(d::u).length<=_;simp;omega,tp (kC [34] w) eW,cE,?_⟩,by show(d::u).length<t.length+1;simp;omega⟩;rw[hinv];cases li (d::u)<;>simp
   .have n34:=vT 34 (by decide) ub;obtain⟨e1,e2,e3⟩:=aeG (t:=t) hb;rw[Ju hb ub,e1,e2]at hinv;have pK:=Kk (c::t);simp only[ay]at pK;have LD:=fun H=>aav (c::t) (by simp;omega) H;have hk:((c::t).drop (j2 (c::t))).length=t.length+1-j2 (c::t):=by simp
    by_cases sU:j2 (c::t)<(c::t).length
    .rw[av sU]at LD;generalize j2 (c::t)=n at*
     simp only[ay]at sU;((conv=>whnf);repeat(any_goals((first|(refine db.nat 0 rfl (by omega) ?_;(conv=>whnf);rw[iL])|(refine(Bq _ _).mono ?_;rintro _ _ ⟨rfl,rfl⟩)|(refine(LD _).mono ?_;rintro _ H3 ⟨rfl,bw⟩)|(refine dk.nat n rfl (by omega) ?_)|refine Vc.aq ?_|refine Vc.bz ?_ ?_)<;>(intros;(conv=>whnf)))))
     rename_i H4 rN iX cH a5 c5 H5 eW cE;refine⟨⟨(c::t).drop n,out++[(c::t).take n],a5,c5⟩,⟨by rw[nY];rfl,uF _ _ _ _,aF⟩,⟨by show(out++[_]).length+((c::t).drop n).length<=_;rw[hk];simp;omega,tp (nM _ _) eW,cE,?_⟩,by show((c::t).drop n).length<t.length+1;rw[hk];omega⟩;rw[hinv];cases li ((c::t).drop n)<;>simp
    .rw[ak sU]at LD;have hn:j2 (c::t)=t.length+1:=by simp only[ay]at sU;omega
     rw[hn]at hinv e3 hk;((conv=>whnf);repeat(any_goals((first|(refine db.nat 0 rfl (by omega) ?_;(conv=>whnf);rw[iL])|(refine(Bq _ _).mono ?_;rintro _ _ ⟨rfl,rfl⟩)|(refine(LD _).mono ?_;rintro _ H3 ⟨rfl,bw⟩)|(refine dk.nat (t.length+1) (by omega) (by omega) ?_)|refine Vc.aq ?_|refine Vc.bz ?_ ?_)<;>(intros;(conv=>whnf)))))
     rename_i H4 rN iX cH a5 c5 H5 eW cE;refine⟨⟨(c::t).drop (t.length+1),out++[(c::t).take (t.length+1)],a5,c5⟩,⟨by rw[<-nY];rfl,uF _ _ _ _,aF⟩,⟨by show(out++[_]).length+((c::t).drop (t.length+1)).length<=_;rw[hk];simp;omega,tp (nM _ _) eW,cE,?_⟩,by show((c::t).drop (t.length+1)).length<t.length+1;rw[hk];omega⟩;rw[hinv];cases li ((c::t).drop (t.length+1))<;>simp
  .rw[Jo hb]at hinv;((conv=>whnf);repeat(any_goals((first|(refine db.nat 0 rfl (by omega) ?_;(conv=>whnf);rw[iL])|(refine(Bq _ _).mono ?_;rintro _ _ ⟨rfl,rfl⟩)|(refine dk.nat 1 rfl (by omega) ?_)|refine Vc.aq ?_|refine Vc.bz ?_ ?_)<;>(intros;(conv=>whnf)))))
   exact⟨⟨t,out,a,cap⟩,⟨by rw[nY];rfl,rfl,aF⟩,⟨by show out.length+t.length<=_;omega,dy,bh,hinv⟩,by show t.length<t.length+1;omega⟩
def py (k:Int) (a b tx:Bs) (n:Int) (nt:Bool):Array Value:= #[.int .i64 k,.string (ag a),.string (ag b),.string (ag tx),.int .i64 n,.bool nt]
def qX (x:Ln):Array Value:=py x.k x.a x.b x.tx x.n x.nt
theorem abK (c:UInt8) (t:Bs):p8 (c::t)= !((c.toNat:Int)==34):=by
 unfold p8;rw[dI];simp only[List.head?_cons,dM,ne_eq,dO,Bool.not_eq_true',bK];constructor
 .intro h e;exact h (dJ.1 (by show c.toNat=34;omega))
 .intro h e;exact h (by rw[e];rfl)
theorem tt (w:Bs) (hw:w≠ []) (H:ae):az Tryz.prog 239 [.string (ag w)] H fun v H'=>v= .bool (p8 w)/\H=H':=by
 cases w with
 |nil=>exact absurd rfl hw
 |cons c t=>
  have ez:(ag (c::t)).size=t.length+1:=rfl;refine Vc.az.body Tryz.func239 Tryz.call239 rfl (by decide+kernel) rfl ?_;((conv=>whnf);repeat(any_goals((first|(refine db.nat 0 rfl (by omega) ?_)|refine Vc.aq ?_|refine Vc.bz ?_ ?_)<;>(intros;(conv=>whnf)))))
  exact⟨by rw[abK];rfl,rfl⟩
theorem Dv (w:Bs) (hw:w≠ []) (hl:w.length<=1000000000000) (H:ae):az Tryz.prog 240 [.string (ag w)] H fun v H'=>v= .tuple #[.string (ag w.tail),.bool (!p8 w)]/\H=H':=by
 have ez:(ag w).size=w.length:=rfl;have h0:0<w.length:=bY.2 hw;refine Vc.az.body Tryz.func240 Tryz.call240 rfl (by decide+kernel) rfl ?_;((conv=>whnf);repeat(any_goals((first|(refine dk.nat 1 rfl (by omega) ?_)|(refine(tt w hw _).mono ?_;rintro _ _ ⟨rfl,rfl⟩)|refine Vc.aq ?_|refine Vc.bz ?_ ?_)<;>(intros;(conv=>whnf)))))
 refine⟨?_,rfl⟩;show Value.tuple #[.string ((ag w).extract 1 (ag w).size),_]=_;rw[nY,List.drop_one]
def WL:Option Nat->Option Nat
 |none=>none
 |some n=>if n<=1000 then some n else none
theorem abL (w:Bs) (hl:w.length<=1000000000) (H:ae):az Tryz.prog 242 [.string (ag w)] H fun v H'=>(∃ n:Int,v= .tuple #[.int .i64 n,.bool (vN w).isSome]/\ ∀ m,vN w=some m->n=m)/\H=H':=by
 have ez:(ag w).size=w.length:=rfl;refine Vc.az.body Tryz.func242 Tryz.call242 rfl (by decide+kernel) rfl ?_;by_cases h9:9<w.length
 .have hn:vN w=none:=by unfold vN;rw[av h9]
  ((conv=>whnf);repeat(any_goals((first|refine Vc.aq ?_|refine Vc.bz ?_ ?_)<;>(intros;(conv=>whnf)))))
  rw[hn];exact⟨⟨0,rfl,fun m h=>by cases h⟩,rfl⟩
 .obtain⟨R,hR⟩: ∃ R,D6 0 w=R:=⟨_,rfl⟩;have qt:vN w=WL R:=by unfold vN;rw[ak h9,hR];cases R<;>rfl
  ((conv=>whnf);repeat(any_goals((first|refine Vc.aq ?_|refine Vc.bz ?_ ?_)<;>(intros;(conv=>whnf)))))
  refine dt.intro (fun(x:Nat×Nat)=>[(11,.int .i64 x.1),(4,.int .i64 x.2)]) (fun x H'=>H=H'/\x.1<=w.length/\x.2<10 ^ x.1/\R=D6 x.2 (w.drop x.1)) (fun x=>w.length-x.1) (0,0) ⟨rfl,rfl,aF⟩ ⟨rfl,aI _,by decide,hR.symm⟩ ?_;rintro⟨i,n⟩ _ ⟨rfl,hi,hn,hinv⟩;dsimp only at hi hn hinv ⊢;have hn9:n<1000000000:=dG hn (dh (gZ (by decide) (show i<=9 by omega)) (by decide));by_cases ct:i<w.length
  .obtain⟨c,hc,pM⟩:=pX ct;have wJ:=c.toNat_lt;rw[pM]at hinv;unfold D6 at hinv;by_cases WM:48<=c.toNat/\c.toNat<=57
   .rw[av WM]at hinv;((conv=>whnf);repeat(any_goals((first|(refine db.nat i rfl (by omega) ?_;(conv=>whnf);rw[hc])|refine Vc.aq ?_|refine Vc.bz ?_ ?_)<;>(intros;(conv=>whnf)))))
    refine⟨(i+1,10*n+(c.toNat-48)),⟨rfl,by show Value.int .i64 _=Value.int .i64 _;congr 1;omega,aF⟩,⟨rfl,by show i+1<=_;omega,?_,hinv⟩,by show w.length-(i+1)<w.length-i;omega⟩;show 10*n+(c.toNat-48)<10 ^ (i+1);rw[Nat.pow_succ];omega
   .rw[ak WM]at hinv;rw[hinv]at qt;by_cases vj:c.toNat<48
    ·((conv=>whnf);repeat(any_goals((first|(refine db.nat i rfl (by omega) ?_;(conv=>whnf);rw[hc])|refine Vc.aq ?_|refine Vc.bz ?_ ?_)<;>(intros;(conv=>whnf)))))
     rw[qt];exact⟨⟨0,rfl,fun m h=>(by cases h)⟩,rfl⟩
    ·((conv=>whnf);repeat(any_goals((first|(refine db.nat i rfl (by omega) ?_;(conv=>whnf);rw[hc])|refine Vc.aq ?_|refine Vc.bz ?_ ?_)<;>(intros;(conv=>whnf)))))
     rw[qt];exact⟨⟨0,rfl,fun m h=>(by cases h)⟩,rfl⟩
  .rw[aV (by omega)]at hinv;rw[hinv]at qt;rw[show WL (D6 n [])=if n<=1000 then some n else none from rfl]at qt;((conv=>whnf);repeat(any_goals((first|refine Vc.aq ?_|refine Vc.bz ?_ ?_)<;>(intros;(conv=>whnf)))))
   rw[qt];refine⟨⟨n,?_,?_⟩,rfl⟩
   .show Value.tuple #[_,.bool (decide ((n:Int)<=1000))]=_;by_cases h:n<=1000
    .rw[av h,bB (by omega)];rfl
    .rw[ak h,aN (by omega)];rfl
   .intro m hm;split at hm
    .cases hm;rfl
    .cases hm
theorem Tf (L:List Bs) (w:Bs) (a:Option Addr) (n cap:Nat) (H:ae) (hr:Row H a (strs L)) (hn:L.length=n) (hm:n<=1000000000):az Tryz.prog 237 [.slice a n cap,.string (ag w)] H fun v H'=>v= .int .i64 (if L.findIdx (· ==w)<n then(L.findIdx (· ==w):Int)else-1)/\H=H':=by
 obtain⟨F,hF⟩: ∃ F,L.findIdx (· ==w)=F:=⟨_,rfl⟩;rw[hF];refine Vc.az.body Tryz.func237 Tryz.call237 rfl (by decide+kernel) rfl ?_;((conv=>whnf);repeat(any_goals((first|refine Vc.aq ?_|refine Vc.bz ?_ ?_)<;>(intros;(conv=>whnf)))))
 refine dt.intro (fun(i:Nat)=>[(8,.int .i64 i)]) (fun i H'=>H=H'/\i<=n/\F=i+(L.drop i).findIdx (· ==w)) (fun i=>n-i) 0 ⟨rfl,aF⟩ ⟨rfl,aI _,by rw[<-hF];simp⟩ ?_;rintro i _ ⟨rfl,hi,hinv⟩;by_cases ct:i<n
 .have hd:L.drop i=L.getD i []::L.drop (i+1):=by
   rw[bP (by omega),aT,aD (by omega)];rfl
  rw[hd,List.findIdx_cons]at hinv;by_cases he:w=L.getD i []
  .have hq:(L.getD i []==w)=true:=by rw[bU];exact he.symm
   rw[hq]at hinv;dsimp only[cond_true]at hinv;have hs:((ag w).toList==(ag (L.getD i [])).toList)=true:=by rw[p5,aK,<-he]
   ((conv=>whnf);repeat(any_goals((first|(refine cm.PA hr hn i rfl ct ?_;intro _ _ _ _ _)|refine Vc.aq ?_|refine Vc.bz ?_ ?_)<;>(intros;(conv=>whnf)))))
   refine⟨?_,rfl⟩;rw[show F=i by omega,av ct];rfl
  .have hq:(L.getD i []==w)=false:=by rw[bK];exact fun e=>he e.symm
   rw[hq]at hinv;dsimp only[cond_false]at hinv;have hs:((ag w).toList==(ag (L.getD i [])).toList)=false:=by rw[p5,aY,p6];exact he
   ((conv=>whnf);repeat(any_goals((first|(refine cm.PA hr hn i rfl ct ?_;intro _ _ _ _ _)|refine Vc.aq ?_|refine Vc.bz ?_ ?_)<;>(intros;(conv=>whnf)))))
   exact⟨i+1,⟨rfl,aF⟩,⟨rfl,by omega,by omega⟩,by omega⟩
 .rw[aV (by omega)]at hinv;have h0:F=n:=by rw[hinv];simp;omega
  ((conv=>whnf);repeat(any_goals((first|refine Vc.aq ?_|refine Vc.bz ?_ ?_)<;>(intros;(conv=>whnf)))))
  rw[h0,ak (by omega)];exact⟨rfl,rfl⟩
theorem U7 (H:ae):az Tryz.prog 238 [] H fun v H'=>v= .slice (some ⟨H.size,0,none⟩) 12 12/\Row H' (some ⟨H.size,0,none⟩) (strs qv)/\ax H H':=by
 refine Vc.az.body Tryz.func238 Tryz.call238 rfl (by decide+kernel) rfl ?_;((conv=>whnf);repeat(any_goals(first|(refine Vc.cJ ?_;(conv=>whnf)))))
 refine aE.lit (vs:=[_,_,_,_,_,_,_,_,_,_,_,_]) rfl rfl rfl rfl rfl rfl rfl ?_;intro H1 jr eC cd;((conv=>whnf);repeat(any_goals(first|(refine Vc.cJ ?_;(conv=>whnf)))))
 exact⟨rfl,bu.row (c:=strs qv) eC,cd⟩
def sb (i:Nat):Array Value:=tab 256 fun j=> .bool (decide (j=32/\1<=i\/j=9/\2<=i))
theorem ac0:(sb 0).setIfInBounds 32 (.bool true)=sb 1:=FQ 256 _ _ 32 _ (by simp) (fun i hi cz=>by
 congr 1;rw[dI,aK,aK];omega)
theorem ac1:(sb 1).setIfInBounds 9 (.bool true)=sb 2:=FQ 256 _ _ 9 _ (by simp) (fun i hi cz=>by
 congr 1;rw[dI,aK,aK];omega)
theorem aeH (n:Nat) (h:n<256):(sb 2)[n]? =some (.bool (decide (n=32\/n=9))):=by
 unfold sb;rw[xy _ _ _ h];congr 2;rw[dI,aK,aK];omega
theorem abM (i:Nat): ∀ u∈(sb i).toList,jt u=true:=S8 _ _ fun _=>rfl
theorem Fw (i:Nat):(sb i).size=256:=nX _ _
set_option maxHeartbeats 2000000 in
theorem aaU (H:ae):az Tryz.prog 230 [.string (ag [32,9])] H fun v H'=>v= .tuple #[.agg (sb 2),.bool true]/\ax H H':=by
 have ez:(ag [32,9]).size=2:=rfl;refine Vc.az.body Tryz.func230 Tryz.call230 rfl (by decide+kernel) rfl ?_;((conv=>whnf);repeat(any_goals(first|(refine Vc.cJ ?_;(conv=>whnf)))))
 refine aE.alloc rfl rfl ?_;intro H1 jr eC cd;have hz:(Tryz.t339.zero.getD undef).cells=sb 0:=by kernel_rfl
 replace eC:bu H1 H.size (sb 0) 339:=by rw[<-hz];exact eC
 ((conv=>whnf);repeat(any_goals(first|(refine Vc.cJ ?_;(conv=>whnf)))))
 refine dt.intro (fun(i:Nat)=>[(4,.int .i64 i)]) (fun i H'=>i<=2/\bu H' H.size (sb i) 339/\ax H H') (fun i=>2-i) 0 ⟨rfl,aF⟩ ⟨aI _,eC,cd⟩ ?_;rintro i H2 ⟨hi,di,bh⟩;obtain rfl|rfl|rfl:i=0\/i=1\/i=2:=by omega
 .have h0:(ag [32,9]).data.toList.getD 0 0=32:=rfl;have sk:(32:UInt8).toNat=32:=rfl;((conv=>whnf);repeat(any_goals(first|((refine db.nat 0 rfl (by omega) ?_;(conv=>whnf);rw[h0,sk]);(conv=>whnf))|((refine db.nat 32 rfl (by decide) ?_);(conv=>whnf))|(refine Vc.cJ ?_;(conv=>whnf)))))
  refine dc.jB (o:=0+32) di rfl rfl rfl (by rw[Fw];decide) ?_;intro H3 nG fR bw;rw[aQ,ac0]at fR;((conv=>whnf);repeat(any_goals(first|(refine Vc.cJ ?_;(conv=>whnf)))))
  exact⟨1,⟨rfl,aF⟩,⟨by decide,fR,bh.but bw (aB _)⟩,by decide⟩
 .have h0:(ag [32,9]).data.toList.getD 1 0=9:=rfl;have h9:(9:UInt8).toNat=9:=rfl;((conv=>whnf);repeat(any_goals(first|((refine db.nat 1 rfl (by omega) ?_;(conv=>whnf);rw[h0,h9]);(conv=>whnf))|((refine db.nat 9 rfl (by decide) ?_);(conv=>whnf))|(refine Vc.cJ ?_;(conv=>whnf)))))
  refine dc.jB (o:=0+9) di rfl rfl rfl (by rw[Fw];decide) ?_;intro H3 nG fR bw;rw[aQ,ac1]at fR;((conv=>whnf);repeat(any_goals(first|(refine Vc.cJ ?_;(conv=>whnf)))))
  exact⟨2,⟨rfl,aF⟩,⟨by decide,fR,bh.but bw (aB _)⟩,by decide⟩
 ·((conv=>whnf);repeat(any_goals(first|(refine Vc.cJ ?_;(conv=>whnf)))))
  refine aE.rX di rfl rfl (by rw[Fw];rfl) ?_;((conv=>whnf);repeat(any_goals(first|(refine Vc.cJ ?_;(conv=>whnf)))))
  refine dc.pW di rfl (by rw[Fw];rfl) rfl (abM 2) ?_;intro H3 nG fR bw;((conv=>whnf);repeat(any_goals(first|(refine Vc.cJ ?_;(conv=>whnf)))))
  refine aE.rX fR rfl rfl (by rw[Fw];rfl) ?_;refine kM.mk ⟨rfl,?_⟩;((conv=>whnf);repeat(any_goals(first|(refine Vc.cJ ?_;(conv=>whnf)))))
  exact⟨rfl,bh.but bw (aB _)⟩
theorem agi (c:UInt8):decide (c.toNat=32\/c.toNat=9)=gR c:=by
 rw[Kj,dI,aK,dz,bU,bU]
theorem RL (c:UInt8) (g:Nat) (H:ae) (hb:bu H g (sb 2) 339):az Tryz.prog 257 [.pointer (some ⟨g,0,none⟩),.int .u8 c.toNat] H fun v H'=>v= .bool (gR c)/\H=H':=by
 have hc:=c.toNat_lt;refine Vc.az.body Tryz.func257 Tryz.call257 rfl (by decide+kernel) rfl ?_;((conv=>whnf);repeat(any_goals(first|((refine db.nat c.toNat rfl (by omega) ?_);(conv=>whnf))|(refine Vc.cJ ?_;(conv=>whnf)))))
 refine aE.mC hb rfl (by rw[aQ];exact aeH _ (by omega)) ?_;((conv=>whnf);repeat(any_goals(first|(refine Vc.cJ ?_;(conv=>whnf)))))
 exact⟨by rw[agi];rfl,rfl⟩
theorem ac2 (l:Bs) (hl:l.length<=1000000000) (g:Nat) (H:ae) (hb:bu H g (sb 2) 339):az Tryz.prog 231 [.string (ag l),.pointer (some ⟨g,0,none⟩)] H fun v H'=>v= .string (ag (l.dropWhile gR))/\H=H':=by
 obtain⟨D,hD⟩: ∃ D,l.dropWhile gR=D:=⟨_,rfl⟩;rw[hD];refine Vc.az.body Tryz.func231 Tryz.call231 rfl (by decide+kernel) rfl ?_;((conv=>whnf);repeat(any_goals(first|(refine Vc.cJ ?_;(conv=>whnf)))))
 refine dt.intro (fun(r:Bs)=>[(0,.string (ag r))]) (fun r H'=>H=H'/\r.length<=l.length/\r.dropWhile gR=D) (fun r=>r.length) l ⟨rfl,aF⟩ ⟨rfl,aB _,hD⟩ ?_;rintro r _ ⟨rfl,pK,hr⟩;cases r with
 |nil=>
  have ez:(ag []).size=0:=rfl;((conv=>whnf);repeat(any_goals((first|refine Vc.aq ?_|refine Vc.bz ?_ ?_)<;>(intros;(conv=>whnf)))))
  rw[<-hr];exact⟨rfl,rfl⟩
 |cons c t=>
  have ez:(ag (c::t)).size=t.length+1:=rfl;have iL:(ag (c::t)).data.toList.getD 0 0=c:=rfl;simp only[ay]at pK;rw[gN]at hr;cases CA:gR c
  .rw[CA,ak (by decide)]at hr;((conv=>whnf);repeat(any_goals((first|(refine db.nat 0 rfl (by omega) ?_;(conv=>whnf);rw[iL])|(refine(RL _ _ _ hb).mono ?_;rintro _ _ ⟨rfl,rfl⟩)|refine Vc.aq ?_|refine Vc.bz ?_ ?_)<;>(intros;(conv=>whnf)))))
   rw[<-hr];exact⟨rfl,rfl⟩
  .rw[CA,av rfl]at hr;((conv=>whnf);repeat(any_goals((first|(refine db.nat 0 rfl (by omega) ?_;(conv=>whnf);rw[iL])|(refine(RL _ _ _ hb).mono ?_;rintro _ _ ⟨rfl,rfl⟩)|(refine dk.nat 1 rfl (by omega) ?_)|refine Vc.aq ?_|refine Vc.bz ?_ ?_)<;>(intros;(conv=>whnf)))))
   exact⟨t,⟨by rw[nY];rfl,aF⟩,⟨rfl,by omega,hr⟩,by show t.length<t.length+1;omega⟩
theorem aaD (l:Bs) (hl:l.length<=1000000000) (H:ae):az Tryz.prog 198 [.string (ag l),.string (ag [32,9])] H fun v H'=>v= .string (ag (l.dropWhile gR))/\ax H H':=by
 have cz:=xv 32 [9];have ez:(ag [32,9]).size=2:=rfl;refine Vc.az.body Tryz.func198 Tryz.call198 rfl (by decide+kernel) rfl ?_;cases l with
 |nil=>
  ((conv=>whnf);repeat(any_goals((first|refine Vc.aq ?_|refine Vc.bz ?_ ?_)<;>(intros;(conv=>whnf)))))
  exact⟨rfl,ax.refl _⟩
 |cons c t=>
  have ai3:=xv c t;((conv=>whnf);repeat(any_goals((first|(refine(aaU _).mono ?_;rintro _ H1 ⟨rfl,cd⟩;have eR:=cd.size)|refine Vc.aq ?_)<;>(intros;(conv=>whnf)))))
  rename_i H2 sr di bh H3 nG fR bw;((conv=>whnf);repeat(any_goals((first|(refine(ac2 (c::t) hl _ _ fR).mono ?_;rintro _ _ ⟨rfl,rfl⟩)|refine Vc.aq ?_|refine Vc.bz ?_ ?_)<;>(intros;(conv=>whnf)))))
  exact⟨rfl,(cd.trans bh).but bw eR⟩
def kH (l:List Nat):List Value:=l.map fun(n:Nat)=>Value.int .i64 (n:Int)
theorem R4 (l:List Nat):(kH l).length=l.length:=by simp[kH]
theorem Jw (l m:List Nat):kH (l++m)=kH l++kH m:=by simp[kH]
def tN (g:Nat) (a:Option Addr) (x:Nat):Prop:=x=g\/ ∃ p,a=some p/\p.block=x
def Gh (H:ae) (a a':Option Addr):Prop:=∀ p,a'=some p->a'=a\/H.size<=p.block
structure A3 (H:ae) (base g:Nat) (o:List Nat) (a:Option Addr) (cap:Nat):Prop where
 cL:bu H g #[.slice a o.length cap] 298
 own:cq H base 3 1 a o.length cap (kH o)
 apart: ∀ p,a=some p->p.block≠g
 low:base<=g
theorem A3.ext {H H':ae} {base g:Nat} {o:List Nat} {a:Option Addr} {cap:Nat} (h:A3 H base g o a cap) (k:ax H H'):A3 H' base g o a cap:=⟨h.cL.ext k,h.own.ext k,h.apart,h.low⟩
set_option maxHeartbeats 4000000 in
theorem aeI {H:ae} {base g:Nat} {o:List Nat} {a:Option Addr} {cap k:Nat} (h:A3 H base g o a cap) (hl:o.length<=8) (VZ:base<=H.size):az Tryz.prog 201 [.pointer (some ⟨g,0,none⟩),.int .i64 k] H fun v H'=>v= .bool (mS o k).isSome/\(∀ o',mS o k=some o'-> ∃ a' cS,A3 H' base g o' a' cS/\Gh H a a')/\cD (tN g a) H H':=by
 have hb:=h.cL;refine Vc.az.body Tryz.func201 Tryz.call201 rfl (by decide+kernel) rfl ?_;by_cases su:k=7\/k=8
 .have ht:mS o k=if o.length=8 then none else some (o++[k]):=by unfold mS;rw[av su]
  by_cases h8:o.length=8
  .rw[ht,av h8];rcases su with rfl|rfl
   ·((conv=>whnf);repeat(any_goals((first|refine Vc.aq ?_|refine Vc.bz ?_ ?_)<;>(intros;(conv=>whnf)))))
    exact⟨rfl,fun _ h=>(by cases h),cD.refl _ _⟩
   ·((conv=>whnf);repeat(any_goals((first|refine Vc.aq ?_|refine Vc.bz ?_ ?_)<;>(intros;(conv=>whnf)))))
    exact⟨rfl,fun _ h=>(by cases h),cD.refl _ _⟩
  .rw[ht,ak h8];have jZ:=h.own;have app: ∀ {H1:ae} {g1:Nat} {ty:TypeId} {cb:Array Bool} {K:Value->ae->Prop},ax H H1->bu H1 g1 #[.int .i64 (k:Int)] 3->g1≠g->(∀ a' cS H',cq H' base 3 1 a' (o.length+1) cS (kH (o++[k]))->bu H' g #[.slice a o.length cap] 298->(∀ p,a'=some p->p.block≠g)->Gh H a a'->cD (tN g a) H H'->K (.slice a' (o.length+1) cS) H')->cP Tryz.prog (builtin .append #[125,125] ty cb #[.slice a o.length cap,.slice (some ⟨g1,0,none⟩) 1 1]) H1 K:=by
    intro H1 g1 ty cb K hx eC pb hk;have hg:=hb.lt;refine cP.append (i:=Tryz.t3) (z:= .int .i64 0) (base:=base) rfl ⟨_,rfl,fun _ h=>by cases h⟩ rfl rfl rfl (jZ.ext hx) (Src.row (c:=1) (bu.row (c:=[.int .i64 (k:Int)]) eC) rfl (by simp[jt])) (by unfold maxLen;omega) (by show(o.length+1)*8<=_;omega) (by have:=hx.size;omega) ?_;intro a' cS H' ho hw La;have hz:=hx.size;refine hk a' cS H' (by rw[Jw];exact ho) ((hb.ext hx).keep hw fun⟨p,hp,e⟩=>h.apart p hp e) (fun p hp e=> ?_) (fun p hp=>(La p hp).imp id fun h=>by omega) (cD.trans hx.only (hw.mono fun b h=> .inr h) fun _ _=>id);rcases La p hp with h1|h1
    .exact h.apart p (h1▸hp) e
    .omega
   have hg:=hb.lt;have fin: ∀ {H4 H5:ae} {a':Option Addr} {c':Nat},cq H4 base 3 1 a' (o.length+1) c' (kH (o++[k]))->(∀ p,a'=some p->p.block≠g)->Gh H a a'->cD (tN g a) H H4->bu H5 g #[.slice a' (o.length+1) c'] 298->fw g H4 H5->(∀ o',some (o++[k])=some o'-> ∃ a' cS,A3 H5 base g o' a' cS/\Gh H a a')/\cD (tN g a) H H5:=by
    intro H4 H5 a' c' ho jH hn hx im cE;refine⟨fun o' e=> ?_,hx.trans cE fun _ _ e=> .inl e⟩;cases e;exact⟨a',c',⟨by rw[au];exact im,by rw[au];exact ho.keep cE jH,jH,h.low⟩,hn⟩
   rcases su with rfl|rfl
   ·((conv=>whnf);repeat(any_goals((first|refine Vc.aq ?_)<;>(intros;(conv=>whnf)))))
    rename_i H1 jr eC cd;refine app cd eC (by omega) ?_;intro a' c' H4 dE iX jH hn cH;((conv=>whnf);repeat(any_goals((first|refine Vc.aq ?_)<;>(intros;(conv=>whnf)))))
    rename_i H5 qD im cE;exact⟨rfl,fin dE jH hn cH im cE⟩
   ·((conv=>whnf);repeat(any_goals((first|refine Vc.aq ?_)<;>(intros;(conv=>whnf)))))
    rename_i H1 jr eC cd;refine app cd eC (by omega) ?_;intro a' c' H4 dE iX jH hn cH;((conv=>whnf);repeat(any_goals((first|refine Vc.aq ?_)<;>(intros;(conv=>whnf)))))
    rename_i H5 qD im cE;exact⟨rfl,fin dE jH hn cH im cE⟩
 .have k7:k≠7:=fun e=>su (.inl e);have k8:k≠8:=fun e=>su (.inr e);by_cases k9:k=9
  .subst k9;have ht:mS o 9=if o.getLast? =some 7 then some (o.dropLast++[9])else none:=by unfold mS;rw[ak (by decide),av rfl]
   rw[ht];rcases List.eq_nil_or_concat o with rfl|⟨q,m,rfl⟩
   .have hz:([]:List Nat).length=0:=rfl;((conv=>whnf);repeat(any_goals((first|refine Vc.aq ?_)<;>(intros;(conv=>whnf)))))
    exact⟨rfl,fun _ h=>(by cases h),cD.refl _ _⟩
   .have oG:(q++[m]).length=q.length+1:=by simp
    have tH:(q++[m]).getLast? =some m:=by simp
    simp only[List.concat_eq_append]at h hl hb ht ⊢;rw[tH];obtain⟨gb,ha⟩: ∃ gb,a=some ⟨gb,0,none⟩:=by
     rcases h.own.out with ⟨_,h0,_⟩|⟨gb,eE,ha,_⟩
     .omega
     .exact⟨gb,ha⟩
    subst ha;have cU:=cq.hcell h.own (i:=q.length) (v:= .int .i64 (m:Int)) (by simp[kH]);by_cases hm:m=7
    .subst hm;rw[av rfl];((conv=>whnf);repeat(any_goals((first|(refine cm.mX q.length (by omega) (by omega) ?_)|refine Vc.aq ?_)<;>(intros;(conv=>whnf)))))
     refine dc.uA (o:=0+q.length) h.own rfl rfl rfl (by omega) ?_;intro H5 qD eW cE;have jH:=h.apart _ rfl;((conv=>whnf);repeat(any_goals((first|refine Vc.aq ?_)<;>(intros;(conv=>whnf)))))
     refine⟨rfl,fun o' e=> ?_,cE.mono fun x e=> .inr ⟨_,rfl,e.symm⟩⟩;cases e;have e1:(q++[7]).dropLast++[9]=q++[9]:=by simp
     rw[e1];have im:bu H5 g #[.slice (some ⟨gb,0,none⟩) (q++[7]).length cap] 298:=hb.but cE (fun e=>jH e.symm);rw[oG]at im;refine⟨_,cap,⟨by rw[au];exact im,?_,h.apart,h.low⟩,fun p hp=> .inl rfl⟩;have e2:(kH (q++[7])).set (0+q.length) (.int .i64 ((9:Nat):Int))=kH (q++[9]):=by rw[aQ,Jw,Jw,List.set_append_right _ _ (by rw[R4];exact aB _),R4,Nat.sub_self];rfl
     rw[e2,oG]at eW;rw[au];exact eW
    .rw[ak (by intro e;cases e;exact hm rfl)];((conv=>whnf);repeat(any_goals((first|(refine cm.mX q.length (by omega) (by omega) ?_)|refine Vc.aq ?_)<;>(intros;(conv=>whnf)))))
     exact⟨rfl,fun _ h=>(by cases h),cD.refl _ _⟩
  .by_cases wK:k=10
   .subst wK;have ht:mS o 10=if o=[]then none else some o.dropLast:=by unfold mS;rw[ak (by decide),ak (by decide),av rfl]
    by_cases h0:o=[]
    .rw[ht,av h0];subst h0;have hz:([]:List Nat).length=0:=rfl;((conv=>whnf);repeat(any_goals((first|refine Vc.aq ?_)<;>(intros;(conv=>whnf)))))
     exact⟨rfl,fun _ h=>(by cases h),cD.refl _ _⟩
    .rw[ht,ak h0];have rB:=bY.2 h0;have oz:=h.own.jC;((conv=>whnf);repeat(any_goals((first|(refine dk.nat (o.length-1) (by omega) (by omega) ?_)|refine Vc.aq ?_)<;>(intros;(conv=>whnf)))))
     rename_i H5 qD im cE;refine⟨rfl,fun o' e=> ?_,cE.mono fun x e=> .inl e⟩;cases e;have hc:=(h.own.cut (o.length-1) (by omega)).keep cE fun p hp e=>h.apart p hp e;refine⟨a,cap,⟨by rw[gF];exact im,?_,h.apart,h.low⟩,fun p hp=> .inl rfl⟩;rw[gF];have e:kH o.dropLast=(kH o).take ((o.length-1)*1):=by rw[bQ,List.dropLast_eq_take];simp[kH,List.map_take]
     rw[e];exact hc
   .have ht:mS o k=some o:=by unfold mS;rw[ak su,ak k9,ak wK]
    rw[ht];((conv=>whnf);repeat(any_goals((first|refine Vc.aq ?_)<;>(intros;(conv=>whnf)))))
    exact⟨rfl,fun o' e=>(by cases e;exact⟨a,cap,h,fun p hp=> .inl rfl⟩),cD.refl _ _⟩
def lL (l:List Ln):List Value:=l.flatMap fun x=>(qX x).toList
theorem aaV (l m:List Ln):lL (l++m)=lL l++lL m:=by simp[lL]
theorem R5: ∀ l:List Ln,(lL l).length=l.length*6
 |[]=>rfl
 |x::l=>by
  have e:lL (x::l)=(qX x).toList++lL l:=by simp[lL]
  rw[e,au,R5 l];show 6+_=_;rw[ay];omega
def ahu (H:ae) (base:Nat) (v:Value):Option (List Ln)×Nat->Prop
 |(none,i)=>v= .tuple #[.slice none 0 0,.int .i64 i,.int .i64 66]
 |(some ls,i)=>∃ a cap,v= .tuple #[.slice a ls.length cap,.int .i64 i,.int .i64 0]/\cq H base 43 6 a ls.length cap (lL ls)
def xZ (a b:Option Addr):Prop:=∀ p q,a=some p->b=some q->p.block≠q.block
structure PSt where
 i:Nat
 out:List Ln
 ao:Option Addr
 co:Nat
 o:List Nat
 a:Option Addr
 cap:Nat
theorem T9: ∀ (L:List Ln) (j:Nat) (x:Ln) (k:Nat) (v:Value),L[j]? =some x->(qX x)[k]? =some v->(lL L)[j*6+k]? =some v
 |[],j,x,k,v,h,_=>by simp at h
 |y::L,0,x,k,v,h,hv=>by
  simp only[dB,dO]at h;subst h;have hk:k<6:=(aP.1 hv).1;have e:lL (y::L)=(qX y).toList++lL L:=by simp[lL]
  rw[e,gX,aQ,bV (by show k<6;exact hk)];simpa using hv
 |y::L,j+1,x,k,v,h,hv=>by
  have e:lL (y::L)=(qX y).toList++lL L:=by simp[lL]
  have hl:(qX y).toList.length=6:=rfl;rw[e,bA (by rw[hl];omega),hl,show(j+1)*6+k-6=j*6+k by omega];exact T9 L j x k v (by simpa using h) hv
theorem cm.ln {H:ae} {a:Option Addr} {L:List Ln} {n:Nat} {i:Int} {K:Addr->Prop} (h:Row H a (lL L)) (hn:L.length=n) (j:Nat) (x:Ln) (hi:i=j) (hx:L[j]? =some x)
  (hk: ∀ b o,(∀ k v,(qX x)[k]? =some v->hcell H ⟨b,o+k,none⟩=some v)->K ⟨b,o,none⟩):cm a n 6 i K:=by
 have hj:=(aH.1 hx).1;refine Go.Vc.cm.row (size:=6) h (by rw[R5,hn]) (by decide) j hi (by omega) fun b o h1 h2 h3=> ?_;exact hk b (o+j*6) fun k v hv=>h3 k v (T9 L j x k v hx hv)
theorem aE.mQ {H H0:ae} {b o:Nat} {x:Ln} {K:Value->ae->Prop} (hc: ∀ k v,(qX x)[k]? =some v->hcell H0 ⟨b,o+k,none⟩=some v) (he:ax H0 H) (hk:K (.agg (qX x)) H):aE Tryz.prog (Instr.loadAt 43 (.pointer (some ⟨b,o,none⟩))) H K:=by
 have:=Go.Vc.aE.tv (P:=Tryz.prog) (t:=43) (H:=H) (b:=b) (o:=o) (vs:=(qX x).toList) (K:=K) rfl rfl rfl (fun j v hv=>jj (hc j v (by simpa using hv)) he id) hk;exact this
end Go.Proofs.YtphkaogbcfdllaaGreatDoor
namespace Go.bu
open Go.cN
def jl:List Nat->Nat->Option Nat->Nat->Option Nat×Nat
 |[],_,e,i=>(e,i)
 |k::r,d,e,i=>
  if k=7\/k=8 then jl r (d+1) e (i+1)
  else if k=9 then jl r d (if d=0 then some i else e) (i+1)
  else if k=10 then(if d=0 then(e,i)else jl r (d-1) e (i+1))
  else jl r d e (i+1)
def iV (K:List Nat) (h:Nat):Option Nat×Nat:=jl (K.drop (h+1)) 0 none (h+1)
def ni (s:List (Nat×Nat)) (k i:Nat):List (Nat×Nat):=
 if k=7\/k=8 then(i,i)::s
 else if k=9 then(match s with|[]=>[]|(h,_)::t=>(h,i)::t)
 else if k=10 then s.tail
 else s
def gk (K:List Nat):Nat->List (Nat×Nat)
 |0=>[]
 |i+1=>match K[i]? with
  |some k=>ni (gk K i) k i
  |none=>gk K i
theorem pY {K:List Nat} {i k:Nat} (h:K[i]? =some k):gk K (i+1)=ni (gk K i) k i:=by rw[gk,h]
def rq:List Nat->List Nat->Option (List Nat)
 |[],o=>some o
 |k::r,o=>match mS o k with
  |none=>none
  |some o'=>rq r o'
def mn (K:List Nat):Prop:=rq K []=some []
theorem RM: ∀ (l m o:List Nat),rq (l++m) o=match rq l o with|none=>none|some o'=>rq m o'
 |[],m,o=>rfl
 |k::l,m,o=>by
  rw[fO,rq,rq];cases mS o k with
  |none=>rfl
  |some o'=>exact RM l m o'
theorem FH: ∀ (r:List Nat) (d:Nat) (e:Option Nat) (i:Nat),i<=(jl r d e i).2
 |[],_,_,i=>aB _
 |k::r,d,e,i=>by
  unfold jl;split
  .have:=FH r (d+1) e (i+1);omega
  split
  .have:=FH r d (if d=0 then some i else e) (i+1);omega
  split
  .split
   .exact aB _
   .have:=FH r (d-1) e (i+1);omega
  .have:=FH r d e (i+1);omega
theorem Fx: ∀ (r:List Nat) (d:Nat) (e e':Option Nat) (i:Nat),(jl r d e i).2=(jl r d e' i).2
 |[],_,_,_,i=>rfl
 |k::r,d,e,e',i=>by
  unfold jl;split
  .exact Fx r _ _ _ _
  split
  .exact Fx r _ _ _ _
  split
  .split
   .rfl
   .exact Fx r _ _ _ _
  .exact Fx r _ _ _ _
def mark (K:List Nat) (p:Nat×Nat):Nat:=if p.2=p.1 then K.getD p.1 0 else 9
structure Inv (K:List Nat) (i:Nat) (o:List Nat):Prop where
 marks:o.reverse=(gk K i).map (mark K)
 lt: ∀ p∈gk K i,p.1<i/\p.2<i/\p.1<=p.2
 head: ∀ p∈gk K i,K[p.1]? =some 7\/K[p.1]? =some 8
 qE: ∀ p∈gk K i,p.2≠p.1->K[p.2]? =some 9/\K[p.1]? =some 7
 ends: ∀ j p,(gk K i)[j]? =some p->iV K p.1=jl (K.drop i) j (if p.2=p.1 then none else some p.2) i
 Eb: ∀ j p,(gk K i)[j]? =some p->p.2≠p.1->(iV K p.2).2=(jl (K.drop i) j none i).2
 down:((gk K i).map (·.1)).Pairwise (· > ·)
 done: ∀ y k,y<i->K[y]? =some k->k=7\/k=8\/k=9->(∃ p∈gk K i,p.1=y\/p.2=y)\/(iV K y).2<i
theorem Inv.zero (K:List Nat):Inv K 0 []:=
 ⟨rfl,fun p hp=>by simp[gk]at hp,fun p hp=>by simp[gk]at hp,fun p hp=>by simp[gk]at hp,fun j p h=>by simp[gk]at h,fun j p h=>by simp[gk]at h,List.Pairwise.nil,fun y k h=>by omega⟩
theorem drop_cons {K:List Nat} {i k:Nat} (h:K[i]? =some k):K.drop i=k::K.drop (i+1):=by
 have hl:=(aH.1 h).1;rw[bP hl];congr 1;exact(aH.1 h).2
theorem Inv.step {K:List Nat} {i k:Nat} {o o':List Nat} (h:Inv K i o) (hk:K[i]? =some k) (ht:mS o k=some o'):Inv K (i+1) o':=by
 have hs:=pY hk;have hd:=drop_cons hk;have CM:K.getD i 0=k:=by rw[aT,hk];rfl
 unfold mS at ht;by_cases h1:k=7\/k=8
 .rw[av h1]at ht;split at ht
  .cases ht
  cases ht;have hs:gk K (i+1)=(i,i)::gk K i:=by rw[hs];unfold ni;rw[av h1]
  refine⟨?_,?_,?_,?_,?_,?_,?_,?_⟩
  .rw[hs,List.reverse_append,dw,<-h.marks];show _=(if i=i then K.getD i 0 else 9)::_;rw[av rfl,CM];rfl
  .intro p hp;rw[hs]at hp;rcases aM.1 hp with rfl|hp
   .exact⟨by simp,by simp,by simp⟩
   .have:=h.lt p hp;omega
  .intro p hp;rw[hs]at hp;rcases aM.1 hp with rfl|hp
   .rw[hk];rcases h1 with rfl|rfl<;>simp
   .exact h.head p hp
  .intro p hp cz;rw[hs]at hp;rcases aM.1 hp with rfl|hp
   .exact absurd rfl cz
   .exact h.qE p hp cz
  .intro j p hp;rw[hs]at hp;cases j with
   |zero=>
    simp only[dB,dO]at hp;subst hp;rw[av rfl];rfl
   |succ j=>
    have:=h.ends j p (by simpa using hp);rw[this,hd,jl,av h1]
  .intro j p hp cz;rw[hs]at hp;cases j with
   |zero=>
    simp only[dB,dO]at hp;subst hp;exact absurd rfl cz
   |succ j=>
    have:=h.Eb j p (by simpa using hp) cz;rw[this,hd,jl,av h1]
  .rw[hs,dw];refine bI.2 ⟨fun y hy=> ?_,h.down⟩;obtain⟨p,hp,rfl⟩:=bH.1 hy;exact(h.lt p hp).1
  .intro y k' hy fx iK;rw[hs];rcases bR y i with ct|kq
   .rcases h.done y k' ct fx iK with ⟨p,hp,e⟩|yk
    .exact .inl ⟨p,bG _ hp,e⟩
    .exact .inr (by omega)
   .exact .inl ⟨(i,i),by simp,.inl (by dsimp only;omega)⟩
 rw[ak h1]at ht;by_cases h2:k=9
 .rw[av h2]at ht;split at ht
  .rename_i tH;cases ht;have hm:=h.marks;cases cW:gk K i with
   |nil=>
    rw[cW,iA,gK]at hm;rw[hm]at tH;cases tH
   |cons p t=>
    obtain⟨hh,x⟩:=p;have hs:gk K (i+1)=(hh,i)::t:=by rw[hs,cW];unfold ni;rw[ak h1,av h2]
    rw[cW,dw]at hm;have ho:o=(t.map (mark K)).reverse++[mark K (hh,x)]:=by
     rw[<-List.reverse_reverse o,hm,List.reverse_cons]
    have lF:mark K (hh,x)=7:=by
     rw[ho,List.getLast?_append]at tH;simpa using tH
    have ct:=h.lt (hh,x) (by rw[cW];simp);have LG:=h.head (hh,x) (by rw[cW];simp);have hx:x=hh:=by
     unfold mark at lF;dsimp only at lF;split at lF
     .assumption
     .cases lF
    subst hx;have h7:K[x]? =some 7:=by
     unfold mark at lF;rw[av rfl]at lF;rcases LG with hh|hh
     .exact hh
     .dsimp only at hh lF;rw[aT,hh]at lF;cases lF
    dsimp only at ct;have cz:i≠x:=by omega
    refine⟨?_,?_,?_,?_,?_,?_,?_,?_⟩
    .rw[hs,List.reverse_append,ho];simp[mark,cz]
    .intro p hp;rw[hs]at hp;rcases aM.1 hp with rfl|hp
     .dsimp only;omega
     .have:=h.lt p (by rw[cW];exact bG _ hp);omega
    .intro p hp;rw[hs]at hp;rcases aM.1 hp with rfl|hp
     .exact .inl h7
     .exact h.head p (by rw[cW];exact bG _ hp)
    .intro p hp hn;rw[hs]at hp;rcases aM.1 hp with rfl|hp
     .exact⟨by rw[<-h2];exact hk,h7⟩
     .exact h.qE p (by rw[cW];exact bG _ hp) hn
    .intro j p hp;rw[hs]at hp;cases j with
     |zero=>
      simp only[dB,dO]at hp;subst hp;have:=h.ends 0 (x,x) (by rw[cW];rfl);dsimp only at this ⊢;rw[av rfl,hd,jl,ak h1,av h2,av rfl]at this;rw[ak cz];exact this
     |succ j=>
      have:=h.ends (j+1) p (by rw[cW];simpa using hp);rw[this,hd,jl,ak h1,av h2,ak (by omega)]
    .intro j p hp hn;rw[hs]at hp;cases j with
     |zero=>
      simp only[dB,dO]at hp;subst hp;rfl
     |succ j=>
      have:=h.Eb (j+1) p (by rw[cW];simpa using hp) hn;rw[this,hd,jl,ak h1,av h2,ak (by omega)]
    .have:=h.down;rw[cW]at this;rw[hs];exact this
    .intro y k' hy fx iK;rw[hs];rcases bR y i with ct|kq
     .rcases h.done y k' ct fx iK with ⟨p,hp,e⟩|yk
      .rw[cW]at hp;rcases aM.1 hp with rfl|hp
       .exact .inl ⟨(x,i),by simp,.inl (by rcases e with e|e<;>exact e)⟩
       .exact .inl ⟨p,bG _ hp,e⟩
      .exact .inr (by omega)
     .exact .inl ⟨(x,i),by simp,.inr (by dsimp only;omega)⟩
  .cases ht
 rw[ak h2]at ht;by_cases h3:k=10
 .rw[av h3]at ht;split at ht
  .cases ht
  rename_i Lb;cases ht;have hm:=h.marks;cases cW:gk K i with
  |nil=>
   rw[cW,iA,gK]at hm;exact absurd hm Lb
  |cons p t=>
   have hs:gk K (i+1)=t:=by rw[hs,cW];unfold ni;rw[ak h1,ak h2,av h3];rfl
   rw[cW,dw]at hm;have ho:o=(t.map (mark K)).reverse++[mark K p]:=by
    rw[<-List.reverse_reverse o,hm,List.reverse_cons]
   have iW: ∀ q∈t,q∈gk K i:=fun q hq=>by rw[cW];exact bG _ hq
   refine⟨?_,?_,?_,?_,?_,?_,?_,?_⟩
   .rw[hs,ho,List.dropLast_concat,List.reverse_reverse]
   .intro q hq;rw[hs]at hq;have:=h.lt q (iW q hq);omega
   .intro q hq;rw[hs]at hq;exact h.head q (iW q hq)
   .intro q hq;rw[hs]at hq;exact h.qE q (iW q hq)
   .intro j q hq;rw[hs]at hq;have:=h.ends (j+1) q (by rw[cW];simpa using hq);rw[this,hd,jl,ak h1,ak h2,av h3,ak (by omega),Nat.add_sub_cancel]
   .intro j q hq hn;rw[hs]at hq;have:=h.Eb (j+1) q (by rw[cW];simpa using hq) hn;rw[this,hd,jl,ak h1,ak h2,av h3,ak (by omega),Nat.add_sub_cancel]
   .have:=h.down;rw[cW,dw]at this;rw[hs];exact(bI.1 this).2
   .intro y k' hy fx iK;rw[hs];rcases bR y i with ct|kq
    .rcases h.done y k' ct fx iK with ⟨q,hq,e⟩|yk
     .rw[cW]at hq;rcases aM.1 hq with rfl|hq
      .refine .inr ?_;have e0:=h.ends 0 q (by rw[cW];rfl);rw[hd,jl,ak h1,ak h2,av h3,av rfl]at e0;rcases e with rfl|rfl
       .rw[e0];dsimp only;omega
       .by_cases A4:q.2=q.1
        .rw[A4,e0];dsimp only;omega
        .have e1:=h.Eb 0 q (by rw[cW];rfl) A4;rw[hd,jl,ak h1,ak h2,av h3,av rfl]at e1;rw[e1];dsimp only;omega
      .exact .inl ⟨q,hq,e⟩
     .exact .inr (by omega)
    .obtain rfl:y=i:=by omega
     rw[hk]at fx;cases fx;omega
 rw[ak h3]at ht;cases ht;have hs:gk K (i+1)=gk K i:=by rw[hs];unfold ni;rw[ak h1,ak h2,ak h3]
 refine⟨by rw[hs];exact h.marks,?_,by rw[hs];exact h.head,by rw[hs];exact h.qE,?_,?_,by rw[hs];exact h.down,?_⟩
 .intro p hp;rw[hs]at hp;have:=h.lt p hp;omega
 .intro j p hp;rw[hs]at hp;rw[h.ends j p hp,hd,jl,ak h1,ak h2,ak h3]
 .intro j p hp hn;rw[hs]at hp;rw[h.Eb j p hp hn,hd,jl,ak h1,ak h2,ak h3]
 .intro y k' hy fx iK;rw[hs];rcases bR y i with ct|kq
  .rcases h.done y k' ct fx iK with hp|yk
   .exact .inl hp
   .exact .inr (by omega)
  .obtain rfl:y=i:=by omega
   rw[hk]at fx;cases fx;omega
theorem uM {K:List Nat} (hn:mn K): ∀ i,i<=K.length-> ∃ o,Inv K i o/\rq (K.drop i) o=some []
 |0,_=>⟨[],Inv.zero K,by rw[List.drop_zero];exact hn⟩
 |i+1,hi=>by
  obtain⟨o,h,hr⟩:=uM hn i (by omega);have hk:K[i]? =some K[i]:=aD (by omega);rw[drop_cons hk,rq]at hr;cases ht:mS o K[i]with
  |none=>rw[ht]at hr;cases hr
  |some o'=>rw[ht]at hr;exact⟨o',h.step hk ht,hr⟩
theorem VC {K:List Nat} (hn:mn K):gk K K.length=[]:=by
 obtain⟨o,h,hr⟩:=uM hn K.length (aB _);rw[List.drop_length,rq,dO]at hr;have:=h.marks;rw[hr]at this;simpa using this.symm
theorem U8 {K:List Nat} (hn:mn K) {y k:Nat} (hk:K[y]? =some k) (h:k=7\/k=8\/k=9):(iV K y).2<K.length:=by
 obtain⟨o,hi,_⟩:=uM hn K.length (aB _);rcases hi.done y k (aH.1 hk).1 hk h with ⟨p,hp,_⟩|h
 .rw[VC hn]at hp;cases hp
 .exact h
def gl (K:List Nat) (i:Nat):List Nat:=(gk K i).map (·.1)
theorem DE {K:List Nat} {h k:Nat} (hk:K[h]? =some k) (h1:k=7\/k=8):gl K (h+1)=h::gl K h:=by
 unfold gl;rw[pY hk];unfold ni;rw[av h1];rfl
theorem FV {K:List Nat} {h:Nat} (hk:K[h]? =some 9):gl K (h+1)=gl K h:=by
 unfold gl;rw[pY hk];unfold ni;rw[ak (by decide),av rfl];cases gk K h with
 |nil=>rfl
 |cons p t=>rfl
theorem F4 {K:List Nat} {h:Nat} (hk:K[h]? =some 10):gl K (h+1)=(gl K h).tail:=by
 unfold gl;rw[pY hk];unfold ni;rw[ak (by decide),ak (by decide),av rfl];cases gk K h with
 |nil=>rfl
 |cons p t=>rfl
theorem FI {K:List Nat} {h k:Nat} (hk:K[h]? =some k) (h1: ¬(k=7\/k=8)) (h2:k≠9) (h3:k≠10):gl K (h+1)=gl K h:=by
 unfold gl;rw[pY hk];unfold ni;rw[ak h1,ak h2,ak h3]
theorem scan {K:List Nat} {h:Nat}: ∀ (n i d:Nat) (e:Option Nat) (up:List Nat),K.length-i<=n->up.length=d->gl K i=up++h::gl K h->(∀ x,e=some x->K[x]? =some 9/\gl K x=h::gl K h)->
  ((jl (K.drop i) d e i).2<K.length->K[(jl (K.drop i) d e i).2]? =some 10/\gl K (jl (K.drop i) d e i).2=h::gl K h)/\
  (∀ x,(jl (K.drop i) d e i).1=some x->K[x]? =some 9/\gl K x=h::gl K h):=by
 intro n;induction n with
 |zero=>
  intro i d e up hn hu hh he;rw[aV (by omega)];exact⟨fun hl=>by rw[jl]at hl;dsimp only at hl;omega,he⟩
 |succ n ih=>
  intro i d e up hn hu hh he;rcases bR i K.length with hl|hl
  .have hk:K[i]? =some K[i]:=aD hl;generalize K[i]=k at hk
   rw[drop_cons hk,jl];by_cases h1:k=7\/k=8
   .rw[av h1];exact ih (i+1) (d+1) e (i::up) (by omega) (by rw[ay,hu]) (by rw[DE hk h1,hh];rfl) he
   rw[ak h1];by_cases h2:k=9
   .rw[av h2];subst h2;refine ih (i+1) d _ up (by omega) hu (by rw[FV hk,hh]) fun x hx=> ?_;split at hx
    .rename_i h0;cases hx;rw[h0]at hu;rw[gI.1 hu]at hh;exact⟨hk,hh⟩
    .exact he x hx
   rw[ak h2];by_cases h3:k=10
   .rw[av h3];subst h3;by_cases h0:d=0
    .rw[av h0];rw[h0]at hu;rw[gI.1 hu]at hh;exact⟨fun _=>⟨hk,hh⟩,he⟩
    .rw[ak h0];cases up with
     |nil=>exact absurd hu.symm h0
     |cons u up=>
      exact ih (i+1) (d-1) e up (by omega) (by rw[ay]at hu;omega) (by rw[F4 hk,hh];rfl) he
   .rw[ak h3];exact ih (i+1) d e up (by omega) hu (by rw[FI hk h1 h2 h3,hh]) he
  .rw[aV (by omega)];exact⟨fun hl=>by rw[jl]at hl;dsimp only at hl;omega,he⟩
structure Ends (K:List Nat) (h:Nat):Prop where
 lt:(iV K h).2<K.length
 kind:K[(iV K h).2]? =some 10
 hd:gl K (iV K h).2=h::gl K h
 behind:gl K ((iV K h).2+1)=gl K h
 qE: ∀ x,(iV K h).1=some x->K[x]? =some 9/\gl K (x+1)=h::gl K h
theorem DF {K:List Nat} (hn:mn K) {h k:Nat} (hk:K[h]? =some k) (h1:k=7\/k=8):Ends K h:=by
 have ct:=U8 hn hk (by omega);obtain⟨s1,s2⟩:=scan (K:=K) (h:=h) K.length (h+1) 0 none [] (by omega) rfl (by rw[DE hk h1];rfl) (fun x hx=>by cases hx);obtain⟨e1,e2⟩:K[(iV K h).2]? =some 10/\gl K (iV K h).2=h::gl K h:=s1 ct;refine⟨ct,e1,e2,?_,fun x hx=> ?_⟩
 .rw[F4 e1,e2];rfl
 .obtain⟨f1,f2⟩:=s2 x hx;exact⟨f1,by rw[FV f1,f2]⟩
structure ai4 (K:List Nat) (x:Nat):Prop where
 lt:(iV K x).2<K.length
 kind:K[(iV K x).2]? =some 10
 hd:gl K (iV K x).2=gl K x
theorem U9 {K:List Nat} (hn:mn K) {x:Nat} (hk:K[x]? =some 9):ai4 K x:=by
 have ct:=U8 hn hk (by omega);have pH:=(aH.1 hk).1;obtain⟨o,hi,hr⟩:=uM hn x (by omega);cases cW:gl K x with
 |nil=>
  exfalso
  rw[drop_cons hk,rq]at hr;unfold mS at hr;rw[ak (by decide),av rfl]at hr;have hm:=hi.marks;unfold gl at cW;rw[List.map_eq_nil_iff]at cW;rw[cW,iA,gK]at hm;rw[hm]at hr;cases hr
 |cons h t=>
  have Qs:gl K (x+1)=h::t:=by rw[FV hk,cW]
  have key: ∀ (n i d:Nat) (up:List Nat),K.length-i<=n->up.length=d->gl K i=up++h::t->(jl (K.drop i) d none i).2<K.length->K[(jl (K.drop i) d none i).2]? =some 10/\gl K (jl (K.drop i) d none i).2=h::t:=by
   intro n;induction n with
   |zero=>
    intro i d up hn hu hh hl;rw[aV (by omega),jl]at hl;dsimp only at hl;omega
   |succ n ih=>
    intro i d up hn hu hh hl;rcases bR i K.length with ct|kq
    .have hk:K[i]? =some K[i]:=aD ct;generalize K[i]=k at hk
     rw[drop_cons hk,jl]at hl ⊢;by_cases h1:k=7\/k=8
     .rw[av h1]at hl ⊢;exact ih (i+1) (d+1) (i::up) (by omega) (by rw[ay,hu]) (by rw[DE hk h1,hh];rfl) hl
     rw[ak h1]at hl ⊢;by_cases h2:k=9
     .rw[av h2]at hl ⊢;subst h2;rw[Fx _ _ _ none]at hl ⊢;exact ih (i+1) d up (by omega) hu (by rw[FV hk,hh]) hl
     rw[ak h2]at hl ⊢;by_cases h3:k=10
     .rw[av h3]at hl ⊢;subst h3;by_cases h0:d=0
      .rw[av h0];rw[h0]at hu;rw[gI.1 hu]at hh;exact⟨hk,hh⟩
      .rw[ak h0]at hl ⊢;cases up with
       |nil=>exact absurd hu.symm h0
       |cons u up=>
        exact ih (i+1) (d-1) up (by omega) (by rw[ay]at hu;omega) (by rw[F4 hk,hh];rfl) hl
     .rw[ak h3]at hl ⊢;exact ih (i+1) d up (by omega) hu (by rw[FI hk h1 h2 h3,hh]) hl
    .rw[aV (by omega),jl]at hl;dsimp only at hl;omega
  obtain⟨k1,k2⟩:=key K.length (x+1) 0 [] (by omega) rfl Qs ct;exact⟨ct,k1,by rw[cW];exact k2⟩
theorem N5 {K:List Nat} (hn:mn K) {y:Nat} (hk:K[y]? =some 10): ∃ h t,gl K y=h::t/\(iV K h).2=y/\(K[h]? =some 7\/K[h]? =some 8)/\ ∀ g∈t,y<(iV K g).2:=by
 have Ew:=(aH.1 hk).1;obtain⟨o,hi,hr⟩:=uM hn y (by omega);have hd:=drop_cons hk;cases cW:gk K y with
 |nil=>
  exfalso
  rw[hd,rq]at hr;have hm:=hi.marks;rw[cW,iA,gK]at hm;rw[hm]at hr;unfold mS at hr;rw[ak (by decide),ak (by decide),av rfl,av rfl]at hr;cases hr
 |cons p t=>
  refine⟨p.1,t.map (·.1),by unfold gl;rw[cW];rfl,?_,hi.head p (by rw[cW];simp),fun g hg=> ?_⟩
  .rw[hi.ends 0 p (by rw[cW];rfl),hd,jl,ak (by decide),ak (by decide),av rfl,av rfl]
  .obtain⟨q,hq,rfl⟩:=bH.1 hg;obtain⟨j,hj⟩:=List.getElem?_of_mem hq;rw[hi.ends (j+1) q (by rw[cW];simpa using hj),hd,jl,ak (by decide),ak (by decide),av rfl,ak (by omega)];have:=FH (K.drop (y+1)) (j+1-1) (if q.2=q.1 then none else some q.2) (y+1);omega
theorem Pb {K:List Nat} (hn:mn K) {i:Nat} (hi:i<=K.length): ∀ g∈gl K i,g<i:=by
 obtain⟨o,h,_⟩:=uM hn i hi;intro g hg;obtain⟨p,hp,rfl⟩:=bH.1 hg;exact(h.lt p hp).1
theorem agj {K:List Nat} (hn:mn K) {i:Nat} (hi:i<=K.length):(gl K i).Pairwise (· > ·):=by
 obtain⟨o,h,_⟩:=uM hn i hi;exact h.down
end Go.bu
namespace Go.Run
open Go.cN Go.eg Go.cM Go.bu
open Go.Vc (ck fk)
abbrev kP:=List (ap×ap)
def sd (c:UInt8):Bool:=decide (97<=c.toNat/\c.toNat<=122)
def nB (c:UInt8):Bool:=decide (48<=c.toNat/\c.toNat<=57)
def pz:ap->Nat
 |[]=>0
 |c::t=>if sd c then 1+(t.takeWhile fun x=>sd x || nB x).length else 0
theorem Fb {p:UInt8->Bool}: ∀ l:ap,(l.takeWhile p).length<=l.length
 |[]=>aB _
 |c::t=>by
  rw[eP];split
  .have:=Fb (p:=p) t;simp only[ay];omega
  .simp
theorem aeJ (s:ap):pz s<=s.length:=by
 cases s with
 |nil=>exact aB _
 |cons c t=>
  show(if sd c=true then 1+(t.takeWhile fun x=>sd x || nB x).length else 0)<=_;split
  .have:=Fb (p:=fun x=>sd x || nB x) t;rw[ay];omega
  .simp
def uN (s:ap):Bool:=decide (s≠ []/\pz s=s.length)
def qi (V:kP) (k:ap):ap:=(ck V k).getD []
def sH:Nat->kP->ap->ap
 |_,_,[]=>[]
 |0,_,_=>[]
 |n+1,V,c::t=>
  if c≠36 then c::sH n V t
  else if pz t≠0 then qi V (t.take (pz t))++sH n V (t.drop (pz t))
  else if t.head? =some 36 then 36::sH n V t.tail
  else 36::sH n V t
def gd (V:kP) (s:ap):ap:=sH s.length V s
theorem Di (V:kP): ∀ (n m:Nat) (s:ap),s.length<=n->s.length<=m->sH n V s=sH m V s
 |n,m,[],_,_=>by cases n<;>cases m<;>rfl
 |0,m,c::t,h,_=>by simp at h
 |n+1,0,c::t,_,h=>by simp at h
 |n+1,m+1,c::t,h1,h2=>by
  simp only[ay]at h1 h2;unfold sH;split
  .rw[Di V n m t (by omega) (by omega)]
  split
  .rw[Di V n m _ (by rw[aO];omega) (by rw[aO];omega)]
  split
  .rw[Di V n m _ (by rw[iy];omega) (by rw[iy];omega)]
  .rw[Di V n m t (by omega) (by omega)]
theorem Tg (V:kP):gd V []=[]:=rfl
theorem Dc (V:kP) (c:UInt8) (t:ap):gd V (c::t)=if c≠36 then c::gd V t
  else if pz t≠0 then qi V (t.take (pz t))++gd V (t.drop (pz t))
  else if t.head? =some 36 then 36::gd V t.tail
  else 36::gd V t:=by
 show sH (t.length+1) V (c::t)=_;unfold sH;split
 .rfl
 split
 .rw[Di V t.length _ (t.drop (pz t)) (by rw[aO];omega) (aB _)];rfl
 split
 .rw[Di V t.length _ t.tail (by rw[iy];omega) (aB _)];rfl
 .rfl
structure St where
 at_:Nat
 A:Tr
 V:Option kP
 S:List (Nat×Nat)
def cY (L:List Ln):List Nat:=L.map (·.k)
def lp (V:Option kP):kP:=V.getD []
def mD (s:St):St:={s with at_:=s.at_+1}
def qO (s:St) (r:Tr×Nat):St×Nat:=({s with at_:=s.at_+1,A:=r.1},r.2)
def fX (K:List Nat) (x:Ln) (s:St):St×Nat:=
 if x.k=0 then qO s (cM.kW s.A (gd (lp s.V) x.a) (gd (lp s.V) x.b) true)
 else if x.k=1 then qO s (nP s.A (gd (lp s.V) x.a) (gd (lp s.V) x.tx))
 else if x.k=2 then qO s (qH s.A (gd (lp s.V) x.a) (gd (lp s.V) x.tx))
 else if x.k=3 then qO s (oU s.A (gd (lp s.V) x.a))
 else if x.k=4 then qO s (nN s.A (gd (lp s.V) x.a))
 else if x.k=5 then qO s (cM.kW s.A (gd (lp s.V) x.a) (gd (lp s.V) x.b) false)
 else if x.k=6 then
  if uN x.a=false then(s,72)
  else if 65536<(gd (lp s.V) x.tx).length then(s,55)
  else({mD s with V:=s.V.map fun V=>fk V x.a (gd V x.tx)},0)
 else if x.k=7 then
  if uI s.A (gd (lp s.V) x.a)=x.nt then({s with at_:=match (iV K s.at_).1 with|some e=>e+1|none=>(iV K s.at_).2},0)
  else(mD s,0)
 else if x.k=8 then
  if x.n=0 then({s with at_:=(iV K s.at_).2+1},0)else({mD s with S:=(s.at_,x.n)::s.S},0)
 else if x.k=9 then({s with at_:=(iV K s.at_).2},0)
 else if x.k=10 then
  match s.S with
  |[]=>(mD s,0)
  |(h,n)::S=>if(iV K h).2=s.at_ then(if 1<n then({s with at_:=h+1,S:=(h,n-1)::S},0)else({mD s with S:=S},0))else(mD s,0)
 else if x.k=11 then(s,72)
 else(mD s,0)
def jF (L:List Ln):Nat->Nat->St->(Nat×Nat)×St
 |0,u,s=>if s.at_<L.length then((u,73),s)else((u,0),s)
 |f+1,u,s=>match L[s.at_]? with
  |none=>((u,0),s)
  |some x=>if(fX (cY L) x s).2=0 then jF L f (u+1) (fX (cY L) x s).1 else((u+1,(fX (cY L) x s).2),{(fX (cY L) x s).1 with at_:=s.at_})
theorem Ua {L:List Ln} {f u:Nat} {s:St} (h:L.length<=s.at_):jF L f u s=((u,0),s):=by
 cases f with
 |zero=>rw[jF,ak (by omega)]
 |succ f=>rw[jF,dX h]
theorem aeK {L:List Ln} {u:Nat} {s:St} (h:s.at_<L.length):jF L 0 u s=((u,73),s):=by rw[jF,av h]
theorem Nv {L:List Ln} {f u:Nat} {s:St} {x:Ln} (h:L[s.at_]? =some x):jF L (f+1) u s=if(fX (cY L) x s).2=0 then jF L f (u+1) (fX (cY L) x s).1 else((u+1,(fX (cY L) x s).2),{(fX (cY L) x s).1 with at_:=s.at_}):=by
 rw[jF,h]
theorem Br (p:ap):cF (p.take 65537)=cF p:=by
 rcases bR 65537 p.length with h|h
 .unfold cF r6;rw[av (by rw[aJ];simp;omega),av (by simp;omega)]
 .rw[aL h]
theorem ac3 (A:Tr) (p b:ap):nP A (p.take 65537) (b.take 65537)=nP A p b:=by
 unfold nP;rw[Br];split
 .rcases bR 65537 b.length with h|h
  .unfold iO;split
   .rfl
   .rw[av (.inl (by rw[aJ];omega)),av (.inl (by omega))]
  .rw[aL h]
 .rfl
theorem M7 (A:Tr) (p b:ap):qH A (p.take 65537) (b.take 65537)=qH A p b:=by
 unfold qH;rw[Br];split
 .rcases bR 65537 b.length with h|h
  .unfold iO;split
   .rfl
   .rw[av (.inl (by rw[au,aJ];omega)),av (.inl (by rw[au];omega))]
  .rw[aL h]
 .rfl
theorem Va (A:Tr) (p q:ap) (st:Bool):cM.kW A (p.take 65537) (q.take 65537) st=cM.kW A p q st:=by
 unfold cM.kW;rw[Br,Br]
theorem ac4 (A:Tr) (p:ap):oU A (p.take 65537)=oU A p:=by unfold oU;rw[Br]
theorem abN (A:Tr) (p:ap):nN A (p.take 65537)=nN A p:=by unfold nN;rw[Br]
theorem M8 (A:Tr) (p:ap):uI A (p.take 65537)=uI A p:=by unfold uI;rw[Br]
end Go.Run
namespace Go.bu
open Go.cN
structure oh (K:List Nat) (i:Nat) (O Hd:List Nat):Prop where
 wj:O.length=K.length
 yo:Hd.length=K.length
 opn: ∀ y k,y<i->K[y]? =some k->k=7\/k=8->(∃ p∈gk K i,p.1=y)\/O[y]? =some ((iV K y).1.getD (iV K y).2)
 qE: ∀ y,y<i->K[y]? =some 9->(∃ p∈gk K i,p.2=y)\/O[y]? =some (iV K y).2
 hd: ∀ y,y<i->K[y]? =some 10-> ∀ h t,gl K y=h::t->Hd[y]? =some h
 HK: ∀ p∈gk K i,p.2≠p.1->O[p.1]? =some p.2
structure Tables (K O Hd:List Nat):Prop where
 wj:O.length=K.length
 yo:Hd.length=K.length
 opn: ∀ y k,K[y]? =some k->k=7\/k=8->O[y]? =some ((iV K y).1.getD (iV K y).2)
 qE: ∀ y,K[y]? =some 9->O[y]? =some (iV K y).2
 hd: ∀ y,K[y]? =some 10-> ∀ h t,gl K y=h::t->Hd[y]? =some h
theorem oh.zero (K:List Nat):oh K 0 (List.replicate K.length 0) (List.replicate K.length 0):=
 ⟨by simp,by simp,fun y k h=>by omega,fun y h=>by omega,fun y h=>by omega,fun p hp=>by simp[gk]at hp⟩
theorem oh.done {K O Hd:List Nat} (hn:mn K) (h:oh K K.length O Hd):Tables K O Hd:=by
 have cW:=VC hn;refine⟨h.wj,h.yo,fun y k hk h1=> ?_,fun y hk=> ?_,fun y hk=>h.hd y (aH.1 hk).1 hk⟩
 .rcases h.opn y k (aH.1 hk).1 hk h1 with ⟨p,hp,_⟩|h
  .rw[cW]at hp;cases hp
  .exact h
 .rcases h.qE y (aH.1 hk).1 hk with ⟨p,hp,_⟩|h
  .rw[cW]at hp;cases hp
  .exact h
theorem oh.open {K O Hd:List Nat} {i k:Nat} (h:oh K i O Hd) (hk:K[i]? =some k) (h1:k=7\/k=8):oh K (i+1) O Hd:=by
 have hs:gk K (i+1)=(i,i)::gk K i:=by rw[pY hk];unfold ni;rw[av h1]
 refine⟨h.wj,h.yo,fun y k' hy fx iK=> ?_,fun y hy fx=> ?_,fun y hy fx=> ?_,fun p hp cz=> ?_⟩
 .rw[hs];rcases bR y i with ct|kq
  .rcases h.opn y k' ct fx iK with ⟨p,hp,e⟩|e
   .exact .inl ⟨p,bG _ hp,e⟩
   .exact .inr e
  .exact .inl ⟨(i,i),by simp,by dsimp only;omega⟩
 .rw[hs];rcases bR y i with ct|kq
  .rcases h.qE y ct fx with ⟨p,hp,e⟩|e
   .exact .inl ⟨p,bG _ hp,e⟩
   .exact .inr e
  .exact .inl ⟨(i,i),by simp,by dsimp only;omega⟩
 .rcases bR y i with ct|kq
  .exact h.hd y ct fx
  .obtain rfl:y=i:=by omega
   rw[hk]at fx;cases fx;omega
 .rw[hs]at hp;rcases aM.1 hp with rfl|hp
  .exact absurd rfl cz
  .exact h.HK p hp cz
theorem oh.other {K O Hd:List Nat} {i k:Nat} (h:oh K i O Hd) (hk:K[i]? =some k) (h1: ¬(k=7\/k=8)) (h2:k≠9) (h3:k≠10):oh K (i+1) O Hd:=by
 have hs:gk K (i+1)=gk K i:=by rw[pY hk];unfold ni;rw[ak h1,ak h2,ak h3]
 refine⟨h.wj,h.yo,fun y k' hy fx iK=> ?_,fun y hy fx=> ?_,fun y hy fx=> ?_,by rw[hs];exact h.HK⟩
 .rw[hs];rcases bR y i with ct|kq
  .exact h.opn y k' ct fx iK
  .obtain rfl:y=i:=by omega
   rw[hk]at fx;cases fx;exact absurd iK h1
 .rw[hs];rcases bR y i with ct|kq
  .exact h.qE y ct fx
  .obtain rfl:y=i:=by omega
   rw[hk]at fx;cases fx;exact absurd rfl h2
 .rcases bR y i with ct|kq
  .exact h.hd y ct fx
  .obtain rfl:y=i:=by omega
   rw[hk]at fx;cases fx;exact absurd rfl h3
theorem Ti {K:List Nat} (hn:mn K) {i:Nat} (hk:K[i]? =some 9): ∃ h t,gk K i=(h,h)::t/\K[h]? =some 7/\h<i:=by
 obtain⟨o,hi,hr⟩:=uM hn i (by have:=(aH.1 hk).1;omega);rw[drop_cons hk,rq]at hr;unfold mS at hr;rw[ak (by decide),av rfl]at hr;have hm:=hi.marks;cases cW:gk K i with
 |nil=>
  rw[cW,iA,gK]at hm;rw[hm]at hr;cases hr
 |cons p t=>
  obtain⟨h,x⟩:=p;rw[cW,dw]at hm;have ho:o=(t.map (mark K)).reverse++[mark K (h,x)]:=by rw[<-List.reverse_reverse o,hm,List.reverse_cons]
  have tH:o.getLast? =some 7:=by
   cases hg:(if o.getLast? =some 7 then some (o.dropLast++[9])else none)with
   |none=>rw[hg]at hr;cases hr
   |some o'=>split at hg;assumption;cases hg
  have lF:mark K (h,x)=7:=by rw[ho,List.getLast?_append]at tH;simpa using tH
  have ct:=hi.lt (h,x) (by rw[cW];simp);have LG:=hi.head (h,x) (by rw[cW];simp);unfold mark at lF;dsimp only at lF ct LG;split at lF
  .rename_i hx;subst hx;refine⟨x,t,rfl,?_,ct.1⟩;rcases LG with hh|hh
   .exact hh
   .rw[aT,hh]at lF;cases lF
  .cases lF
theorem oh.else {K O Hd:List Nat} (hn:mn K) {i h:Nat} {t:List (Nat×Nat)} (hf:oh K i O Hd) (hk:K[i]? =some 9) (cW:gk K i=(h,h)::t) (h7:K[h]? =some 7) (ct:h<i):oh K (i+1) (O.set h i) Hd:=by
 have hs:gk K (i+1)=(h,i)::t:=by rw[pY hk,cW];unfold ni;rw[ak (by decide),av rfl]
 have yH:=(aH.1 hk).1;obtain⟨o,hi,_⟩:=uM hn i (by omega);have sR:=hi.down;rw[cW,dw,bI]at sR;refine⟨by rw[gM];exact hf.wj,hf.yo,fun y k' hy fx iK=> ?_,fun y hy fx=> ?_,fun y hy fx=> ?_,fun p hp cz=> ?_⟩
 .rw[hs];by_cases wL:y=h
  .exact .inl ⟨(h,i),by simp,wL.symm⟩
  rcases bR y i with ct|kq
  .rcases hf.opn y k' ct fx iK with ⟨p,hp,e⟩|e
   .rw[cW]at hp;rcases aM.1 hp with rfl|hp
    .exact absurd e.symm wL
    .exact .inl ⟨p,bG _ hp,e⟩
   .exact .inr (by rw[dS (fun e=>wL e.symm)];exact e)
  .obtain rfl:y=i:=by omega
   rw[hk]at fx;cases fx;omega
 .rw[hs];rcases bR y i with ct|kq
  .have wL:h≠y:=fun e=>by subst e;rw[h7]at fx;cases fx
   rcases hf.qE y ct fx with ⟨p,hp,e⟩|e
   .rw[cW]at hp;rcases aM.1 hp with rfl|hp
    .exact absurd e wL
    .exact .inl ⟨p,bG _ hp,e⟩
   .exact .inr (by rw[dS wL];exact e)
  .exact .inl ⟨(h,i),by simp,by dsimp only;omega⟩
 .rcases bR y i with ct|kq
  .exact hf.hd y ct fx
  .obtain rfl:y=i:=by omega
   rw[hk]at fx;cases fx
 .rw[hs]at hp;rcases aM.1 hp with rfl|hp
  .dsimp only;rw[eO (by rw[hf.wj];omega)]
  .have h1:=sR.1 p.1 (fE hp);rw[dS (by omega)];exact hf.HK p (by rw[cW];exact bG _ hp) cz
theorem agk {K:List Nat} (hn:mn K) {i:Nat} (hk:K[i]? =some 10): ∃ h x t,gk K i=(h,x)::t/\h<i/\x<i:=by
 obtain⟨h,t,hh,_⟩:=N5 hn hk;obtain⟨o,hi,_⟩:=uM hn i (by have:=(aH.1 hk).1;omega);cases cW:gk K i with
 |nil=>unfold gl at hh;rw[cW]at hh;cases hh
 |cons p t=>
  have:=hi.lt p (by rw[cW];simp);exact⟨p.1,p.2,t,rfl,this.1,this.2.1⟩
theorem oh.end {K O Hd:List Nat} (hn:mn K) {i h x:Nat} {t:List (Nat×Nat)} (hf:oh K i O Hd) (hk:K[i]? =some 10) (cW:gk K i=(h,x)::t):oh K (i+1) (O.set x i) (Hd.set i h):=by
 have hs:gk K (i+1)=t:=by rw[pY hk,cW];unfold ni;rw[ak (by decide),ak (by decide),av rfl];rfl
 have yH:=(aH.1 hk).1;have hd:=drop_cons hk;obtain⟨o,hi,_⟩:=uM hn i (by omega);have sR:=hi.down;rw[cW,dw,bI]at sR;have mc:(h,x)∈gk K i:=by rw[cW];simp
 have XS: ∀ p∈t,p∈gk K i:=fun p hp=>by rw[cW];exact bG _ hp
 have ct:=hi.lt (h,x) mc;have hh:=hi.head (h,x) mc;have kA:=hi.qE (h,x) mc;have he:=hi.ends 0 (h,x) (by rw[cW];rfl);rw[hd,jl,ak (by decide),ak (by decide),av rfl,av rfl]at he;have oJ:=hi.Eb 0 (h,x) (by rw[cW];rfl);rw[hd,jl,ak (by decide),ak (by decide),av rfl,av rfl]at oJ;dsimp only at ct hh kA he oJ;have XT:x<O.length:=by rw[hf.wj];omega
 refine⟨by rw[gM];exact hf.wj,by rw[gM];exact hf.yo,fun y k' hy fx iK=> ?_,fun y hy fx=> ?_,fun y hy fx=> ?_,fun p hp cz=> ?_⟩
 .rw[hs];by_cases wL:y=h
  .subst wL;refine .inr ?_;rw[he];by_cases pJ:x=y
   .subst pJ;rw[av rfl,eO XT];rfl
   .rw[ak pJ,dS pJ,hf.HK (y,x) mc pJ];rfl
  rcases bR y i with uV|kq
  .have HM:x≠y:=fun e=>by
    subst e;rw[(kA wL).1]at fx;cases fx;omega
   rcases hf.opn y k' uV fx iK with ⟨p,hp,e⟩|e
   .rw[cW]at hp;rcases aM.1 hp with rfl|hp
    .exact absurd e.symm wL
    .exact .inl ⟨p,hp,e⟩
   .exact .inr (by rw[dS HM];exact e)
  .obtain rfl:y=i:=by omega
   rw[hk]at fx;cases fx;omega
 .rw[hs];rcases bR y i with uV|kq
  .by_cases HM:x=y
   .subst HM;refine .inr ?_;rw[eO XT,oJ (fun e=>by subst e;rcases hh with hh|hh<;>(rw[hh]at fx;cases fx))]
   .rcases hf.qE y uV fx with ⟨p,hp,e⟩|e
    .rw[cW]at hp;rcases aM.1 hp with rfl|hp
     .exact absurd e HM
     .exact .inl ⟨p,hp,e⟩
    .exact .inr (by rw[dS HM];exact e)
  .obtain rfl:y=i:=by omega
   rw[hk]at fx;cases fx
 .intro h' t' e;rcases bR y i with uV|kq
  .rw[dS (by omega)];exact hf.hd y uV fx h' t' e
  .obtain rfl:y=i:=by omega
   rw[eO (by rw[hf.yo];omega)];unfold gl at e;rw[cW]at e;cases e;rfl
 .rw[hs]at hp;have h1:=sR.1 p.1 (fE hp);have rQ:x≠p.1:=fun e=>by
   by_cases Qt:x=h
   .omega
   .have h9:=(kA Qt).1;rcases hi.head p (XS p hp)with h2|h2<;>(rw[<-e,h9]at h2;cases h2)
  rw[dS rQ];exact hf.HK p (XS p hp) cz
structure kY (K:List Nat) (i:Nat) (S:List (Nat×Nat)) (M:List Nat):Prop where
 len:M.length=K.length
 heads:S.map (·.1)=(gl K i).filter fun h=>K.getD h 0==8
 left: ∀ p∈S,M[p.1]? =some p.2/\1<=p.2
theorem kY.zero (K:List Nat):kY K 0 [] (List.replicate K.length 0):=⟨by simp,rfl,fun p hp=>by cases hp⟩
theorem kY.same {K:List Nat} {i j:Nat} {S:List (Nat×Nat)} {M:List Nat} (h:kY K i S M) (e:gl K j=gl K i):kY K j S M:=⟨h.len,by rw[e];exact h.heads,h.left⟩
theorem kY.into {K:List Nat} {i j:Nat} {S:List (Nat×Nat)} {M:List Nat} (h:kY K i S M) (e:gl K j=i::gl K i) (h7:K[i]? =some 7):kY K j S M:=⟨h.len,by
 rw[e,dN,ak (by rw[aT,h7];decide)];exact h.heads,h.left⟩
theorem kY.mem {K:List Nat} {i:Nat} {S:List (Nat×Nat)} {M:List Nat} (h:kY K i S M) {p:Nat×Nat} (hp:p∈S):p.1∈gl K i:=by
 have:p.1∈S.map (·.1):=fE hp;rw[h.heads]at this;exact(bT.1 this).1
theorem kY.set {K:List Nat} (hn:mn K) {i:Nat} (hi:i<=K.length) {S:List (Nat×Nat)} {M:List Nat} (h:kY K i S M) (n:Nat):kY K i S (M.set i n):=⟨by rw[gM];exact h.len,h.heads,fun p hp=>by
 have:=Pb hn hi p.1 (h.mem hp);rw[dS (by omega)];exact h.left p hp⟩
theorem kY.push {K:List Nat} (hn:mn K) {i:Nat} {S:List (Nat×Nat)} {M:List Nat} (h:kY K i S M) (h8:K[i]? =some 8) {n:Nat} (h1:1<=n):kY K (i+1) ((i,n)::S) (M.set i n):=by
 have yH:=(aH.1 h8).1;have h2:=h.set hn (by omega) n;refine⟨h2.len,?_,fun p hp=> ?_⟩
 .rw[DE h8 (.inr rfl),dN,av (by rw[aT,h8];decide),dw,h.heads]
 .rcases aM.1 hp with rfl|hp
  .exact⟨by rw[eO (by rw[h.len];omega)],h1⟩
  .exact h2.left p hp
theorem kY.rep {K:List Nat} (hn:mn K) {i h:Nat} {t:List Nat} {S:List (Nat×Nat)} {M:List Nat} (r:kY K i S M) (hk:K[i]? =some 10) (hh:gl K i=h::t) (h8:K[h]? =some 8) (he:(iV K h).2=i):
  ∃ n S',S=(h,n)::S'/\M[h]? =some n/\1<=n/\h<i/\(1<n->kY K (h+1) ((h,n-1)::S') (M.set h (n-1)))/\kY K (i+1) S' (M.set h (n-1)):=by
 have yH:=(aH.1 hk).1;have ct:=Pb hn (i:=i) (by omega) h (by rw[hh];simp);have sR:=agj hn (i:=i) (by omega);rw[hh,bI]at sR;have e8:(K.getD h 0==8)=true:=by rw[aT,h8];decide
 have hd:=r.heads;rw[hh,dN,av e8]at hd;cases S with
 |nil=>cases hd
 |cons p S'=>
  obtain⟨h',n⟩:=p;rw[dw,iC]at hd;obtain⟨rfl,hS⟩:=hd;obtain⟨hM,h1⟩:=r.left (h',n) (by simp);have ho:=DF hn h8 (.inr rfl);have htt:t=gl K h':=by
   have:=ho.hd;rw[he,hh]at this;exact(List.cons.inj this).2
  have Wc: ∀ p∈S',(M.set h' (n-1))[p.1]? =some p.2/\1<=p.2:=fun p hp=>by
   have vo:p.1∈t:=by
    have:p.1∈S'.map (·.1):=fE hp;rw[hS]at this;exact(bT.1 this).1
   have:=sR.1 p.1 vo;rw[dS (by omega)];exact r.left p (bG _ hp)
  refine⟨n,S',rfl,hM,h1,ct,fun h2=>⟨by rw[gM];exact r.len,?_,fun p hp=> ?_⟩,⟨by rw[gM];exact r.len,?_,Wc⟩⟩
  .rw[DE h8 (.inr rfl),dN,av e8,dw,<-htt,hS]
  .rcases aM.1 hp with rfl|hp
   .exact⟨by dsimp only;rw[eO (by rw[r.len];omega)],by dsimp only;omega⟩
   .exact Wc p hp
  .rw[F4 hk,hh,List.tail_cons];exact hS
theorem kY.iff {K:List Nat} (hn:mn K) {i h:Nat} {t:List Nat} {S:List (Nat×Nat)} {M:List Nat} (r:kY K i S M) (hk:K[i]? =some 10) (hh:gl K i=h::t) (h7:K[h]? =some 7):
  kY K (i+1) S M/\ ∀ p S',S=p::S'->(iV K p.1).2≠i:=by
 have e7: ¬(K.getD h 0==8)=true:=by rw[aT,h7];decide
 have hd:=r.heads;rw[hh,dN,ak e7]at hd;refine⟨⟨r.len,by rw[F4 hk,hh,List.tail_cons];exact hd,r.left⟩,fun p S' e=> ?_⟩;obtain⟨h',t',XU,_,_,ai5⟩:=N5 hn hk;rw[hh]at XU;cases XU;have vo:p.1∈t:=by
  have:p.1∈S.map (·.1):=by rw[e];simp
  rw[hd]at this;exact(bT.1 this).1
 have:=ai5 p.1 vo;omega
theorem MJ: ∀ (ls:List ap) (i:Nat) (out:List Ln) (o:List Nat) (l:List Ln),rq (out.map (·.k)) []=some o->(oT ls i out o).1=some l->mn (l.map (·.k))
 |[],i,out,o,l,hn,h=>by
  rw[oT]at h;split at h
  .rename_i ho;cases h;rw[ho]at hn;exact hn
  .cases h
 |x::ls,i,out,o,l,hn,h=>by
  rw[oT]at h;split at h
  .exact MJ ls _ _ _ _ hn h
  .split at h
   .cases h
   .split at h
    .cases h
    .rename_i w y hy;split at h
     .cases h
     .split at h
      .cases h
      .rename_i o' ho;refine MJ ls _ _ _ _ ?_ h;rw[d9,RM,hn];simp only[dw,iA];rw[rq,ho];rfl
theorem Tj {s:ap} {l:List Ln} {i:Nat} (h:iU s=(some l,i)):mn (l.map (·.k)):=by
 unfold iU at h;split at h
 .cases h
 .exact MJ _ _ _ _ _ rfl (by rw[h])
end Go.bu
namespace Go.Proofs.YtphkaogbcfdllaaGreatDoor
open Go Go.Vc Go.cN Go.eg Go.cM
variable {Z:Nat->Prop}
theorem iJ.dir {H:ae} {g:Nat} (h:bu H g #[.bool true,.slice none 0 0] 148):iJ Z H (.pointer (some ⟨g,0,none⟩)) (true,[]):= .Hu h (Row.nil _ _) fun e=>absurd rfl e
theorem eq_empty (p:Bs):((ag p).toList==(⟨#[]⟩:ByteArray).toList)=decide (p=[]):=by rw[show(⟨#[]⟩:ByteArray)=ag []from rfl,p5];simp[p6]
theorem aeL {H:ae} (hZ: ∀ x,Z x->x<H.size):az Tryz.prog 17 [] H fun v H'=>(∃ b mb,v= .pointer (some ⟨b,0,none⟩)/\iQ Z H' b mb []/\H.size<=b/\H.size<=mb)/\ax H H':=by
 refine Vc.az.body Tryz.func17 Tryz.call17 rfl (by decide+kernel) rfl ?_;((conv=>whnf);repeat(any_goals((first|((with_reducible apply aE.N0);(intro H1 z1 m1 x1;(conv=>whnf)))|(refine da.build #[.map (some H.size),.int .i64 0] (by kernel_rfl) ?_)|refine Vc.aq ?_|refine Vc.bz ?_ ?_)<;>(intros;(conv=>whnf)))))
 rename_i H2 z2 b2 x2;exact⟨⟨H1.size,H.size,rfl,⟨⟨[],m1.ext x2,fun _ _=>rfl,fun k n h=>by simp[ck]at h⟩,b2,fun x hx=>by have:=hZ x hx;omega⟩,by omega,aB _⟩,x1.trans x2⟩
theorem agl (H:ae):az Tryz.prog 17 [] H fun v H'=>(∃ b mb,v= .pointer (some ⟨b,0,none⟩)/\iQ no H' b mb []/\H.size<=b/\H.size<=mb)/\ax H H':=aeL fun _ h=>h.elim
theorem BL {b mb:Nat} {A:Tr} {H:ae} (h:iQ Z H b mb A) (p:Bs):az Tryz.prog 65 [.pointer (some ⟨b,0,none⟩),.string (ag p)] H fun v H'=>AtV Z H' v (nodeAt A p)/\ax H H':=by
 have hb:=h.cL;have hm:=h.map;have e0:=eq_empty p;refine Vc.az.body Tryz.func65 Tryz.call65 rfl (by decide+kernel) rfl ?_;unfold nodeAt;by_cases hp:p=[]
 .rw[bB hp]at e0;rw[av hp];((conv=>whnf);repeat(any_goals((first|(refine da.build #[.bool true,.slice none 0 0] (by kernel_rfl) ?_)|refine Vc.aq ?_|refine Vc.bz ?_ ?_)<;>(intros;(conv=>whnf)))))
  rename_i H1 z1 b1 x1;exact⟨iJ.dir b1,x1⟩
 .rw[aN hp]at e0;rw[ak hp];cases hA:ck A p with
  |none=>
   ((conv=>whnf);repeat(any_goals((first|((with_reducible apply N4 hm hA);rfl;rfl;rfl;rfl;(conv=>whnf))|refine Vc.aq ?_|refine Vc.bz ?_ ?_)<;>(intros;(conv=>whnf)))))
   exact⟨rfl,ax.refl _⟩
  |some n=>
   ((conv=>whnf);repeat(any_goals((first|((with_reducible apply T6 hm hA);rfl;rfl;rfl;rfl;(intro v hv;(conv=>whnf)))|refine Vc.aq ?_|refine Vc.bz ?_ ?_)<;>(intros;(conv=>whnf)))))
   exact⟨hv,ax.refl _⟩
theorem Dw {b mb:Nat} {A:Tr} {H:ae} (h:iQ Z H b mb A) (hA:Sorted A) (hl:A.length<=100000) (hs:cQ A<=100000000) (m:Nat) (k:Int) (hm:m<=100000) (hk: -100000000<=k/\k<=10000000000):
  az Tryz.prog 122 [.pointer (some ⟨b,0,none⟩),.int .i64 m,.int .i64 k] H fun v H'=>v= .bool (decide (m+A.length<=500/\k+cQ A<=1048576))/\H=H':=by
 have hb:=h.cL;have wF:=h.map;refine Vc.az.body Tryz.func122 Tryz.call122 rfl (by decide+kernel) rfl ?_;by_cases h1:m+A.length<=500
 .by_cases h2:k+cQ A<=1048576
  .rw[bB ⟨h1,h2⟩];((conv=>whnf);repeat(any_goals((first|((with_reducible apply Oy wF hA);rfl;rfl;(conv=>whnf))|refine Vc.aq ?_|refine Vc.bz ?_ ?_)<;>(intros;(conv=>whnf)))))
   exact⟨by(show Value.bool (decide _)=_);rw[bB (by omega)],rfl⟩
  .rw[aN (fun e=>h2 e.2)];((conv=>whnf);repeat(any_goals((first|((with_reducible apply Oy wF hA);rfl;rfl;(conv=>whnf))|refine Vc.aq ?_|refine Vc.bz ?_ ?_)<;>(intros;(conv=>whnf)))))
   exact⟨by(show Value.bool (decide _)=_);rw[aN (by omega)],rfl⟩
 .rw[aN (fun e=>h1 e.1)];((conv=>whnf);repeat(any_goals((first|((with_reducible apply Oy wF hA);rfl;rfl;(conv=>whnf))|refine Vc.aq ?_|refine Vc.bz ?_ ?_)<;>(intros;(conv=>whnf)))))
  exact⟨rfl,rfl⟩
def zN (H':ae) (base:Nat) (v:Value) (A:Tr) (p:ap):Prop:=
 if kG A p=true then v= .tuple #[.slice none 0 0,.int .i64 54]
 else ∃ a cap,v= .tuple #[.slice a (dm A p).length cap,.int .i64 0]/\cq H' base 9 1 a (dm A p).length cap (strs (dm A p).reverse)
structure AhS where
 m:Nat
 out:List Bs
 a:Option Addr
 cap:Nat
theorem JS {b mb:Nat} {A:Tr} {H:ae} (h:iQ Z H b mb A) {p:Bs} (hp:jk p):az Tryz.prog 66 [.pointer (some ⟨b,0,none⟩),.string (ag p)] H fun v H'=>zN H' H.size v A p/\ax H H':=by
 obtain⟨l,rfl,hl⟩:=hp;have KJ:=hl.long;have akA:=hl.deep;have ym: ∀ m H,m<=l.length->az Tryz.prog 120 [.string (ag (glue (l.take m)))] H fun v H'=>v= .string (ag (glue (l.take (m-1))))/\H=H':=fun m H hm=>by
  have:=abx (glue (l.take m)) (by have:=(hl.take m).long;omega) H;rw[aaO (hl.take m).good,List.dropLast_eq_take,List.take_take,aJ]at this;rwa[show min (min m l.length-1) m=m-1 by omega]at this
 have Wd:=fun H=>ym l.length H (aB _);rw[fB]at Wd;obtain⟨ps,oE⟩: ∃ ps,jm (glue l)=ps:=⟨_,rfl⟩;have ib:ps.length=l.length-1:=by rw[<-oE,Dt,tn hl.good]
 have hpg: ∀ m,m<l.length-1->ps[m]? =some (glue (l.take (m+1))):=fun m hm=>by rw[<-oE,aet _ (by rw[tn hl.good];exact hm),tn hl.good]
 refine Vc.az.body Tryz.func66 Tryz.call66 rfl (by decide+kernel) rfl ?_;have nh:ps.drop (l.length-1)=[]:=aV (by omega);((conv=>whnf);repeat(any_goals((first|(refine(Wd _).mono ?_;rintro _ _ ⟨rfl,rfl⟩)|refine Vc.aq ?_|refine Vc.bz ?_ ?_)<;>(intros;(conv=>whnf)))))
 refine dt.intro (fun(x:AhS)=>[(7,.string (ag (glue (l.take x.m)))),(6,.slice x.a x.out.length x.cap)])
  (fun x H'=>x.m<=l.length-1/\x.out=((ps.drop x.m).filter fun d=>(ck A d).isNone).reverse/\(∀ d∈ps.drop x.m,∀ n,ck A d=some n->n.1=true)/\cq H' H.size 9 1 x.a x.out.length x.cap (strs x.out)/\ax H H') (fun x=>x.m) ⟨l.length-1,[],none,0⟩ ⟨rfl,rfl,aF⟩
  ⟨aB _,by(show []=((ps.drop (l.length-1)).filter _).reverse;rw[nh];rfl),by(show ∀ d∈ps.drop (l.length-1),_;rw[nh];intro d hd;cases hd),cq.nil _ _ _ _,ax.refl _⟩ ?_
 rintro⟨m,out,a,cap⟩ H2 ⟨hm,mG,sg,dy,bh⟩;dsimp only at hm mG sg dy ⊢;have hb:=h.cL.ext bh;have wF:=h.map.ext bh;have dT:=bh.size;have e0:=eq_empty (glue (l.take m));have j5:out.length<=12:=by
  rw[mG,List.length_reverse];refine dh (dY _ _) ?_;rw[aO];omega
 have yD:=fun H=>ym m H (by omega);by_cases mc:m=0
 .subst mc;have Cz:kG A (glue l)=false:=by
   unfold kG;rw[gY,oE];intro d hd;have:=sg d (by simpa using hd);cases hg:ck A d with
   |none=>simp
   |some n=>simp[this n hg]
  have uh:out=(dm A (glue l)).reverse:=by rw[mG];unfold dm;rw[oE];rfl
  have lx:out.length=(dm A (glue l)).length:=by rw[uh,List.length_reverse]
  rw[bB (show glue (l.take 0)=[]from rfl)]at e0;((conv=>whnf);repeat(any_goals((first|refine Vc.aq ?_|refine Vc.bz ?_ ?_)<;>(intros;(conv=>whnf)))))
  refine⟨?_,bh⟩;unfold zN;rw[Cz,ak (by simp)];rw[<-uh,<-lx];exact⟨a,cap,rfl,dy⟩
 .have cz:glue (l.take m)≠ []:=FE (hl.take m).good (fun e=>by have:=aZ List.length e;rw[aJ,cu]at this;omega);rw[aN cz]at e0;have rC:=hpg (m-1) (by omega);rw[show m-1+1=m by omega]at rC;have A5:ps.drop (m-1)=glue (l.take m)::ps.drop m:=by
   have ct:m-1<ps.length:=by omega
   rw[bP ct,show m-1+1=m by omega];rw[aD ct]at rC;rw[bW rC]
  cases hg:ck A (glue (l.take m))with
  |none=>
   ((conv=>whnf);repeat(any_goals((first|((with_reducible apply N4 wF hg);rfl;rfl;rfl;rfl;(conv=>whnf))|(refine(yD _).mono ?_;rintro _ _ ⟨rfl,rfl⟩)|refine Vc.aq ?_|refine Vc.bz ?_ ?_)<;>(intros;(conv=>whnf)))))
   rename_i H5 qD im cE a6 c6 H6 ei cV;refine⟨⟨m-1,out++[glue (l.take m)],a6,c6⟩,⟨rfl,uF _ _ _ _,aF⟩,⟨by show m-1<=_;omega,?_,?_,tp rfl ei,cV⟩,by show m-1<m;omega⟩
   .show out++_=_;rw[A5,dN,av (by rw[hg];rfl),List.reverse_cons,mG]
   .show ∀ d∈ps.drop (m-1),_;rw[A5];intro d hd n hn;rcases aM.1 hd with rfl|hd
    .rw[hg]at hn;cases hn
    .exact sg d hd n hn
  |some n=>
   obtain⟨dir,t⟩:=n;cases dir with
   |true=>
    ((conv=>whnf);repeat(any_goals((first|((with_reducible apply FG wF hg);rfl;rfl;rfl;rfl;(intro g1 a1 c1 k1 k2;(conv=>whnf)))|(refine(yD _).mono ?_;rintro _ _ ⟨rfl,rfl⟩)|refine Vc.aq ?_|refine Vc.bz ?_ ?_)<;>(intros;(conv=>whnf)))))
    refine⟨⟨m-1,out,a,cap⟩,⟨rfl,rfl,aF⟩,⟨by show m-1<=_;omega,?_,?_,dy,bh⟩,by show m-1<m;omega⟩
    .show out=_;rw[A5,dN,ak (by rw[hg];simp),mG]
    .show ∀ d∈ps.drop (m-1),_;rw[A5];intro d hd n hn;rcases aM.1 hd with rfl|hd
     .rw[hg]at hn;cases hn;rfl
     .exact sg d hd n hn
   |false=>
    ((conv=>whnf);repeat(any_goals((first|((with_reducible apply FG wF hg);rfl;rfl;rfl;rfl;(intro g1 a1 c1 k1 k2;(conv=>whnf)))|(refine(yD _).mono ?_;rintro _ _ ⟨rfl,rfl⟩)|refine Vc.aq ?_|refine Vc.bz ?_ ?_)<;>(intros;(conv=>whnf)))))
    have Cz:kG A (glue l)=true:=by
     unfold kG;rw[List.any_eq_true,oE];exact⟨_,aU rC,by rw[hg];rfl⟩
    refine⟨?_,bh⟩;unfold zN;rw[av Cz];rfl
end Go.Proofs.YtphkaogbcfdllaaGreatDoor
