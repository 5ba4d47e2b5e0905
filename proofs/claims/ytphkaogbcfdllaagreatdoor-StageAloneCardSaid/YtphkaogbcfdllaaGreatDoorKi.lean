import Derived.Test.YtphkaogbcfdllaaGreatDoorKh
import Derived.Test.YtphkaogbcfdllaaGreatDoorKd
import Derived.Shelf.SlGeneric
import Derived.Shelf.SlSortCmp.WholeK
import Derived.Ground.SlsfProg
import Derived.Test.YtphkaogbcfdllaaGreatDoorProg
import Derived.Test.YtphkaogbcfdllaaGreatDoorKe
import Derived.Test.YtphkaogbcfdllaaGreatDoorKf
import Derived.Lib.Walk
import Derived.Laws.Cover1
import Derived.Test.YtphkaogbcfdllaaGreatDoorKc
import Derived.Test.YtphkaogbcfdllaaGreatDoorKg
import Derived.Recover
set_option linter.unusedVariables false
set_option linter.unusedSimpArgs false
set_option maxRecDepth 100000
/- Slices of structs: each element's cells, and what they lead to. -/
namespace Go.Vc
variable {α:Type}
inductive gg (E:ae->α->List Value->Prop) (H:ae):List α->List Value->Prop
 |nil:gg E H [] []
 |cons {x:α} {c vs:List Value} {l:List α}:E H x c->gg E H l vs->gg E H (x::l) (c++vs)
structure mE (E:ae->α->List Value->Prop) (s:Nat):Prop where
 len: ∀ {H x c},E H x c->c.length=s
 ext: ∀ {H H' x c},ax H H'->E H x c->E H' x c
 plain: ∀ {H x c},E H x c-> ∀ u∈c,jt u=true
theorem gg.len {E:ae->α->List Value->Prop} {s:Nat} (ok:mE E s) {H:ae} {l:List α} {vs:List Value} (h:gg E H l vs):vs.length=l.length*s:=by
 induction h with
 |nil=>simp
 |cons hc _ ih=>rw[au,ih,ok.len hc,ay,iB,iE]
theorem gg.ext {E:ae->α->List Value->Prop} {s:Nat} (ok:mE E s) {H H':ae} {l:List α} {vs:List Value} (h:gg E H l vs) (k:ax H H'):gg E H' l vs:=by
 induction h with
 |nil=>exact .nil
 |cons hc _ ih=>exact .cons (ok.ext k hc) ih
theorem gg.plain {E:ae->α->List Value->Prop} {s:Nat} (ok:mE E s) {H:ae} {l:List α} {vs:List Value} (h:gg E H l vs): ∀ u∈vs,jt u=true:=by
 induction h with
 |nil=>intro u hu;cases hu
 |cons hc _ ih=>
  intro u hu;rcases bZ.1 hu with hu|hu
  .exact ok.plain hc u hu
  .exact ih u hu
theorem gg.get {E:ae->α->List Value->Prop} {s:Nat} (ok:mE E s) {H:ae} {l:List α} {vs:List Value} (h:gg E H l vs): ∀ {j:Nat} {x:α},l[j]? =some x-> ∃ c,E H x c/\ ∀ k v,c[k]? =some v->vs[j*s+k]? =some v:=by
 induction h with
 |nil=>intro j x hx;cases hx
 |cons hc hr ih=>
  intro j x hx;rename_i y c vs l;cases j with
  |zero=>
   injection hx with hx
   subst hx;exact⟨c,hc,fun k v hk=>by rw[gX,aQ,bV (aH.1 hk).1];exact hk⟩
  |succ j=>
   obtain⟨c',h1,h2⟩:=ih (j:=j) hx;refine⟨c',h1,fun k v hk=> ?_⟩;have hl:=ok.len hc;rw[bA (by rw[hl,iB];omega),hl,show(j+1)*s+k-s=j*s+k by rw[iB];omega];exact h2 k v hk
theorem gg.drop {E:ae->α->List Value->Prop} {s:Nat} (ok:mE E s) {H:ae} {l:List α} {vs:List Value} (h:gg E H l vs): ∀ k:Nat,gg E H (l.drop k) (vs.drop (k*s)):=by
 induction h with
 |nil=>intro k;simp;exact .nil
 |cons hc hr ih=>
  intro k;rename_i y c vs l;cases k with
  |zero=>rw[gX];exact .cons hc hr
  |succ k=>
   have hl:=ok.len hc;rw[List.drop_succ_cons,List.drop_append,hl,show(k+1)*s-s=k*s by rw[iB];omega,aV (show c.length<=(k+1)*s by rw[hl,iB];omega),iD];exact ih k
theorem gg.take {E:ae->α->List Value->Prop} {s:Nat} (ok:mE E s) {H:ae} {l:List α} {vs:List Value} (h:gg E H l vs): ∀ k:Nat,gg E H (l.take k) (vs.take (k*s)):=by
 induction h with
 |nil=>intro k;simp;exact .nil
 |cons hc hr ih=>
  intro k;rename_i y c vs l;cases k with
  |zero=>rw[gX,fu,fu];exact .nil
  |succ k=>
   have hl:=ok.len hc;rw[List.take_succ_cons,List.take_append,hl,show(k+1)*s-s=k*s by rw[iB];omega,aL (show c.length<=(k+1)*s by rw[hl,iB];omega)];exact .cons hc (ih k)
structure ia (E:ae->α->List Value->Prop) (H:ae) (a:Option Addr) (l:List α):Prop where
 out: ∃ vs,Row H a vs/\gg E H l vs
theorem ia.ext {E:ae->α->List Value->Prop} {s:Nat} (ok:mE E s) {H H':ae} {a:Option Addr} {l:List α} (h:ia E H a l) (k:ax H H'):ia E H' a l:=by
 obtain⟨vs,h1,h2⟩:=h.out;exact⟨vs,h1.ext k,h2.ext ok k⟩
theorem cm.el {E:ae->α->List Value->Prop} {s:Nat} (ok:mE E s) (hs:0<s) {H:ae} {a:Option Addr} {l:List α} {n:Nat} {i:Int} {K:Addr->Prop} (h:ia E H a l) (hn:l.length=n) (j:Nat) (x:α) (hi:i=j) (hx:l[j]? =some x)
  (hk: ∀ b o c,E H x c->(∀ k v,c[k]? =some v->hcell H ⟨b,o+k,none⟩=some v)->K ⟨b,o,none⟩):cm a n s i K:=by
 obtain⟨vs,h1,h2⟩:=h.out;have hj:=(aH.1 hx).1;obtain⟨c,g1,g2⟩:=h2.get ok hx;refine Go.Vc.cm.row (size:=s) h1 (by rw[h2.len ok,hn]) hs j hi (by omega) fun b o k1 k2 k3=> ?_;exact hk b (o+j*s) c g1 fun k v hv=>k3 k v (g2 k v hv)
end Go.Vc
namespace Go.Proofs.YtphkaogbcfdllaaGreatDoor
open Go Go.Vc Go.cN Go.ew
def PN (H:ae) (b:oZ) (c:List Value):Prop:=∃ a cap,c=[.string (ag b.sign),.int .i64 b.v.ma,.int .i64 b.v.mi,.int .i64 b.v.pa,.slice a b.v.pre.length cap]/\b.v.pre.length<=cap/\Row H a (strs b.v.pre)
theorem ahC:mE PN 5:=⟨fun⟨_,_,e,_⟩=>by rw[e];rfl,fun k ⟨a,cap,e,h,r⟩=>⟨a,cap,e,h,r.ext k⟩,fun⟨_,_,e,_⟩ u hu=>by
 rw[e]at hu;simp at hu;rcases hu with rfl|rfl|rfl|rfl|rfl<;>rfl⟩
def Pg (H:ae) (l:List oZ) (c:List Value):Prop:=∃ a cap,c=[.slice a l.length cap]/\l.length<=cap/\ia PN H a l
theorem agB:mE Pg 1:=⟨fun⟨_,_,e,_⟩=>by rw[e];rfl,fun k ⟨a,cap,e,h,r⟩=>⟨a,cap,e,h,r.ext ahC k⟩,fun⟨_,_,e,_⟩ u hu=>by
 rw[e]at hu;simp at hu;rcases hu with rfl;rfl⟩
def ye (H:ae) (n:gC) (c:List Value):Prop:=∃ a cap,c=[.string (ag n.name),.bool n.span.any,.slice a n.span.qF.length cap,.string (ag n.text)]/\n.span.qF.length<=cap/\ia Pg H a n.span.qF
theorem vO:mE ye 4:=⟨fun⟨_,_,e,_⟩=>by rw[e];rfl,fun k ⟨a,cap,e,h,r⟩=>⟨a,cap,e,h,r.ext agB k⟩,fun⟨_,_,e,_⟩ u hu=>by
 rw[e]at hu;simp at hu;rcases hu with rfl|rfl|rfl|rfl<;>rfl⟩
def GI (H:ae) (r:iN) (c:List Value):Prop:=∃ pa pc na nc,c=[.string (ag r.name),.int .i64 r.v.ma,.int .i64 r.v.mi,.int .i64 r.v.pa,.slice pa r.v.pre.length pc]++cv r.sum++[.int .i64 r.size,.slice na r.needs.length nc]/\r.sum.length=32/\r.v.pre.length<=pc/\Row H pa (strs r.v.pre)/\r.needs.length<=nc/\ia ye H na r.needs
theorem lI:mE GI 39:=⟨fun⟨_,_,_,_,e,h,_⟩=>by rw[e];simp[cv,h],fun k ⟨pa,pc,na,nc,e,h,h1,r1,h2,r2⟩=>⟨pa,pc,na,nc,e,h,h1,r1.ext k,h2,r2.ext vO k⟩,fun⟨_,_,_,_,e,h,_⟩ u hu=>by
 rw[e]at hu;simp[cv]at hu;rcases hu with rfl|rfl|rfl|rfl|rfl|⟨_,_,rfl⟩|rfl|rfl<;>rfl⟩
end Go.Proofs.YtphkaogbcfdllaaGreatDoor
namespace Go.Vc
theorem cP.agC {P:Program} {H:ae} {t u e ty:TypeId} {i:TypeInfo} {z:Value} {a:Option Addr} {n:Nat} {xs:List Value} {x:Value} {m:Nat} {news:List Value} {cb:Array Bool} {K:Value->ae->Prop}
  (hr:Row H a xs) (hl:xs.length=n*i.size) (mU:Src P H x i.size m news) (hm:0<m)
  (ht:P.underlying t=some (.slice e)) (hu: ∃ d,P.underlying u=some d/\(∀ k,d≠ .int k)) (hi:P.info? e=some i) (hz:i.zero=some z) (o8:z.cells.size=i.size)
  (yB:n+m<=maxLen) (BK:(n+m)*i.bytes<=140737488355328)
  (hk: ∀ cS H',cq H' H.size e i.size (some ⟨H.size,0,none⟩) (n+m) cS (xs++news)->ax H H'->K (.slice (some ⟨H.size,0,none⟩) (n+m) cS) H'):
  cP P (builtin .append #[t,u] ty cb #[.slice a n n,x]) H K:=by
 refine⟨fun w hw=> ?_⟩;obtain⟨d,hu,hd⟩:=hu;have hzero:(match d with| .int _=>true|_=>false)=false:=by cases d<;>first|rfl|exact absurd rfl (hd _)
 have Vx:n+m<=9223372036854775807:=by have:=yB;simp only[maxLen]at this;omega
 have hlen:(xs++news).length=(n+m)*i.size:=by rw[au,hl,mU.len,fK]
 have ju: ¬n+m<=n:=by omega
 have ahD: ¬m=0:=by omega
 have goal: ∀ {v w'},(Builtin.append_ #[t,u] ty #[.slice a n n,x]).run P w= .ok v w'->dC w w'->K v w'.heap->r3 P w K ((builtin .append #[t,u] ty cb #[.slice a n n,x]).run P w):=by
  intro v w' hr hs hk;simp only[builtin,Sem.run_bind,hr,Result.andThen_ok];exact⟨hs,hk⟩
 have Ge:n<n+m:=by omega
 have Ao: ¬(9223372036854775807<((n:Int)+(m:Int))):=by omega
 have kV:=growslice_fits Ge BK;have vj: ¬(281474976710656<Builtin.nextslicecap (n+m) n*i.bytes):=by omega
 have hold: ∀ w':World,w'.heap=H->(Builtin.firstCells i.size n (.slice a n n)).run P w'= .ok xs.toArray w':=fun w' rH=>C8 hr hl w' rH;have kq:n+m<=grownCap w (n+m) n e:=grownCap_ge w (n+m) n e;have AV:grownCap w (n+m) n e<=maxLen:=grownCap_le_maxLen w (n+m) n e yB;refine goal (v:= .slice (some ⟨w.heap.size,0,none⟩) (n+m) (grownCap w (n+m) n e))
  (w':=w.drew.alloc (.cells (xs.toArray++news.toArray++Builtin.zeroCells z.cells (grownCap w (n+m) n e-(n+m))) e)) ?_ ⟨rfl,rfl,rfl⟩ ?_
 .have e1:=hold w.drew hw;have e2:=mU.first w.drew hw;simp[Builtin.append_,ft ht,ft hu,mP hi,xn hi,hzero,mU.lenOf,ju,ahD,Ao,vj,Question.forced,e1,e2,zeroValue,hz,newRow,grownCap];congr 2;apply Array.ext';simp[bM]
 .subst hw;refine hk _ _ ⟨hlen,.inr ⟨w.heap.size,_,rfl,aB _,bu.new (rj _ _),kq,AV,?_,?_⟩⟩ (cD.push _ _ _)
  .simp only[Array.size_append,cK,size_zeroCells,o8,hl,mU.len,<-fK];congr 1;omega
  .simp only[Array.toList_append,bM];rw[<-bM,<-hlen];exact List.take_left
variable {α:Type}
theorem bu.nl {H:ae} {b:Nat} {c c':Array Value} {t t':TypeId} (h:bu H b c t) (h':bu H b c' t'):t=t':=by
 obtain⟨fr,h1,_⟩:=h.out;obtain⟨fr',h2,_⟩:=h'.out;rw[h1]at h2;cases h2;rfl
structure mJ (t:TypeId) (H:ae) (a:Option Addr) (cs:List Value):Prop where
 row:Row H a cs
 nl:cs≠ []-> ∀ p,a=some p-> ∃ c,bu H p.block c t
theorem mJ.nil (t:TypeId) (H:ae) (a:Option Addr):mJ t H a []:=⟨Row.nil _ _,fun h=>absurd rfl h⟩
theorem mJ.keep {F:Nat->Prop} {t:TypeId} {H H':ae} {a:Option Addr} {cs:List Value} (h:mJ t H a cs) (k:cD F H H') (hF: ∀ b c u,F b->bu H b c u->u≠t):mJ t H' a cs:=by
 have hn:cs≠ []-> ∀ p,a=some p-> ¬F p.block:=fun h0 p hp hf=>by
  obtain⟨c,hc⟩:=h.nl h0 p hp;exact hF _ c t hf hc rfl
 refine⟨h.row.vY k hn,fun h0 p hp=> ?_⟩;obtain⟨c,hc⟩:=h.nl h0 p hp;exact⟨c,hc.keep k (hn h0 p hp)⟩
theorem mJ.ext {t:TypeId} {H H':ae} {a:Option Addr} {cs:List Value} (h:mJ t H a cs) (k:ax H H'):mJ t H' a cs:=h.keep k fun _ _ _ e=>e.elim
theorem cq.ql {H:ae} {base:Nat} {e:TypeId} {size:Nat} {a:Option Addr} {n cap:Nat} {xs:List Value} (h:cq H base e size a n cap xs):mJ e H a xs:=by
 refine⟨h.row,fun h0 p hp=> ?_⟩;rcases h.out with ⟨h1,_⟩|⟨g,eE,h1,_,hb,_⟩
 .rw[h1]at hp;cases hp
 .rw[h1]at hp;cases hp;exact⟨_,hb⟩
structure qT (E:ae->α->List Value->Prop) (s:Nat) (Ts:TypeId->Prop):Prop where
 len: ∀ {H x c},E H x c->c.length=s
 plain: ∀ {H x c},E H x c-> ∀ u∈c,jt u=true
 keep: ∀ {F:Nat->Prop} {H H' x c},cD F H H'->(∀ b c u,F b->bu H b c u-> ¬Ts u)->E H x c->E H' x c
theorem qT.ok {E:ae->α->List Value->Prop} {s:Nat} {Ts:TypeId->Prop} (h:qT E s Ts):mE E s:=⟨h.len,fun k hx=>h.keep k (fun _ _ _ e=>e.elim) hx,h.plain⟩
theorem gg.keep {E:ae->α->List Value->Prop} {s:Nat} {Ts:TypeId->Prop} (ok:qT E s Ts) {F:Nat->Prop} {H H':ae} {l:List α} {vs:List Value} (h:gg E H l vs) (k:cD F H H') (hF: ∀ b c u,F b->bu H b c u-> ¬Ts u):gg E H' l vs:=by
 induction h with
 |nil=>exact .nil
 |cons hc _ ih=>exact .cons (ok.keep k hF hc) ih
theorem gg.app {E:ae->α->List Value->Prop} {H:ae} {l m:List α} {vs ws:List Value} (h:gg E H l vs) (k:gg E H m ws):gg E H (l++m) (vs++ws):=by
 induction h with
 |nil=>exact k
 |cons h1 _ ih=>rw[fO,bM];exact .cons h1 ih
theorem gg.one {E:ae->α->List Value->Prop} {H:ae} {x:α} {c:List Value} (h:E H x c):gg E H [x] c:=by
 have:=gg.cons h (gg.nil (E:=E) (H:=H));simpa using this
theorem gg.mono {E E':ae->α->List Value->Prop} {H:ae} (hE: ∀ x c,E H x c->E' H x c) {l:List α} {vs:List Value} (h:gg E H l vs):gg E' H l vs:=by
 induction h with
 |nil=>exact .nil
 |cons h1 _ ih=>exact .cons (hE _ _ h1) ih
structure rF (E:ae->α->List Value->Prop) (t:TypeId) (H:ae) (a:Option Addr) (l:List α):Prop where
 out: ∃ vs,mJ t H a vs/\gg E H l vs
theorem rF.nil (E:ae->α->List Value->Prop) (t:TypeId) (H:ae) (a:Option Addr):rF E t H a []:=⟨[],mJ.nil _ _ _,.nil⟩
theorem rF.keep {E:ae->α->List Value->Prop} {s:Nat} {Ts:TypeId->Prop} (ok:qT E s Ts) {t:TypeId} {F:Nat->Prop} {H H':ae} {a:Option Addr} {l:List α} (h:rF E t H a l) (k:cD F H H') (hF: ∀ b c u,F b->bu H b c u-> ¬(u=t\/Ts u)):rF E t H' a l:=by
 obtain⟨vs,h1,h2⟩:=h.out;exact⟨vs,h1.keep k fun b c u e hb e'=>hF b c u e hb (.inl e'),h2.keep ok k fun b c u e hb e'=>hF b c u e hb (.inr e')⟩
theorem rF.ext {E:ae->α->List Value->Prop} {s:Nat} {Ts:TypeId->Prop} (ok:qT E s Ts) {t:TypeId} {H H':ae} {a:Option Addr} {l:List α} (h:rF E t H a l) (k:ax H H'):rF E t H' a l:=h.keep ok k fun _ _ _ e=>e.elim
theorem rF.to {E E':ae->α->List Value->Prop} {t:TypeId} {H:ae} {a:Option Addr} {l:List α} (hE: ∀ x c,E H x c->E' H x c) (h:rF E t H a l):ia E' H a l:=by
 obtain⟨vs,h1,h2⟩:=h.out;exact⟨vs,h1.row,h2.mono hE⟩
structure gp (E:ae->α->List Value->Prop) (s:Nat) (H:ae) (base:Nat) (e:TypeId) (a:Option Addr) (l:List α) (cap:Nat):Prop where
 out: ∃ vs,cq H base e s a l.length cap vs/\gg E H l vs
theorem gp.nil (E:ae->α->List Value->Prop) (s:Nat) (H:ae) (base:Nat) (e:TypeId):gp E s H base e none [] 0:=⟨[],cq.nil _ _ _ _,.nil⟩
theorem gp.ext {E:ae->α->List Value->Prop} {s:Nat} (ok:mE E s) {H H':ae} {base:Nat} {e:TypeId} {a:Option Addr} {l:List α} {cap:Nat} (h:gp E s H base e a l cap) (k:ax H H'):gp E s H' base e a l cap:=by
 obtain⟨vs,h1,h2⟩:=h.out;exact⟨vs,h1.ext k,h2.ext ok k⟩
theorem gp.keep {E:ae->α->List Value->Prop} {s:Nat} {Ts:TypeId->Prop} (ok:qT E s Ts) {F:Nat->Prop} {H H':ae} {base:Nat} {e:TypeId} {a:Option Addr} {l:List α} {cap:Nat} (h:gp E s H base e a l cap) (k:cD F H H') (hF: ∀ b c u,F b->bu H b c u-> ¬Ts u) (ha: ∀ p,a=some p-> ¬F p.block):gp E s H' base e a l cap:=by
 obtain⟨vs,h1,h2⟩:=h.out;exact⟨vs,h1.keep k ha,h2.keep ok k hF⟩
theorem gp.row {E:ae->α->List Value->Prop} {s:Nat} {H:ae} {base:Nat} {e:TypeId} {a:Option Addr} {l:List α} {cap:Nat} (h:gp E s H base e a l cap):ia E H a l:=by
 obtain⟨vs,h1,h2⟩:=h.out;exact⟨vs,h1.row,h2⟩
theorem gp.GJ {E:ae->α->List Value->Prop} {s:Nat} {H:ae} {base:Nat} {e:TypeId} {a:Option Addr} {l:List α} {cap:Nat} (h:gp E s H base e a l cap):rF E e H a l:=by
 obtain⟨vs,h1,h2⟩:=h.out;exact⟨vs,h1.ql,h2⟩
theorem gp.base {E:ae->α->List Value->Prop} {s:Nat} {H:ae} {base Gd:Nat} {e:TypeId} {a:Option Addr} {l:List α} {cap:Nat} (h:gp E s H base e a l cap) (hb:Gd<=base):gp E s H Gd e a l cap:=by
 obtain⟨vs,h1,h2⟩:=h.out;exact⟨vs,h1.base hb,h2⟩
theorem gp.jC {E:ae->α->List Value->Prop} {s:Nat} {H:ae} {base:Nat} {e:TypeId} {a:Option Addr} {l:List α} {cap:Nat} (h:gp E s H base e a l cap):l.length<=cap:=by
 obtain⟨vs,h1,h2⟩:=h.out;exact h1.jC
theorem gp.block {E:ae->α->List Value->Prop} {s:Nat} {H:ae} {base:Nat} {e:TypeId} {a:Option Addr} {l:List α} {cap:Nat} (h:gp E s H base e a l cap): ∀ p,a=some p->base<=p.block/\p.block<H.size:=by
 obtain⟨vs,h1,h2⟩:=h.out;exact h1.block
theorem gp.nl {E:ae->α->List Value->Prop} {s:Nat} {H:ae} {base:Nat} {e:TypeId} {a:Option Addr} {l:List α} {cap:Nat} (h:gp E s H base e a l cap): ∀ p,a=some p-> ∃ c,bu H p.block c e:=by
 obtain⟨vs,h1,h2⟩:=h.out;intro p hp;rcases h1.out with ⟨g1,_⟩|⟨g,eE,g1,_,hb,_⟩
 .rw[g1]at hp;cases hp
 .rw[g1]at hp;cases hp;exact⟨_,hb⟩
theorem Dx {E:ae->α->List Value->Prop} {s:Nat} (ok:mE E s) {H:ae} {g base:Nat} {e:TypeId} {l:List α} {xs:List Value} (h:bu H g xs.toArray e) (hE:gg E H l xs) (hb:base<=g) (hn:l.length<=1000000):gp E s H base e (some ⟨g,0,none⟩) l l.length:=
 ⟨xs,⟨hE.len ok,.inr ⟨g,xs.toArray,rfl,hb,h,aB _,by unfold maxLen;omega,by simpa using hE.len ok,by rw[<-hE.len ok];simp⟩⟩,hE⟩
theorem cP.yw {P:Program} {E:ae->α->List Value->Prop} {s:Nat} {Ts:TypeId->Prop} (ok:qT E s Ts) {H:ae} {t u e ty:TypeId} {i:TypeInfo} {z:Value} {base:Nat} {a a2:Option Addr} {cap m c2:Nat} {l l2:List α} {n:Nat} {ws:List Value} {cb:Array Bool} {K:Value->ae->Prop}
  (ht:P.underlying t=some (.slice e)) (hu: ∃ d,P.underlying u=some d/\(∀ k,d≠ .int k)) (hi:P.info? e=some i) (hs:i.size=s) (hz:i.zero=some z) (o8:z.cells.size=i.size) (mw:i.bytes<=100000)
  (QV: ¬Ts e) (ho:gp E s H base e a l cap) (hn:l.length=n) (hr:Row H a2 ws) (hE:gg E H l2 ws) (hm:l2.length=m) (iF:n+m<=1000000) (hb:base<=H.size)
  (hk: ∀ a' cS H',gp E s H' base e a' (l++l2) cS->Wr a H H'->(∀ p,a'=some p->a'=a\/H.size<=p.block)->K (.slice a' (n+m) cS) H'):
  cP P (builtin .append #[t,u] ty cb #[.slice a n cap,.slice a2 m c2]) H K:=by
 subst hs hn hm;have ajs:=ho.nl;obtain⟨vs,h1,h2⟩:=ho.out;refine Go.Vc.cP.append ht hu hi hz o8 h1 (Src.row hr (hE.len ok.ok) (hE.plain ok.ok)) (by unfold maxLen;omega) ?_ hb fun a' cS H' g1 g2 g3=>hk a' cS H' ⟨_,by rw[au];exact g1,?_⟩ g2 g3
 .exact dh (Nat.mul_le_mul (show l.length+l2.length<=1000000 by omega) mw) (by decide)
 .refine(h2.app hE).keep ok g2 fun b c u hf qy hT=> ?_;obtain⟨p,hp,rfl⟩:=hf;obtain⟨c',Cv⟩:=ajs p hp;rw[qy.nl Cv]at hT;exact QV hT
theorem cP.ait {P:Program} {E:ae->α->List Value->Prop} {s:Nat} (ok:mE E s) {H:ae} {t u e ty:TypeId} {i:TypeInfo} {z:Value} {a a2:Option Addr} {m c2:Nat} {l l2:List α} {n:Nat} {ws:List Value} {cb:Array Bool} {K:Value->ae->Prop}
  (ht:P.underlying t=some (.slice e)) (hu: ∃ d,P.underlying u=some d/\(∀ k,d≠ .int k)) (hi:P.info? e=some i) (hs:i.size=s) (hz:i.zero=some z) (o8:z.cells.size=i.size) (mw:i.bytes<=100000)
  (ho:ia E H a l) (hn:l.length=n) (hr:Row H a2 ws) (hE:gg E H l2 ws) (hm:l2.length=m) (mc:0<m) (iF:n+m<=1000000)
  (hk: ∀ cS H',gp E s H' H.size e (some ⟨H.size,0,none⟩) (l++l2) cS->ax H H'->K (.slice (some ⟨H.size,0,none⟩) (n+m) cS) H'):
  cP P (builtin .append #[t,u] ty cb #[.slice a n n,.slice a2 m c2]) H K:=by
 subst hs hn hm;obtain⟨vs,h1,h2⟩:=ho.out;refine Go.Vc.cP.agC h1 (h2.len ok) (Src.row hr (hE.len ok) (hE.plain ok)) mc ht hu hi hz o8 (by unfold maxLen;omega) ?_ fun cS H' g1 g2=>hk cS H' ⟨_,by rw[au];exact g1,(h2.app hE).ext ok g2⟩ g2;exact dh (Nat.mul_le_mul (show l.length+l2.length<=1000000 by omega) mw) (by decide)
end Go.Vc
namespace Go.Proofs.YtphkaogbcfdllaaGreatDoor
open Go Go.Vc Go.cN Go.ew
def Cf (H:ae) (b:oZ) (c:List Value):Prop:=∃ a cap,c=[.string (ag b.sign),.int .i64 b.v.ma,.int .i64 b.v.mi,.int .i64 b.v.pa,.slice a b.v.pre.length cap]/\b.v.pre.length<=cap/\mJ 9 H a (strs b.v.pre)
theorem zC:qT Cf 5 (fun t=>t=9):=⟨fun⟨_,_,e,_⟩=>by rw[e];rfl,fun⟨_,_,e,_⟩ u hu=>by
 rw[e]at hu;simp at hu;rcases hu with rfl|rfl|rfl|rfl|rfl<;>rfl,fun k hF ⟨a,cap,e,h,r⟩=>⟨a,cap,e,h,r.keep k fun b c u f hb=>hF b c u f hb⟩⟩
theorem ahE {H:ae} {b:oZ} {c:List Value}:Cf H b c->PN H b c:=fun⟨a,cap,e,h,r⟩=>⟨a,cap,e,h,r.row⟩
def Gj (H:ae) (l:List oZ) (c:List Value):Prop:=∃ a cap,c=[.slice a l.length cap]/\l.length<=cap/\rF Cf 291 H a l
theorem Dy:qT Gj 1 (fun t=>t=291\/t=9):=⟨fun⟨_,_,e,_⟩=>by rw[e];rfl,fun⟨_,_,e,_⟩ u hu=>by
 rw[e]at hu;simp at hu;rcases hu with rfl;rfl,fun k hF ⟨a,cap,e,h,r⟩=>⟨a,cap,e,h,r.keep zC k hF⟩⟩
theorem agD {H:ae} {l:List oZ} {c:List Value}:Gj H l c->Pg H l c:=fun⟨a,cap,e,h,r⟩=>⟨a,cap,e,h,r.to fun _ _=>ahE⟩
def DW (H:ae) (n:gC) (c:List Value):Prop:=∃ a cap,c=[.string (ag n.name),.bool n.span.any,.slice a n.span.qF.length cap,.string (ag n.text)]/\n.span.qF.length<=cap/\rF Gj 228 H a n.span.qF
theorem nu:qT DW 4 (fun t=>t=228\/t=291\/t=9):=⟨fun⟨_,_,e,_⟩=>by rw[e];rfl,fun⟨_,_,e,_⟩ u hu=>by
 rw[e]at hu;simp at hu;rcases hu with rfl|rfl|rfl|rfl<;>rfl,fun k hF ⟨a,cap,e,h,r⟩=>⟨a,cap,e,h,r.keep Dy k hF⟩⟩
theorem agE {H:ae} {n:gC} {c:List Value}:DW H n c->ye H n c:=fun⟨a,cap,e,h,r⟩=>⟨a,cap,e,h,r.to fun _ _=>agD⟩
def Ph (t:TypeId):Prop:=t=176\/t=228\/t=291\/t=9
def ql (H:ae) (r:iN) (c:List Value):Prop:=∃ pa pc na nc,c=[.string (ag r.name),.int .i64 r.v.ma,.int .i64 r.v.mi,.int .i64 r.v.pa,.slice pa r.v.pre.length pc]++cv r.sum++[.int .i64 r.size,.slice na r.needs.length nc]/\r.sum.length=32/\r.v.pre.length<=pc/\mJ 9 H pa (strs r.v.pre)/\r.needs.length<=nc/\rF DW 176 H na r.needs
theorem Kv {H:ae} {r:iN} {c:List Value}:ql H r c->GI H r c:=fun⟨pa,pc,na,nc,e,h,h1,r1,h2,r2⟩=>⟨pa,pc,na,nc,e,h,h1,r1.row,h2,r2.to fun _ _=>agE⟩
theorem zF:qT ql 39 Ph:=⟨fun h=>lI.len (Kv h),fun h=>lI.plain (Kv h),fun k hF ⟨pa,pc,na,nc,e,h,h1,r1,h2,r2⟩=>⟨pa,pc,na,nc,e,h,h1,r1.keep k fun b c u f hb e'=>hF b c u f hb (.inr (.inr (.inr e'))),h2,r2.keep nu k hF⟩⟩
def Lf (H:ae) (p:nU) (c:List Value):Prop:=∃ pa pc,c=[.string (ag p.name),.int .i64 p.v.ma,.int .i64 p.v.mi,.int .i64 p.v.pa,.slice pa p.v.pre.length pc]++cv p.sum/\p.sum.length=32/\p.v.pre.length<=pc/\Row H pa (strs p.v.pre)
theorem Kw:mE Lf 37:=⟨fun⟨_,_,e,h,_⟩=>by rw[e];simp[cv,h],fun k ⟨pa,pc,e,h,h1,r1⟩=>⟨pa,pc,e,h,h1,r1.ext k⟩,fun⟨_,_,e,h,_⟩ u hu=>by
 rw[e]at hu;simp[cv]at hu;rcases hu with rfl|rfl|rfl|rfl|rfl|⟨_,_,rfl⟩<;>rfl⟩
def sL (H:ae) (p:nU) (c:List Value):Prop:=∃ pa pc,c=[.string (ag p.name),.int .i64 p.v.ma,.int .i64 p.v.mi,.int .i64 p.v.pa,.slice pa p.v.pre.length pc]++cv p.sum/\p.sum.length=32/\p.v.pre.length<=pc/\mJ 9 H pa (strs p.v.pre)
theorem VI {H:ae} {p:nU} {c:List Value}:sL H p c->Lf H p c:=fun⟨pa,pc,e,h,h1,r⟩=>⟨pa,pc,e,h,h1,r.row⟩
theorem oS:qT sL 37 (fun t=>t=9):=⟨fun h=>Kw.len (VI h),fun h=>Kw.plain (VI h),fun k hF ⟨pa,pc,e,h,h1,r⟩=>⟨pa,pc,e,h,h1,r.keep k fun b c u f hb=>hF b c u f hb⟩⟩
def ajt (H:ae) (v:fp) (c:List Value):Prop:=∃ pa pc,c=[.int .i64 v.ma,.int .i64 v.mi,.int .i64 v.pa,.slice pa v.pre.length pc]/\v.pre.length<=pc/\Row H pa (strs v.pre)
theorem VJ:mE ajt 4:=⟨fun⟨_,_,e,_⟩=>by rw[e];rfl,fun k ⟨pa,pc,e,h1,r1⟩=>⟨pa,pc,e,h1,r1.ext k⟩,fun⟨_,_,e,_⟩ u hu=>by
 rw[e]at hu;simp at hu;rcases hu with rfl|rfl|rfl|rfl<;>rfl⟩
end Go.Proofs.YtphkaogbcfdllaaGreatDoor
namespace Go.ew
open Go.cN Go.cM
abbrev CT:=ap->Option Nat
def W3 (R:List iN) (c:CT) (n:gC):Prop:=∃ i r,c n.name=some i/\R[i]? =some r/\ajp n.span r.v=true
inductive Reach (R:List iN) (N:List gC) (c:CT):ap->Prop
 |root {n:gC}:n∈N->Reach R N c n.name
 |step {k:ap} {i:Nat} {r:iN} {n:gC}:Reach R N c k->c k=some i->R[i]? =some r->n∈r.needs->Reach R N c n.name
structure Yv (R:List iN) (N:List gC) (c:CT):Prop where
 row: ∀ k i,c k=some i-> ∃ r,R[i]? =some r/\r.name=k
 root: ∀ n∈N,W3 R c n
 all: ∀ k i r,c k=some i->R[i]? =some r-> ∀ n∈r.needs,W3 R c n
 reach: ∀ k i,c k=some i->Reach R N c k
def xZ (R:List iN):Prop:=∀ (i j:Nat) (r s:iN),R[i]? =some r->R[j]? =some s->r.name=s.name->r.v=s.v->i=j
def ahF (R:List iN):Option Nat->Option Nat->Prop
 |some i,some j=>∃ r s,R[i]? =some r/\R[j]? =some s/\pD r.v s.v=1
 |some _,none=>True
 |none,_=>False
def Wh (R:List iN):List ap->CT->CT->Prop
 |[],_,_=>False
 |k::ks,c,d=>ahF R (c k) (d k)\/(c k=d k/\Wh R ks c d)
def W4 (r:iN):nU:=⟨r.name,r.v,r.sum⟩
def oC (R:List iN) (k:ap) (v:fp):Option Nat:=R.findIdx? fun r=>decide (r.name=k)&&decide (pD r.v v=0)
def W5 (R:List iN) (P:List nU):CT:=fun k=>(P.find? fun p=>p.name==k).bind fun p=>oC R p.name p.v
end Go.ew
namespace Go.Proofs.YtphkaogbcfdllaaGreatDoor
open Go Go.Vc Go.cN Go.ew
theorem aE.pZ {H H0:ae} {b o:Nat} {v:fp} {pa:Option Addr} {pc:Nat} {K:Value->ae->Prop} (hc: ∀ k u,([.int .i64 v.ma,.int .i64 v.mi,.int .i64 v.pa,.slice pa v.pre.length pc]:List Value)[k]? =some u->hcell H0 ⟨b,o+k,none⟩=some u) (he:ax H0 H) (hk:K (mW v pa pc) H):aE Tryz.prog (Instr.loadAt 83 (.pointer (some ⟨b,o,none⟩))) H K:=by
 have:=Go.Vc.aE.tv (P:=Tryz.prog) (t:=83) (H:=H) (b:=b) (o:=o) (vs:=[.int .i64 v.ma,.int .i64 v.mi,.int .i64 v.pa,.slice pa v.pre.length pc]) (K:=K) rfl rfl rfl (fun j u hu=>jj (hc j u hu) he id) hk;exact this
theorem aE.Bv {H H0:ae} {b o:Nat} {c:List Value} {K:Value->ae->Prop} (hl:c.length=39) (hc: ∀ k u,c[k]? =some u->hcell H0 ⟨b,o+k,none⟩=some u) (he:ax H0 H) (hk:K (.agg c.toArray) H):aE Tryz.prog (Instr.loadAt 88 (.pointer (some ⟨b,o,none⟩))) H K:=by
 have:=Go.Vc.aE.tv (P:=Tryz.prog) (t:=88) (H:=H) (b:=b) (o:=o) (vs:=c) (K:=K) rfl rfl (by rw[hl];rfl) (fun j u hu=>jj (hc j u hu) he id) hk;exact this
theorem Km {c:List Value} {n x1 x2 x3 x4:Value} {X Y:List Value} (e:c=[n,x1,x2,x3,x4]++X++Y): ∀ k u,([x1,x2,x3,x4]:List Value)[k]? =some u->c[k+1]? =some u:=by
 subst e;intro k u hu
 match k,hu with
 |0,hu=>exact hu
 |1,hu=>exact hu
 |2,hu=>exact hu
 |3,hu=>exact hu
def W6:Array Value:= #[.string ⟨#[]⟩,.int .i64 0,.int .i64 0,.int .i64 0,.slice none 0 0]++Array.replicate 32 (.int .u8 0)++ #[.int .i64 0,.slice none 0 0]
structure aju (H:ae) (R:List iN) (o:Option Nat) (x:Value):Prop where
 out:match o with
  |some i=>∃ r c,R[i]? =some r/\x= .tuple #[.agg c.toArray,.bool true]/\GI H r c
  |none=>x= .tuple #[.agg W6,.bool false]
theorem ahG {R:List iN} {k:Bs} {v:fp} {i:Nat} {r:iN} (hr:R[i]? =some r) (h1:r.name=k) (h2:pD r.v v=0) (je: ∀ j s,j<i->R[j]? =some s-> ¬(s.name=k/\pD s.v v=0)):oC R k v=some i:=by
 unfold oC;obtain⟨hi,e⟩:=aH.1 hr;refine List.findIdx?_eq_some_iff_getElem.2 ⟨hi,?_,fun j hj=> ?_⟩
 .rw[e];simp[h1,h2]
 .have:=je j R[j] hj (aD (by omega));simpa using this
theorem ahH {R:List iN} {k:Bs} {v:fp} (je: ∀ j s,j<R.length->R[j]? =some s-> ¬(s.name=k/\pD s.v v=0)):oC R k v=none:=by
 unfold oC;rw[List.findIdx?_eq_none_iff];intro s hs;obtain⟨j,hj⟩:=List.getElem?_of_mem hs;have:=je j s (aH.1 hj).1 hj;simpa using this
set_option maxHeartbeats 4000000 in
theorem adw (R:List iN) (k:Bs) (v:fp) (hv:yv v) (hR: ∀ r∈R,yv r.v) (a:Option Addr) (n cap:Nat) (y:Value) (H0 H:ae) (k0:ax H0 H) (hr:ia GI H0 a R) (hn:R.length=n) (mM:n<=1000000) (hy:yu H v y):az Tryz.prog 53 [.slice a n cap,.string (ag k),y] H fun x H'=>aju H0 R (oC R k v) x/\ax H H':=by
 obtain⟨I,hI⟩: ∃ I,oC R k v=I:=⟨_,rfl⟩;rw[hI];obtain⟨ya,yc,ey,Ew,Yw⟩:=hy.out;subst ey;refine Vc.az.body Tryz.func53 Tryz.call53 rfl (by decide+kernel) rfl ?_;unfold mW;((conv=>whnf);repeat(any_goals((first|refine Vc.aq ?_)<;>(intros;(conv=>whnf)))))
 rename_i H1 z1 g1 x1 H2 z2 g2 x2;have pb: ∀ (k:Nat) (u:Value),([.int .i64 v.ma,.int .i64 v.mi,.int .i64 v.pa,.slice ya v.pre.length yc]:List Value)[k]? =some u->hcell H1 ⟨H.size,0+k,none⟩=some u:=fun k u hu=>by
  rw[g1.cell,aQ]
  match k,hu with
  |0,hu=>exact hu
  |1,hu=>exact hu
  |2,hu=>exact hu
  |3,hu=>exact hu
 have gn:=x1.trans x2;refine dt.intro (fun(i:Nat)=>[(8,.int .i64 i)]) (fun i H'=>i<=n/\(∀ j s,j<i->R[j]? =some s-> ¬(s.name=k/\pD s.v v=0))/\ax H2 H') (fun i=>n-i) 0 ⟨rfl,aF⟩ ⟨aI _,fun j s h=>absurd h (Nat.not_lt_zero _),ax.refl _⟩ ?_;rintro i H3 ⟨hi,je,bw⟩;have eJ:=bw.size;have j3:=gn.trans bw;have yx:=dx trivial (k0.trans j3);have g23:=g2.ext bw;by_cases ct:i<n
 .obtain⟨r,ic⟩: ∃ r,R[i]? =some r:=⟨_,aD (by omega)⟩;have qW:=hR r (aU ic);have uq: ∀ {C:Prop},(r.name=k/\pD r.v v=0->False)-> ∀ j s,j<i+1->R[j]? =some s-> ¬(s.name=k/\pD s.v v=0):=fun{C} h j s hj hs=>by
   by_cases e:j=i
   .subst e;rw[ic]at hs;injection hs with hs;rw[<-hs];exact h
   .exact je j s (by omega) hs
  by_cases h1:r.name=k
  .have e1:((ag r.name).toList==(ag k).toList)=true:=by rw[p7];exact bB h1
   by_cases h2:pD r.v v=0
   .rw[<-hI,ahG ic h1 h2 je];((conv=>whnf);repeat(any_goals((first|(refine cm.el lI (by decide) hr hn i r rfl ic ?_;intro b o c jL cU;obtain⟨pa,pc,na,nc,ec,sk,ib,pf,PO,wR⟩:=(id jL);have Iw:=(fun k u hu=>(by rw[eF,iE 1 k];exact cU (k+1) u (Km ec k u hu)): ∀ (k:Nat) (u:Value),([.int .i64 r.v.ma,.int .i64 r.v.mi,.int .i64 r.v.pa,.slice pa r.v.pre.length pc]:List Value)[k]? =some u->hcell _ ⟨b,o+1+k,none⟩=some u);have iL:hcell _ ⟨b,o+0,none⟩=some (Value.string (ag r.name)):=cU 0 _ (by rw[ec];rfl))|((with_reducible apply aE.pZ);(exact Iw);(exact yx.2.trans (by exact Vc.xt));(conv=>whnf))|((with_reducible apply aE.pZ);(exact pb);(focus((exact x2.trans (bw.trans (by exact Vc.xt)))));(conv=>whnf))|((with_reducible apply aE.Bv);(exact lI.len jL);(exact im);(exact ax.refl _);(conv=>whnf))|((with_reducible apply aE.Bv);(exact lI.len jL);(exact cU);(exact yx.2.trans (by exact Vc.xt));(conv=>whnf))|(refine(Nz r.v v qW hv _ _ _ ⟨_,_,rfl,ib,pf.ext (yx.2.trans (by exact Vc.xt))⟩ (hy.ext (j3.trans (by exact Vc.xt)))).mono ?_;rintro _ H4 ⟨rfl,cH⟩;have gA:=cH.size)|(refine dc.pW (g23.ext (by exact Vc.xt)) rfl (by(show(List.toArray _).size=39;rw[cK,lI.len jL])) (by(show 39=(List.toArray _).size;rw[cK,lI.len jL])) (fun u hu=>lI.plain jL u (by simpa using hu)) ?_;intro H5 z5 b5 k5;have im: ∀ (k:Nat) (u:Value),c[k]? =some u->hcell H5 ⟨H1.size,0+k,none⟩=some u:=fun k u hu=>(by rw[b5.cell,aQ];simpa using hu))|refine Vc.aq ?_)<;>(intros;(conv=>whnf)))))
    exact⟨⟨r,c,ic,rfl,jL⟩,(j3.trans (show ax H3 _ by exact Vc.xt)).but k5 (by omega)⟩
   ·((conv=>whnf);repeat(any_goals((first|(refine cm.el lI (by decide) hr hn i r rfl ic ?_;intro b o c jL cU;obtain⟨pa,pc,na,nc,ec,sk,ib,pf,PO,wR⟩:=(id jL);have Iw:=(fun k u hu=>(by rw[eF,iE 1 k];exact cU (k+1) u (Km ec k u hu)): ∀ (k:Nat) (u:Value),([.int .i64 r.v.ma,.int .i64 r.v.mi,.int .i64 r.v.pa,.slice pa r.v.pre.length pc]:List Value)[k]? =some u->hcell _ ⟨b,o+1+k,none⟩=some u);have iL:hcell _ ⟨b,o+0,none⟩=some (Value.string (ag r.name)):=cU 0 _ (by rw[ec];rfl))|((with_reducible apply aE.pZ);(exact Iw);(exact yx.2.trans (by exact Vc.xt));(conv=>whnf))|((with_reducible apply aE.pZ);(exact pb);(focus((exact x2.trans (bw.trans (by exact Vc.xt)))));(conv=>whnf))|((with_reducible apply aE.Bv);(exact lI.len jL);(exact im);(exact ax.refl _);(conv=>whnf))|((with_reducible apply aE.Bv);(exact lI.len jL);(exact cU);(exact yx.2.trans (by exact Vc.xt));(conv=>whnf))|(refine(Nz r.v v qW hv _ _ _ ⟨_,_,rfl,ib,pf.ext (yx.2.trans (by exact Vc.xt))⟩ (hy.ext (j3.trans (by exact Vc.xt)))).mono ?_;rintro _ H4 ⟨rfl,cH⟩;have gA:=cH.size)|(refine dc.pW (g23.ext (by exact Vc.xt)) rfl (by(show(List.toArray _).size=39;rw[cK,lI.len jL])) (by(show 39=(List.toArray _).size;rw[cK,lI.len jL])) (fun u hu=>lI.plain jL u (by simpa using hu)) ?_;intro H5 z5 b5 k5;have im: ∀ (k:Nat) (u:Value),c[k]? =some u->hcell H5 ⟨H1.size,0+k,none⟩=some u:=fun k u hu=>(by rw[b5.cell,aQ];simpa using hu))|refine Vc.aq ?_)<;>(intros;(conv=>whnf)))))
    exact⟨i+1,⟨rfl,aF⟩,⟨by omega,uq (C:=True) fun h=>h2 h.2,bw.trans (by exact Vc.xt)⟩,by omega⟩
  .have e1:((ag r.name).toList==(ag k).toList)=false:=by rw[p7];exact aN h1
   ((conv=>whnf);repeat(any_goals((first|(refine cm.el lI (by decide) hr hn i r rfl ic ?_;intro b o c jL cU;obtain⟨pa,pc,na,nc,ec,sk,ib,pf,PO,wR⟩:=(id jL);have Iw:=(fun k u hu=>(by rw[eF,iE 1 k];exact cU (k+1) u (Km ec k u hu)): ∀ (k:Nat) (u:Value),([.int .i64 r.v.ma,.int .i64 r.v.mi,.int .i64 r.v.pa,.slice pa r.v.pre.length pc]:List Value)[k]? =some u->hcell _ ⟨b,o+1+k,none⟩=some u);have iL:hcell _ ⟨b,o+0,none⟩=some (Value.string (ag r.name)):=cU 0 _ (by rw[ec];rfl))|((with_reducible apply aE.pZ);(exact Iw);(exact yx.2.trans (by exact Vc.xt));(conv=>whnf))|((with_reducible apply aE.pZ);(exact pb);(focus((exact x2.trans (bw.trans (by exact Vc.xt)))));(conv=>whnf))|((with_reducible apply aE.Bv);(exact lI.len jL);(exact im);(exact ax.refl _);(conv=>whnf))|((with_reducible apply aE.Bv);(exact lI.len jL);(exact cU);(exact yx.2.trans (by exact Vc.xt));(conv=>whnf))|(refine(Nz r.v v qW hv _ _ _ ⟨_,_,rfl,ib,pf.ext (yx.2.trans (by exact Vc.xt))⟩ (hy.ext (j3.trans (by exact Vc.xt)))).mono ?_;rintro _ H4 ⟨rfl,cH⟩;have gA:=cH.size)|(refine dc.pW (g23.ext (by exact Vc.xt)) rfl (by(show(List.toArray _).size=39;rw[cK,lI.len jL])) (by(show 39=(List.toArray _).size;rw[cK,lI.len jL])) (fun u hu=>lI.plain jL u (by simpa using hu)) ?_;intro H5 z5 b5 k5;have im: ∀ (k:Nat) (u:Value),c[k]? =some u->hcell H5 ⟨H1.size,0+k,none⟩=some u:=fun k u hu=>(by rw[b5.cell,aQ];simpa using hu))|refine Vc.aq ?_)<;>(intros;(conv=>whnf)))))
   exact⟨i+1,⟨rfl,aF⟩,⟨by omega,uq (C:=True) fun h=>h1 h.1,bw.trans (by exact Vc.xt)⟩,by omega⟩
 .obtain rfl:i=n:=by omega
  rw[<-hI,ahH fun j s hj hs=>je j s (by omega) hs];((conv=>whnf);repeat(any_goals((first|(refine da.uJ W6 (by kernel_rfl) ?_)|refine Vc.aq ?_)<;>(intros;(conv=>whnf)))))
  rename_i H4 z4 b4 k4;exact⟨⟨rfl⟩,j3.but k4 (by omega)⟩
end Go.Proofs.YtphkaogbcfdllaaGreatDoor
namespace Go.Proofs
open Go.Shelf
def Tryz.adx:Go.Shelf.Ren:=⟨fun|6=>75|15=>135|14=>134|28=>190|29=>191|20=>182|21=>183|22=>184|23=>185|24=>186|25=>187|26=>188|27=>189|46=>222|47=>223|48=>224|49=>225|50=>226|57=>253|n=>n,fun|22=>46|24=>71|25=>166|3=>3|39=>226|0=>0|53=>234|55=>187|4=>4|46=>283|45=>282|50=>190|5=>5|9=>9|66=>330|70=>334|76=>357|77=>157|n=>n,fun|n=>n⟩
theorem Tryz.aiu:Go.Proofs.SlLaysF0.n6 Tryz.prog Tryz.adx:={
 mixed:=by kernel_rfl
 f6:=⟨Tryz.f75.name,by decide,Tryz.func75.trans (aZ some (by kernel_rfl))⟩
 f14:=⟨Tryz.f134.name,by decide,Tryz.func134.trans (aZ some (by kernel_rfl))⟩
 f15:=Tryz.func135.trans (aZ some (by kernel_rfl))
 f20:=⟨Tryz.f182.name,by decide,Tryz.func182.trans (aZ some (by kernel_rfl))⟩
 f21:=⟨Tryz.f183.name,by decide,Tryz.func183.trans (aZ some (by kernel_rfl))⟩
 f22:=⟨Tryz.f184.name,by decide,Tryz.func184.trans (aZ some (by kernel_rfl))⟩
 f23:=⟨Tryz.f185.name,by decide,Tryz.func185.trans (aZ some (by kernel_rfl))⟩
 f24:=⟨Tryz.f186.name,by decide,Tryz.func186.trans (aZ some (by kernel_rfl))⟩
 f25:=⟨Tryz.f187.name,by decide,Tryz.func187.trans (aZ some (by kernel_rfl))⟩
 f26:=⟨Tryz.f188.name,by decide,Tryz.func188.trans (aZ some (by kernel_rfl))⟩
 f27:=⟨Tryz.f189.name,by decide,Tryz.func189.trans (aZ some (by kernel_rfl))⟩
 f28:=Tryz.func190.trans (aZ some (by kernel_rfl))
 f29:=Tryz.func191.trans (aZ some (by kernel_rfl))
 f46:=⟨Tryz.f222.name,by decide,Tryz.func222.trans (aZ some (by kernel_rfl))⟩
 f47:=Tryz.func223.trans (aZ some (by kernel_rfl))
 f48:=Tryz.func224.trans (aZ some (by kernel_rfl))
 f49:=⟨Tryz.f225.name,by decide,Tryz.func225.trans (aZ some (by kernel_rfl))⟩
 f50:=⟨Tryz.f226.name,by decide,Tryz.func226.trans (aZ some (by kernel_rfl))⟩
 f57:=⟨Tryz.f253.name,by decide,Tryz.func253.trans (aZ some (by kernel_rfl))⟩
 t0:=Tryz.underlying0
 a0:=Tryz.isAgg0
 z0:=Tryz.sizeOf0
 v0:=Tryz.zeroValue0
 t3:=Tryz.underlying3
 a3:=Tryz.isAgg3
 z3:=Tryz.sizeOf3
 v3:=Tryz.zeroValue3
 t4:=Tryz.underlying4
 a4:=Tryz.isAgg4
 z4:=Tryz.sizeOf4
 v4:=Tryz.zeroValue4
 t5:=Tryz.underlying5
 a5:=Tryz.isAgg5
 z5:=Tryz.sizeOf5
 v5:=Tryz.zeroValue5
 t9:=Tryz.underlying9
 a9:=Tryz.isAgg9
 z9:=Tryz.sizeOf9
 v9:=Tryz.zeroValue9
 t22:=Tryz.underlying46
 a22:=Tryz.isAgg46
 z22:=Tryz.sizeOf46
 v22:=Tryz.zeroValue46
 t25:=Tryz.underlying166
 a25:=Tryz.isAgg166
 z25:=Tryz.sizeOf166
 v25:=Tryz.zeroValue166
 t39:=Tryz.underlying226
 a39:=Tryz.isAgg226
 z39:=Tryz.sizeOf226
 v39:=Tryz.zeroValue226
 t45:=Tryz.underlying282
 a45:=Tryz.isAgg282
 z45:=Tryz.sizeOf282
 v45:=Tryz.zeroValue282
 t46:=Tryz.underlying283
 a46:=Tryz.isAgg283
 z46:=Tryz.sizeOf283
 v46:=Tryz.zeroValue283
 t50:=Tryz.underlying190
 a50:=Tryz.isAgg190
 z50:=Tryz.sizeOf190
 v50:=Tryz.zeroValue190
 t53:=Tryz.underlying234
 a53:=Tryz.isAgg234
 z53:=Tryz.sizeOf234
 v53:=Tryz.zeroValue234
 t55:=Tryz.underlying187
 a55:=Tryz.isAgg187
 z55:=Tryz.sizeOf187
 v55:=Tryz.zeroValue187
 t66:=Tryz.underlying330
 a66:=Tryz.isAgg330
 z66:=Tryz.sizeOf330
 v66:=Tryz.zeroValue330
 t70:=Tryz.underlying334
 a70:=Tryz.isAgg334
 z70:=Tryz.sizeOf334
 v70:=Tryz.zeroValue334
 t76:=Tryz.underlying357
 a76:=Tryz.isAgg357
 z76:=Tryz.sizeOf357
 v76:=Tryz.zeroValue357
 t77:=Tryz.underlying157
 a77:=Tryz.isAgg157
 z77:=Tryz.sizeOf157
 v77:=Tryz.zeroValue157}
end Go.Proofs
namespace Go.Proofs.YtphkaogbcfdllaaGreatDoor
open Go Go.Vc Go.cN Go.eg Go.cM
variable {Z:Nat->Prop}
def kU (x:ap×cM.Node) (a:Option Addr) (cap:Nat):List Value:=[.string (ag x.1),.bool x.2.1,.slice a x.2.2.length cap]
inductive kg (H:ae):Tr->List Value->Prop where
 |nil:kg H [] []
 |cons {x:ap×cM.Node} {l:Tr} {a:Option Addr} {cap:Nat} {vs:List Value}:Row H a (cv x.2.2)->kg H l vs->kg H (x::l) (kU x a cap++vs)
theorem kg.len {H:ae} {A:Tr} {vs:List Value} (h:kg H A vs):vs.length=A.length*3:=by
 induction h with
 |nil=>rfl
 |cons _ _ ih=>rw[au,ih,ay];show 3+_=_;omega
theorem kg.keep {F:Nat->Prop} {H H':ae} {A:Tr} {vs:List Value} (h:kg H A vs) (k:cD F H H') (hF: ∀ b,F b->b<H.size->qQ H b):kg H' A vs:=by
 induction h with
 |nil=>exact .nil
 |cons h _ ih=>exact .cons (h.bytes k hF) ih
theorem kg.ext {H H':ae} {A:Tr} {vs:List Value} (h:kg H A vs) (k:ax H H'):kg H' A vs:=h.keep k fun _ h=>h.elim
theorem kg.append {H:ae} {A B:Tr} {vs ws:List Value} (h:kg H A vs) (k:kg H B ws):kg H (A++B) (vs++ws):=by
 induction h with
 |nil=>exact k
 |cons h _ ih=>rw[fO,bM];exact .cons h ih
theorem kg.get {H:ae} {A:Tr} {vs:List Value} (h:kg H A vs): ∀ {i:Nat} {x:ap×cM.Node},A[i]? =some x-> ∃ a cap,Row H a (cv x.2.2)/\ ∀ j v,(kU x a cap)[j]? =some v->vs[i*3+j]? =some v:=by
 induction h with
 |nil=>intro i x hx;simp at hx
 | @cons y l a cap vs h _ ih=>
  intro i x hx;cases i with
  |zero=>
   simp only[dB,dO]at hx;subst hx;refine⟨a,cap,h,fun j v hv=> ?_⟩;have hj:=(aH.1 hv).1;rw[gX,aQ,bV hj];exact hv
  |succ i=>
   obtain⟨a',cS,h1,h2⟩:=ih (i:=i) (x:=x) (by simpa using hx);refine⟨a',cS,h1,fun j v hv=> ?_⟩;rw[bA (by show 3<=_;omega)];have e:(i+1)*3+j-(kU y a cap).length=i*3+j:=by show(i+1)*3+j-3=_;omega
   rw[e];exact h2 j v hv
theorem kg.plain {H:ae} {A:Tr} {vs:List Value} (h:kg H A vs): ∀ u∈vs,jt u=true:=by
 induction h with
 |nil=>intro u hu;cases hu
 |cons _ _ ih=>
  intro u hu;rcases bZ.1 hu with hu|hu
  .simp[kU]at hu;rcases hu with rfl|rfl|rfl<;>rfl
  .exact ih u hu
theorem kg.head {H:ae} {A:Tr} {vs:List Value} (h:kg H A vs) (hn:vs≠ []): ∃ s,vs[0]? =some (.string s):=by
 cases h with
 |nil=>exact absurd rfl hn
 |cons _ _=>exact⟨_,rfl⟩
structure j4 (H:ae) (a:Option Addr) (A:Tr):Prop where
 out: ∃ vs,Row H a vs/\kg H A vs
theorem j4.nil (H:ae) (a:Option Addr):j4 H a []:=⟨[],Row.nil _ _,.nil⟩
theorem j4.keep {F:Nat->Prop} {H H':ae} {a:Option Addr} {A:Tr} (h:j4 H a A) (k:cD F H H') (hF: ∀ b,F b->b<H.size->qQ H b):j4 H' a A:=by
 obtain⟨vs,h1,h2⟩:=h.out;refine⟨vs,h1.vY k fun cz p hp hf=> ?_,h2.keep k hF⟩;obtain⟨b,o,ha,ct,hc⟩:=h1.at (bY.2 cz);rw[ha]at hp;cases hp;obtain⟨s,hs⟩:=h2.head cz;have:=(hF _ hf ct).out _ _ (hc 0 _ hs);cases this
theorem j4.ext {H H':ae} {a:Option Addr} {A:Tr} (h:j4 H a A) (k:ax H H'):j4 H' a A:=h.keep k fun _ h=>h.elim
theorem cm.file {H:ae} {a:Option Addr} {A:Tr} {n:Nat} {i:Int} {K:Addr->Prop} (h:j4 H a A) (hn:A.length=n) (j:Nat) (x:ap×cM.Node) (hi:i=j) (hx:A[j]? =some x)
  (hk: ∀ b o a' cS,Row H a' (cv x.2.2)->(∀ k v,(kU x a' cS)[k]? =some v->hcell H ⟨b,o+k,none⟩=some v)->K ⟨b,o,none⟩):cm a n 3 i K:=by
 obtain⟨vs,h1,h2⟩:=h.out;have hj:=(aH.1 hx).1;obtain⟨a',cS,g1,g2⟩:=h2.get hx;refine Go.Vc.cm.row (size:=3) h1 (by rw[h2.len,hn]) (by decide) j hi (by omega) fun b o k1 k2 k3=> ?_;exact hk b (o+j*3) a' cS g1 fun k v hv=>k3 k v (g2 k v hv)
theorem aE.nr {H H0:ae} {b o:Nat} {x:ap×cM.Node} {a:Option Addr} {cap:Nat} {K:Value->ae->Prop} (hc: ∀ k v,(kU x a cap)[k]? =some v->hcell H0 ⟨b,o+k,none⟩=some v) (he:ax H0 H) (hk:K (.agg #[.string (ag x.1),.bool x.2.1,.slice a x.2.2.length cap]) H):aE Tryz.prog (Instr.loadAt 71 (.pointer (some ⟨b,o,none⟩))) H K:=by
 have:=Go.Vc.aE.tv (P:=Tryz.prog) (t:=71) (H:=H) (b:=b) (o:=o) (vs:=kU x a cap) (K:=K) rfl rfl rfl (fun j v hv=>jj (hc j v hv) he id) hk;exact this
structure Gk (H:ae) (b:Nat) (A:Tr):Prop where
 out: ∃ a spare,bu H b #[.slice a A.length (A.length+spare)] 48/\j4 H a A
end Go.Proofs.YtphkaogbcfdllaaGreatDoor
namespace Go.cM
open Go.cN
abbrev SF:=ap×Bool×Option Addr×Nat×Nat
def fN (x:SF):List Value:=[.string (Go.Vc.ag x.1),.bool x.2.1,.slice x.2.2.1 x.2.2.2.1 x.2.2.2.2]
end Go.cM
namespace Go.Proofs.YtphkaogbcfdllaaGreatDoor
open Go Go.Vc Go.cN Go.eg Go.cM
structure Told (H:ae) (f:SF) (x:Bs×cM.Node):Prop where
 path:f.1=x.1
 dir:f.2.1=x.2.1
 len:f.2.2.2.1=x.2.2.length
 own:cq H 0 5 1 f.2.2.1 x.2.2.length f.2.2.2.2 (cv x.2.2)
def gE (H:ae):List SF->Tr->Prop
 |[],[]=>True
 |f::fs,x::xs=>Told H f x/\gE H fs xs
 |_,_=>False
theorem Told.keep {F:Nat->Prop} {H H':ae} {f:SF} {x:Bs×cM.Node} (h:Told H f x) (k:cD F H H') (hF: ∀ b c,F b-> ¬bu H b c 5):Told H' f x:=⟨h.path,h.dir,h.len,h.own.keep k fun p hp hf=>by
 rcases h.own.out with ⟨h1,_⟩|⟨g,eE,h1,_,hb,_⟩
 .rw[h1]at hp;cases hp
 .rw[h1]at hp;cases hp;exact hF _ _ hf hb⟩
theorem gE.keep {F:Nat->Prop} {H H':ae} (k:cD F H H') (hF: ∀ b c,F b-> ¬bu H b c 5): ∀ {fs:List SF} {xs:Tr},gE H fs xs->gE H' fs xs
 |[],[],h=>h
 |f::fs,x::xs,⟨h1,h2⟩=>⟨h1.keep k hF,gE.keep k hF h2⟩
 |[],_::_,h=>h.elim
 |_::_,[],h=>h.elim
theorem gE.ext {H H':ae} {fs:List SF} {xs:Tr} (h:gE H fs xs) (k:ax H H'):gE H' fs xs:=h.keep k fun _ _ h=>h.elim
theorem gE.snoc {H:ae} {f:SF} {x:Bs×cM.Node} (k:Told H f x): ∀ {fs:List SF} {xs:Tr},gE H fs xs->gE H (fs++[f]) (xs++[x])
 |[],[],_=>⟨k,aF⟩
 |g::fs,y::xs,⟨h1,h2⟩=>⟨h1,gE.snoc k h2⟩
 |[],_::_,h=>h.elim
 |_::_,[],h=>h.elim
theorem gE.len {H:ae}: ∀ {fs:List SF} {xs:Tr},gE H fs xs->fs.length=xs.length
 |[],[],_=>rfl
 |g::fs,y::xs,⟨_,h2⟩=>by rw[ay,ay,gE.len h2]
 |[],_::_,h=>h.elim
 |_::_,[],h=>h.elim
theorem gE.files {H:ae}: ∀ {fs:List SF} {xs:Tr},gE H fs xs->kg H xs (fs.flatMap fN)
 |[],[],_=> .nil
 |f::fs,x::xs,⟨h1,h2⟩=>by
  have e:fN f=kU x f.2.2.1 f.2.2.2.2:=by unfold fN kU;rw[h1.path,h1.dir,h1.len]
  rw[eG,e];exact .cons h1.own.row (gE.files h2)
 |[],_::_,h=>h.elim
 |_::_,[],h=>h.elim
theorem gE.cons_inv {H:ae} {f:SF} {fs:List SF} {xs:Tr} (h:gE H (f::fs) xs): ∃ x ys,xs=x::ys/\Told H f x/\gE H fs ys:=by
 cases xs with
 |nil=>exact h.elim
 |cons x ys=>exact⟨x,ys,rfl,h.1,h.2⟩
theorem gE.perm {H:ae} {fs Yx:List SF} (hp:Yx.Perm fs): ∀ {xs:Tr},gE H fs xs-> ∃ L6,L6.Perm xs/\gE H Yx L6:=by
 induction hp with
 |nil=>intro xs h;exact⟨xs,List.Perm.refl _,h⟩
 |cons f _ ih=>
  intro xs h;obtain⟨x,ys,rfl,h1,h2⟩:=h.cons_inv;obtain⟨ys',hp,h3⟩:=ih h2;exact⟨x::ys',hp.cons x,h1,h3⟩
 |swap f g l=>
  intro xs h;obtain⟨x,ys,rfl,h1,h2⟩:=h.cons_inv;obtain⟨y,zs,rfl,h3,h4⟩:=h2.cons_inv;exact⟨y::x::zs,List.Perm.swap x y zs,h3,h1,h4⟩
 |trans _ _ ih1 ih2=>
  intro xs h;obtain⟨ys,hp1,h1⟩:=ih2 h;obtain⟨zs,hp2,h2⟩:=ih1 h1;exact⟨zs,hp2.trans hp1,h2⟩
theorem gE.sorted {H:ae}: ∀ {fs:List SF} {xs:Tr},gE H fs xs->fs.Pairwise (fun x y=>Op.bytesLess y.1 x.1=false)->(xs.map (·.1)).Nodup->Sorted xs
 |[],[],_,_,_=>List.Pairwise.nil
 |f::fs,x::xs,⟨h1,h2⟩,hp,hn=>by
  rw[bI]at hp;rw[dw,fV]at hn;refine bI.2 ⟨fun y hy=> ?_,gE.sorted h2 hp.2 hn.2⟩;have: ∀ {fs:List SF} {xs:Tr},gE H fs xs-> ∀ y∈xs,∃ g∈fs,g.1=y.1:=by
   intro fs xs;induction fs generalizing xs with
   |nil=>intro h y hy;cases xs with|nil=>cases hy|cons _ _=>exact h.elim
   |cons f fs ih=>
    intro h y hy;obtain⟨x,ys,rfl,h1,h2⟩:=h.cons_inv;rcases aM.1 hy with rfl|hy
    .exact⟨f,by simp,h1.path⟩
    .obtain⟨g,hg,e⟩:=ih h2 y hy;exact⟨g,by simp[hg],e⟩
  obtain⟨g,hg,e⟩:=this h2 y hy;have:=hp.1 g hg;rw[e,h1.path]at this;exact xG this fun e=>hn.1 (by rw[<-e];exact fE hy)
 |[],_::_,h,_,_=>h.elim
 |_::_,[],h,_,_=>h.elim
theorem cP.aiv {H:ae} {u ty:TypeId} {f:SF} {a:Option Addr} {n cap g base:Nat} {fs:List SF} {cb:Array Bool} {K:Value->ae->Prop}
  (tL:bu H g (fN f).toArray 71) (jZ:cq H base 71 3 a n cap (fs.flatMap fN)) (hx:base<=H.size) (hn:n<=1000000000) (hu: ∃ d,Tryz.prog.underlying u=some d/\(∀ k,d≠ .int k))
  (hk: ∀ a' cS H',cq H' base 71 3 a' (n+1) cS ((fs++[f]).flatMap fN)->H.size<=H'.size->Wr a H H'->K (.slice a' (n+1) cS) H'):
  cP Tryz.prog (builtin .append #[46,u] ty cb #[.slice a n cap,.slice (some ⟨g,0,none⟩) 1 1]) H K:=by
 refine Go.Vc.cP.append (i:=Tryz.t71) (z:= .agg #[.string ⟨#[]⟩,.bool false,.slice none 0 0]) (m:=1) (news:=fN f) rfl hu rfl rfl rfl jZ (Src.row (bu.row (c:=fN f) tL) rfl (by simp[fN,jt])) (by unfold maxLen;omega) ?_ hx fun a' cS H' h1 h2 _=>hk a' cS H' (by rw[dZ,show [f].flatMap fN=fN f by simp];exact h1) h2.size h2;show(n+1)*_<=_;refine dh (fC (n+1) (show _<=64 from by decide)) (by omega)
theorem aiw {K:Value->Prop} {o1 o2 o3:Operand} {s:ByteArray} {x:Bool} {a:Option Addr} {n c:Nat} (h:K (.agg #[.string s,.bool x,.slice a n c])):da Tryz.prog (Instr.build 71 ((List.map (fun x:Nat×Operand=>x.1) (#[(0,o1),(1,o2),(2,o3)]:Array (Nat×Operand)).toList).zip [.string s,.bool x,.slice a n c]).toArray) K:=da.build _ (by kernel_rfl) h
end Go.Proofs.YtphkaogbcfdllaaGreatDoor
namespace Go.cM
open Go.cN
def EQ (x y:SF):Int:=if Op.bytesLess x.1 y.1=true then-1 else if Op.bytesLess y.1 x.1=true then 1 else 0
theorem KO (x y:SF):Go.Proofs.ltOf EQ x y=Op.bytesLess x.1 y.1:=by
 unfold Go.Proofs.ltOf EQ;by_cases h1:Op.bytesLess x.1 y.1=true
 .rw[av h1,h1];rfl
 .rw[ak h1];have h1:Op.bytesLess x.1 y.1=false:=by simpa using h1
  rw[h1];split<;>rfl
theorem ajv:Go.Sort.SWO (Go.Proofs.ltOf EQ) where
 irrefl x:=by rw[KO];exact lt_irrefl _
 trans x y z h1 h2:=by rw[KO]at*;exact lt_trans h1 h2
 ntrans x y z h1 h2:=by
  rw[KO]at*
  cases h:Op.bytesLess x.1 z.1 with
  |false=>rfl
  |true=>
   by_cases pJ:x.1=y.1
   .rw[pJ]at h;rw[h]at h2;cases h2
   .have:=lt_trans (xG h1 pJ) h;rw[this]at h2;cases h2
end Go.cM
namespace Go.Proofs.YtphkaogbcfdllaaGreatDoor
open Go Go.Vc Go.cM Go.Proofs Go.Shelf Go.Lib Go.Sort
theorem ady (s:ByteArray) (w:World):Calls Tryz.prog 136 #[.string s] w fun e w'=>e= .returned (.bool false)/\w'=w:=by
 go_enter Tryz.func136,Tryz.ntmps136
 go_wp2
 go_ret
 exact⟨by simp,rfl⟩
theorem TB (x y:Bs) (w:World):Calls Tryz.prog 77 #[.string (ag x),.string (ag y)] w fun e w'=>e= .returned (.int .i64 (if Op.bytesLess x y=true then-1 else if Op.bytesLess y x=true then 1 else 0))/\w'=w:=by
 have e7: ∀ args w,(callFunc 136 args).run Tryz.prog w= .ok (.enter 136 args) w:=Tryz.call136
 go_enter Tryz.func77,Tryz.ntmps77
 go_wp2_with (go_at_fn 136;refine(ady _ _).mono ?_;rintro e w' ⟨rfl,hw⟩;rw[hw])
 all_goals go_ret
 all_goals have ht:= @xG x y
 all_goals have hi:=lt_irrefl x
 all_goals(refine⟨?_,rfl⟩;first|rfl|(exfalso;simp_all;done)|(exfalso;rename_i h1 h2 h3;simp at h1 h2;simp_all))
theorem ab4 (x y:SF) (W:World):Calls Tryz.prog 76 #[.agg (fN x).toArray,.agg (fN y).toArray] W fun e w'=>e= .returned (.int .i64 (EQ x y))/\ ∃ q os',w'=grow (W.drewN q) os':=by
 have Cg:=fun W'=>TB x.1 y.1 W';unfold EQ;generalize (if Op.bytesLess x.1 y.1=true then(-1:Int)else if Op.bytesLess y.1 x.1=true then 1 else 0)=r at Cg ⊢
 unfold fN
 go_enter Tryz.func76,Tryz.ntmps76
 go_wp2_with (go_at_call 77;refine(Cg _).mono ?_;rintro e w' ⟨rfl,rfl⟩)
 go_ret
 exact⟨rfl,0,_,by rw[alloc_eq_grow,alloc_eq_grow,grow_grow];rfl⟩
theorem Uo (d:List SF):flatK fN 3 d.toArray=(d.flatMap fN).toArray:=by
 induction d with
 |nil=>simp[flatK]
 |cons x d ih=>
  apply Array.ext';apply fF;intro t;have ez: ∀ l:List SF,(flatK fN 3 l.toArray).size=l.length*3:=fun l=>by simp
  have hl: ∀ l:List SF,(l.flatMap fN).length=l.length*3:=fun l=>by
   induction l with
   |nil=>rfl
   |cons y l ih=>rw[eG,au,ih,ay];show 3+_=_;omega
  have hg: ∀ (l:List SF) (t:Nat),t<l.length*3->(flatK fN 3 l.toArray)[t]? =some ((fN l.toArray[t / 3]!)[t % 3]!):=fun l t h=>by
   rw[Array.getElem?_eq_getElem (by rw[ez];exact h),<-getElem!_pos _ t (by rw[ez];exact h),get_flatK _ _ _ _ (by simpa using h)]
  rw[dL];show _=((x::d).flatMap fN)[t]?;by_cases ht:t<(x::d).length*3
  .rw[hg _ _ ht,eG];by_cases h3:t<3
   .rw[bV (by show t<3;exact h3),Nat.div_eq_of_lt h3,gQ h3];rw[aD (by show t<3;exact h3)];simp[fN,h3]
   .rw[bA (by show 3<=t;omega)];show _=(d.flatMap fN)[t-3]?;have:=aZ (·[t-3]?) ih;have h4:t-3<d.length*3:=by rw[ay]at ht;omega
    rw[hg _ _ h4]at this;simp only[fZ]at this;rw[<-this,show t / 3=(t-3) / 3+1 by omega,show t % 3=(t-3) % 3 by omega];simp
  .rw[bN (by rw[ez];omega),dX (by rw[hl];omega)]
theorem adz (l:List SF) (g n cap base:Nat) (H:ae) (ho:cq H base 71 3 (some ⟨g,0,none⟩) n cap (l.flatMap fN)) (hn:l.length=n) (hm:n<=1000000000):
  az Tryz.prog 75 [.slice (some ⟨g,0,none⟩) n cap,.func (.func 76) #[] #[]] H fun v H'=>v= .tuple #[]/\(∃ l':List SF,l'.Perm l/\l'.Pairwise (fun x y=>Op.bytesLess y.1 x.1=false)/\cq H' base 71 3 (some ⟨g,0,none⟩) n cap (l'.flatMap fN))/\Wr (some ⟨g,0,none⟩) H H':=by
 subst hn;refine az.calls Tryz.call75 fun w hw=> ?_;subst hw;have hb:=(ho.block _ rfl).2;have hH:HoldsK fN 3 w g 0 l.toArray:=by unfold HoldsK;rw[Uo];exact Tk ho
 have Cg:=AnyQ.slices_SortFunc Tryz.aiu 3 Tryz.isAgg71 Tryz.sizeOf71 fN (fun _=>rfl) (fun x v hv=>by simp[fN]at hv;rcases hv with rfl|rfl|rfl<;>rfl) EQ ajv 76 #[] g 0 cap l.toArray w Tryz.call76 (fun _ _ _ _ x y=>ab4 x y _) hH hb (by simp;omega);have Cg:Calls Tryz.prog 75 _ _ _:=Cg;rw[show l.toArray.size=l.length from by simp]at Cg;refine Calls.mono Cg ?_;rintro e w' ⟨h1,d',m,os,hp,hs,rfl⟩;have ez:d'.size=l.length:=by have:=hp.1;simpa using this
 have Wi:d'.toList.Perm l:=by
  have:=hp.2.2;simp[<-ez]at this;rw[ez]at this;simpa using this
 have hd:d'=d'.toList.toArray:=by simp
 unfold sortWorldK putRowK;rw[hd,Uo];have lx:(d'.toList.flatMap fN).length=(l.flatMap fN).length:=(Wi.flatMap_right fN).length_eq;obtain⟨g1,g2⟩:=Vb (ys:=d'.toList.flatMap fN) ho lx m os;refine⟨_,h1,⟨rfl,rfl,rfl⟩,rfl,⟨d'.toList,Wi,?_,g1⟩,g2⟩;rw[List.pairwise_iff_getElem];intro i j hi hj qu;have:=hs i j (aI _) qu (by simpa [ez]using hj);rw[KO]at this;rw[getElem!_pos d' i (by simpa using hi),getElem!_pos d' j (by simpa using hj)]at this;simpa using this
end Go.Proofs.YtphkaogbcfdllaaGreatDoor
namespace Go.Proofs.YtphkaogbcfdllaaGreatDoor
open Go Go.Vc Go.cN Go.eg Go.cM
variable {Z:Nat->Prop}
theorem adA (H:ae):az Tryz.prog 191 [.int .u64 0] H fun v H'=>(∃ l:Int,v= .int .i64 l)/\H=H':=by
 refine Vc.az.body Tryz.func191 Tryz.call191 rfl (by decide+kernel) rfl ?_;((conv=>whnf);repeat(any_goals((first|(refine db.nat 0 rfl (by decide) ?_)|refine Vc.aq ?_|refine Vc.bz ?_ ?_)<;>(intros;(conv=>whnf)))))
 all_goals exact⟨⟨_,rfl⟩,rfl⟩
theorem agF (H:ae):az Tryz.prog 135 [.int .u64 0] H fun v H'=>(∃ l:Int,v= .int .i64 l)/\H=H':=by
 refine Vc.az.body Tryz.func135 Tryz.call135 rfl (by decide+kernel) rfl ?_;((conv=>whnf);repeat(any_goals((first|(refine(adA _).mono ?_;rintro _ _ ⟨⟨l,rfl⟩,rfl⟩)|refine Vc.aq ?_|refine Vc.bz ?_ ?_)<;>(intros;(conv=>whnf)))))
 all_goals exact⟨⟨_,rfl⟩,rfl⟩
theorem ae6 (fv:Value) (H:ae):az Tryz.prog 182 [.slice none 0 0,.int .i64 0,.int .i64 0,fv] H fun v H'=>v= .tuple #[]/\H=H':=by
 refine Vc.az.body Tryz.func182 Tryz.call182 rfl (by decide+kernel) rfl ?_;((conv=>whnf);repeat(any_goals((first|refine Vc.aq ?_|refine Vc.bz ?_ ?_)<;>(intros;(conv=>whnf)))))
 refine dt.intro (fun(_:Nat)=>[(8,.int .i64 1)]) (fun _ H'=>H=H') (fun i=>i) 0 ⟨rfl,aF⟩ rfl ?_;rintro _ _ rfl;((conv=>whnf);repeat(any_goals((first|refine Vc.aq ?_|refine Vc.bz ?_ ?_)<;>(intros;(conv=>whnf)))))
 exact⟨rfl,rfl⟩
theorem ae7 (fv:Value) (l:Int) (H:ae):az Tryz.prog 134 [.slice none 0 0,.int .i64 0,.int .i64 0,.int .i64 l,fv] H fun v H'=>v= .tuple #[]/\H=H':=by
 refine Vc.az.body Tryz.func134 Tryz.call134 rfl (by decide+kernel) rfl ?_;((conv=>whnf);repeat(any_goals((first|refine Vc.aq ?_|refine Vc.bz ?_ ?_)<;>(intros;(conv=>whnf)))))
 refine dt.intro (fun(_:Nat)=>[(1,.int .i64 0),(2,.int .i64 0)]) (fun _ H'=>H=H') (fun i=>i) 0 ⟨rfl,rfl,aF⟩ rfl ?_;rintro _ _ rfl;((conv=>whnf);repeat(any_goals((first|(refine(ae6 fv _).mono ?_;rintro _ _ ⟨rfl,rfl⟩)|refine Vc.aq ?_|refine Vc.bz ?_ ?_)<;>(intros;(conv=>whnf)))))
 exact⟨rfl,rfl⟩
theorem ab5 (fv:Value) (H:ae):az Tryz.prog 75 [.slice none 0 0,fv] H fun v H'=>v= .tuple #[]/\H=H':=by
 refine Vc.az.body Tryz.func75 Tryz.call75 rfl (by decide+kernel) rfl ?_;((conv=>whnf);repeat(any_goals((first|(refine(agF _).mono ?_;rintro _ _ ⟨⟨l,rfl⟩,rfl⟩)|(refine(ae7 fv l _).mono ?_;rintro _ _ ⟨rfl,rfl⟩)|refine Vc.aq ?_|refine Vc.bz ?_ ?_)<;>(intros;(conv=>whnf)))))
 exact⟨rfl,rfl⟩
structure FiS where
 eQ:List Bs
 fs:List SF
 a:Option Addr
 cap:Nat
set_option maxHeartbeats 4000000 in
theorem SK {b mb:Nat} {A:Tr} {H:ae} (h:iQ Z H b mb A) (hA:Sorted A) (Yy:A.length<=1000000) (hf: ∀ k n,ck A k=some n->n.2.length<=1000000000):az Tryz.prog 30 [.pointer (some ⟨b,0,none⟩)] H fun v H'=>
  (∃ a cap fs,v= .slice a A.length cap/\cq H' H.size 71 3 a A.length cap (fs.flatMap fN)/\gE H' fs A)/\ax H H':=by
 have hb:=h.cL;obtain⟨lm,hm,h2,h3⟩:=h.map.out;have DU:=Tl h2 h3;have hlen:=jw.len hA.nodup hm h2 h3;refine Vc.az.body Tryz.func30 Tryz.call30 rfl (by decide+kernel) rfl ?_;((conv=>whnf);repeat(any_goals((first|((with_reducible apply aE.rangeMap hm);rfl;(intro H1 z1 Qw x1;(conv=>whnf)))|refine Vc.aq ?_|refine Vc.bz ?_ ?_)<;>(intros;(conv=>whnf)))))
 refine dt.intro (fun(x:FiS)=>[(3,.slice x.a x.eQ.length x.cap)])
  (fun x H'=>og H' H.size mb lm x.eQ/\cq H' H1.size 71 3 x.a x.eQ.length x.cap (x.fs.flatMap fN)/\gE H' x.fs (x.eQ.map fun k=>(k,qJ A k))/\ax H H') (fun x=>lm.length-x.eQ.length) ⟨[],[],none,0⟩ ⟨rfl,aF⟩ ⟨Qw,cq.nil _ _ _ _,aF,x1⟩ ?_
 rintro⟨eQ,fs,a,cap⟩ H2 ⟨hit,dy,uk,bh⟩;dsimp only at hit dy uk ⊢;have dT:=bh.size;have nH:=Bp hit.nodup hit.sub;rw[dn]at nH;have lQ:=uk.len;rw[dn]at lQ;have wW: ∀ H',cq H' H1.size 71 3 a eQ.length cap (fs.flatMap fN)->az Tryz.prog 75 [.slice a eQ.length cap,.func (.func 76) #[] #[]] H' fun v lG=>v= .tuple #[]/\(∃ l':List SF,l'.Perm fs/\l'.Pairwise (fun x y=>Op.bytesLess y.1 x.1=false)/\cq lG H1.size 71 3 a eQ.length cap (l'.flatMap fN))/\Wr a H' lG:=fun H' ho=>by
  rcases ho.out with ⟨rfl,h0,rfl⟩|⟨g,eE,rfl,_⟩
  .have e:fs=[]:=bF (by omega);subst e;rw[h0];exact(ab5 _ H').mono fun v lG ⟨h1,h2⟩=>⟨h1,⟨[],List.Perm.refl _,List.Pairwise.nil,cq.nil _ _ _ _⟩,by subst h2;exact cD.refl _ _⟩
  .exact adz fs g eQ.length cap H1.size H' ho lQ (by omega)
 ((conv=>whnf);repeat(any_goals((first|((with_reducible refine aE.U3 hit ?_ ?_);rotate_left;intro k v H5 wE oH z5 wl PG cE;(conv=>whnf);rotate_left;intro ii;(conv=>whnf))|(refine(wW _ dy).mono ?_;rintro _ H6 ⟨rfl,⟨l',pN,Qx,ei⟩,cV⟩;have fS:=cV.size)|refine Vc.aq ?_)<;>(intros;(conv=>whnf)))))
 .have WO:ax H H6:=bh.wr dy (by omega) cV;have ajw:gE H6 fs (eQ.map fun k=>(k,qJ A k)):=uk.keep cV fun x c vB hc=>by
   rcases dy.out with ⟨h1,_⟩|⟨g,eE,h1,_,hb,_⟩
   .rw[h1]at vB;obtain⟨p,hp,_⟩:=vB;cases hp
   .rw[h1]at vB;obtain⟨p,hp,e⟩:=vB;cases hp;subst e;exact absurd (pw hb hc).1 (by decide)
  obtain⟨L6,vB,PQ⟩:=ajw.perm pN;have Yz:eQ.Perm (A.map (·.1)):=(fU hit.nodup hA.nodup).2 fun k=>⟨fun hk=>(DU k).1 (hit.sub k hk),fun hk=>ii k ((DU k).2 hk)⟩;have hvA:(eQ.map fun k=>(k,qJ A k)).Perm A:=by
   refine(Yz.map fun k=>(k,qJ A k)).trans (List.Perm.of_eq ?_);rw[gV];refine(List.map_congr_left fun x hx=> ?_).trans (List.map_id A);show(x.1,qJ A x.1)=x;unfold qJ;rw[jy hA.nodup hx];rfl
  have L3:=vB.trans hvA;have Qm:(L6.map (·.1)).Nodup:=(L3.map _).nodup_iff.2 hA.nodup;have Lv:=PQ.sorted Qx Qm;have e:=sorted_perm Lv hA L3;rw[e]at PQ;have el:eQ.length=A.length:=by have:=Yz.length_eq;rwa[dn]at this
  rw[el]at ei;refine⟨⟨a,cap,l',by rw[<-el];rfl,ei.base (by omega),PQ⟩,WO⟩
 .have AW:ck lm k=some v:=jy hm.nodup wE;obtain⟨n,hg⟩: ∃ n,ck A k=some n:=by
   cases hg:ck A k with
   |none=>rw[h2 k hg]at AW;cases AW
   |some n=>exact⟨n,rfl⟩
  obtain⟨v',vt,je⟩:=h3 k n hg;rw[AW]at vt;cases vt;have iR:ax H H5:=bh.but cE (aB _);obtain⟨g1,a1,c1,rfl,eC,iz⟩:=(je.ext iR).out;have mM:=hf k n hg;have je:qJ A k=n:=by unfold qJ;rw[hg];rfl
  have eW:=dy.keep cE fun p hp e=>dy.low (b:=H.size) (by omega) ⟨p,hp,e⟩;have ajx:=uk.keep cE fun x c e hc=>by subst e;exact hit.XJ hc rfl
  ((conv=>whnf);repeat(any_goals((first|((with_reducible apply aE.T5 PG);(conv=>whnf))|(refine(Fy n.2 a1 n.2.length c1 _ (iz.ext (by exact Vc.xt)) rfl (by omega)).mono ?_;rintro _ H6 ⟨⟨a6,c6,rfl,ei⟩,cV⟩;have fS:=cV.size)|((with_reducible apply aiw);(conv=>whnf))|(refine cP.aiv (f:=(k,n.1,a6,n.2.length,c6)) (fs:=fs) (by assumption) (eW.ext (by exact Vc.xt)) (by omega) (by omega) ⟨_,rfl,fun _ h=>by cases h⟩ ?_;intro a8 c8 H8 iT lD mg)|((with_reducible refine Vc.cy.held [0,1,2,3,4,5,6,7,8,9,10,11,12,13,14] [(10,[5])] mixed (by decide+kernel) ?_))|refine Vc.aq ?_|refine Vc.bz ?_ ?_)<;>(intros;(conv=>whnf)))))
  rename_i H7 z7 b7 x7;have iY:=(eW.ext cV).ext x7;have Az:=cV.trans x7;have ht7:gE H7 (fs++[(k,n.1,a6,n.2.length,c6)]) ((eQ++[k]).map fun k=>(k,qJ A k)):=by
   rw[d9,List.map_singleton];refine(ajx.ext Az).snoc ⟨rfl,by rw[je],by rw[je],?_⟩;rw[je];exact(ei.base (aI _)).ext x7
  have lH:=ht7.keep mg fun x c vB hc=>by
   rcases iY.out with ⟨h1,_⟩|⟨g,eE,h1,_,hb,_⟩
   .rw[h1]at vB;obtain⟨p,hp,_⟩:=vB;cases hp
   .rw[h1]at vB;obtain⟨p,hp,e⟩:=vB;cases hp;subst e;exact absurd (pw hb hc).1 (by decide)
  have W7:(eQ++[k]).length=eQ.length+1:=by simp
  rw[<-W7]at iT;have hvn:=Bp wl.nodup wl.sub;rw[dn]at hvn;exact⟨⟨eQ++[k],fs++[(k,n.1,a6,n.2.length,c6)],a8,c8⟩,⟨by dsimp only;rw[W7];rfl,aF⟩,⟨(wl.ext Az).wr iY mg,iT,lH,(iR.trans Az).wr iY (by omega) mg⟩,by show lm.length-(eQ++[k]).length<lm.length-eQ.length;omega⟩
theorem adB {b mb:Nat} {A:Tr} {H:ae} (h:iQ Z H b mb A) (hA:Sorted A) (Yy:A.length<=1000000) (hf: ∀ k n,ck A k=some n->n.2.length<=1000000000):az Tryz.prog 30 [.pointer (some ⟨b,0,none⟩)] H fun v H'=>
  (∃ a cap,v= .slice a A.length cap/\A.length<=cap/\j4 H' a A/\ ∀ p,a=some p->H.size<=p.block)/\ax H H':=
 (SK h hA Yy hf).mono fun v H' ⟨⟨a,cap,fs,e,ho,ht⟩,hx⟩=>⟨⟨a,cap,e,ho.jC,⟨_,ho.row,ht.files⟩,fun p hp=>(ho.block p hp).1⟩,hx⟩
theorem jw.congr {H:ae} {mb:Nat} {A B:Tr} (h:jw Z H mb A) (e: ∀ k,ck A k=ck B k):jw Z H mb B:=by
 obtain⟨l,h1,h2,h3⟩:=h.out;exact⟨l,h1,fun k hk=>h2 k (by rw[e];exact hk),fun k n hk=>h3 k n (by rw[e];exact hk)⟩
end Go.Proofs.YtphkaogbcfdllaaGreatDoor
namespace Go.ej
open Go.cN Go.eg Go.cM
def DX (n k i:Nat):UInt8:=UInt8.ofNat (n / 2 ^ (8*(k-1-i)) % 256)
def jx (n k:Nat):ap:=(List.range k).map (DX n k)
theorem lg (n k:Nat):(jx n k).length=k:=by simp[jx]
theorem NA (n k i:Nat) (h:i<k):(jx n k).take (i+1)=(jx n k).take i++[DX n k i]:=by
 rw[bX];have:(jx n k)[i]? =some (DX n k i):=by simp[jx,h]
 rw[this];rfl
end Go.ej
namespace Go.Proofs.YtphkaogbcfdllaaGreatDoor
open Go Go.Vc Go.cN Go.eg Go.cM Go.ej
theorem Up (n k i:Nat) (hi:i<k) (hk:k<=8):nA .u64 (n:Int) (8*((k:Int)-1-(i:Int))) % 256=((DX n k i).toNat:Int):=by
 have e:(8*((k:Int)-1-(i:Int))).toNat=8*(k-1-i):=by omega
 unfold nA DX;rw[e,show min (8*(k-1-i)) IntKind.u64.bits=8*(k-1-i)from gL (by show _<=64;omega),Int.fdiv_eq_ediv_of_nonneg _ (by exact Int.le_of_lt (Int.pow_pos (by decide)))];rw[fJ];have:((n:Int) / 2 ^ (8*(k-1-i)))=((n / 2 ^ (8*(k-1-i)):Nat):Int):=by
  rw[Int.natCast_ediv,Int.natCast_pow];rfl
 rw[this];omega
abbrev fz (base:Nat) (H H':ae):Prop:=cD (fun x=>base<=x/\ ∃ c,bu H x c 5) H H'
theorem fz.wr {base n cap:Nat} {a:Option Addr} {xs:List Value} {H H':ae} (ho:cq H base 5 1 a n cap xs) (hw:Wr a H H'):fz base H H':=hw.mono fun x ⟨p,hp,e⟩=>by
 rcases ho.out with ⟨h1,_⟩|⟨g,eE,h1,hb,hg,_⟩
 .rw[h1]at hp;cases hp
 .rw[h1]at hp;cases hp;exact e▸⟨hb,eE,hg⟩
theorem fz.then {base:Nat} {A B C:ae} (h:fz base A B) (k:fz base B C):fz base A C:=cD.trans h k fun b hb ⟨h1,c,h2⟩=>by
 by_cases hf:base<=b/\ ∃ c,bu A b c 5
 .exact hf
 .obtain⟨fr,e1,e2⟩:=h2.out;exact⟨h1,c,⟨fr,by rw[<-h.same b hb hf];exact e1,e2⟩⟩
theorem fz.cL {base g:Nat} {H H':ae} {c:Array Value} {t:TypeId} (h:bu H g c t) (k:fz base H H') (ht:t≠5):bu H' g c t:=h.keep k fun⟨_,d,hd⟩=>ht (pw h hd).1
theorem fz.ext {base:Nat} {H0 H H':ae} (k:fz base H H') (h:ax H0 H) (hb:H0.size<=base):ax H0 H':=cD.trans h k fun b h1 ⟨h2,_⟩=>by omega
structure YA where
 i:Nat
 a:Option Addr
 cap:Nat
theorem NB (l:Bs) (a:Option Addr) (m cap base n k:Nat) (H:ae) (ho:cq H base 5 1 a m cap (cv l)) (hb:base<=H.size) (hl:l.length=m) (hm:m<=1000000000) (hn:n<=1000000000000) (hk:k<=8):
  az Tryz.prog 203 [.slice a m cap,.int .i64 n,.int .i64 k] H fun v H'=>(∃ a' cS,v= .slice a' (m+k) cS/\cq H' base 5 1 a' (m+k) cS (cv (l++jx n k)))/\fz base H H':=by
 refine Vc.az.body Tryz.func203 Tryz.call203 rfl (by decide+kernel) rfl ?_;((conv=>whnf);repeat(any_goals((first|refine Vc.aq ?_|refine Vc.bz ?_ ?_)<;>(intros;(conv=>whnf)))))
 refine dt.intro (fun(s:YA)=>[(9,.int .i64 s.i),(0,.slice s.a (m+s.i) s.cap)]) (fun s H'=>s.i<=k/\cq H' base 5 1 s.a (m+s.i) s.cap (cv (l++(jx n k).take s.i))/\base<=H'.size/\fz base H H') (fun s=>k-s.i) ⟨0,a,cap⟩ ⟨rfl,rfl,aF⟩ ⟨aI _,by simpa using ho,hb,cD.refl _ _⟩ ?_;rintro⟨i,sa,sc⟩ H1 ⟨hi,fg,eC,cd⟩;dsimp only at hi fg ⊢;by_cases ct:i<k
 .have vw:=Up n k i ct hk;have kB:((jx n k).take i).length=i:=by rw[aJ,lg];omega
  ((conv=>whnf);repeat(any_goals((first|(refine fm.AU ?_;rw[vw])|(rename_i Hl zl bl xl;refine cP.DK bl (fg.ext xl) (by omega) (by omega) rfl ⟨_,rfl,fun _ h=>by cases h⟩ rfl rfl rfl rfl rfl rfl rfl ?_;intro a2 c2 H2 dy dT pO)|refine Vc.aq ?_)<;>(intros;(conv=>whnf)))))
  refine⟨⟨i+1,a2,c2⟩,⟨rfl,rfl,aF⟩,⟨by show i+1<=k;omega,?_,by omega,(cd.then xl.only).then (fz.wr (fg.ext xl) pO)⟩,by show k-(i+1)<k-i;omega⟩;show cq H2 base _ 1 a2 (m+(i+1)) c2 _;rw[NA n k i ct,<-bM,rh,<-eF];exact dy
 .obtain rfl:i=k:=by omega
  rw[aL (by rw[lg];exact aB _)]at fg;((conv=>whnf);repeat(any_goals((first|refine Vc.aq ?_)<;>(intros;(conv=>whnf)))))
  exact⟨⟨sa,sc,rfl,fg⟩,cd⟩
end Go.Proofs.YtphkaogbcfdllaaGreatDoor
namespace Go.Vc
variable {P:Program}
structure PR (H:ae) (b:Nat) (c:Array Value) (t:TypeId):Prop where out:H[b]? =some (.cells c t (0,0))
theorem aE.aa3 {H:ae} {t e:TypeId} {i:TypeInfo} {z:Value} {n:Nat} {parts:Array (Nat×Value)} {cs:Array Value} {K:Value->ae->Prop} (ht:P.underlying t=some (.slice e)) (hi:P.info? e=some i) (hz:i.zero=some z) (jd: ¬n*i.size > 2 ^ 24)
  (hf:Instr.fill (fun j=>some (j*i.size,i.size)) ((Array.range (n*i.size)).map ((if n*i.size=0 then #[]else z.cells)[· % (if n*i.size=0 then #[]else z.cells).size]!)) parts.toList=some cs)
  (hk: ∀ H',H'.size=H.size+1->PR H' H.size cs e->ax H H'->K (.slice (some ⟨H.size,0,none⟩) n n) H'):aE P (Instr.buildSlice t n parts) H K:=by
 refine⟨fun w hw=>⟨.slice (some ⟨w.heap.size,0,none⟩) n n,{w with heap:=w.heap.push (.cells cs e)},?_,⟨rfl,rfl,rfl⟩,?_⟩⟩
 .simp only[Instr.buildSlice,Sem.run_bind,ft ht,Result.andThen_ok,mP hi,ak jd];by_cases h0:n*i.size=0
  .simp only[av h0]at hf ⊢;simp only[Sem.run_bind,Sem.run_pure,Result.andThen_ok];rw[hf];simp only[Sem.run_bind,newRow,run_newObj,Result.andThen_ok,Sem.run_pure]
  .simp only[ak h0]at hf ⊢;simp only[Sem.run_bind,zeroValue,xn hi,hz,Sem.run_pure,Result.andThen_ok];rw[hf];simp only[Sem.run_bind,newRow,run_newObj,Result.andThen_ok,Sem.run_pure]
 .subst hw;exact hk _ (by simp) ⟨rj _ _⟩ (cD.push _ _ _)
theorem aE.PS {H:ae} {t e:TypeId} {i:TypeInfo} {z:Value} {n:Nat} {parts:Array (Nat×Value)} (vs:List Value) {K:Value->ae->Prop} (ht:P.underlying t=some (.slice e)) (hi:P.info? e=some i) (hz:i.zero=some z) (hn:vs.length=n)
  (hp:parts.toList=(List.range' 0 vs.length).zip vs) (jd:Nat.ble (n*i.size) 16777216=true) (hc:(vs.all fun v=>Nat.beq v.cells.size i.size)=true)
  (hk: ∀ H',H'.size=H.size+1->PR H' H.size (vs.flatMap fun v=>v.cells.toList).toArray e->ax H H'->K (.slice (some ⟨H.size,0,none⟩) n n) H'):aE P (Instr.buildSlice t n parts) H K:=by
 have jd:=aS jd;have hc: ∀ v∈vs,v.cells.size=i.size:=fun v hv=>dW (cB.1 hc v hv);refine aE.aa3 (cs:=(vs.flatMap fun v=>v.cells.toList).toArray) ht hi hz (by omega) ?_ hk;rw[hp,MZ i.size vs 0 _ hc (by rw[hn];simp)];congr 1;have h0:0*i.size=0:=gX _;rw[h0];refine NT _ (vs.flatMap fun v=>v.cells.toList).toArray ?_;simp only[cK,Array.size_map,Array.size_range];rw[NU hc,hn]
theorem aE.Pj {t e:TypeId} {A H:ae} {g n cap:Nat} {c:Array Value} {ty:TypeId} {K:Value->ae->Prop} (ht:P.underlying t=some (.slice e)) (he:P.underlying e=some (.int .u8)) (hb:PR H g c ty) (hx:ax A H) (hg:A.size<=g)
  (hk: ∀ H',H'.size=H.size->bu H' g c ty->ax A H'->K (.slice (some ⟨g,0,none⟩) n cap) H'):aE P (convert t t (.slice (some ⟨g,0,none⟩) n cap)) H K:=by
 have h1:=hb.out;refine⟨fun w hw=>⟨_,w.freeze ⟨g,c.size,none⟩ 1,?_,⟨rfl,rfl,rfl⟩,hk _ ?_ ?_ ?_⟩⟩
 .have vw:w.shape? g=some (ty,c.size):=by
   unfold World.shape?;rw[hw,h1]
  simp[convert,ft ht,ft he,markStringish,vw]
 .subst hw;simp[World.freeze]
 .subst hw;refine⟨(c.size,c.size+1),?_,.inr (aB _)⟩;simp[World.freeze,fG,h1]
 .subst hw;refine⟨by simpa [World.freeze]using hx.size,fun b h _=> ?_⟩;rw[<-hx.same b h id];have cz:g≠b:=by omega
  simp[World.freeze,fG,cz]
end Go.Vc
namespace Go.ej
open Go.cN Go.eg Go.cM
def lM (f:ap×cM.Node):ap:=[if f.2.1=true then 1 else 0]++jx (min f.1.length 65535) 2++f.1.take 65535++(if f.2.1=true then []else jx f.2.2.length 8++f.2.2)
def ie (L:List (ap×cM.Node)) (i:Nat):ap:=[80,65,75,49]++(L.take i).flatMap lM
def jv (L:List (ap×cM.Node)):ap:=ie L L.length++[255]
theorem Nf (L:List (ap×cM.Node)) (i:Nat) (f:ap×cM.Node) (h:L[i]? =some f):ie L (i+1)=ie L i++lM f:=by
 unfold ie;rw[bX,h,dZ];simp
theorem ae8 (f:ap×cM.Node) (hb:f.2.2.length<=1000000):(lM f).length<=1100000:=by
 unfold lM;simp only[au,dQ,lg,aJ];split
 .simp;omega
 .simp[lg];omega
theorem JX (L:List (ap×cM.Node)) (hb: ∀ f∈L,f.2.2.length<=1000000): ∀ i,i<=L.length->(ie L i).length<=4+1100000*i
 |0,_=>by simp[ie]
 |i+1,h=>by
  have hf:L[i]? =some L[i]:=aD (by omega);have h1:=JX L hb i (by omega);have h2:=ae8 L[i] (hb _ (List.getElem_mem _));rw[Nf L i _ hf,au];omega
end Go.ej
namespace Go.Proofs.YtphkaogbcfdllaaGreatDoor
open Go Go.Vc Go.cN Go.eg Go.cM Go.ej
theorem cP.qm {H:ae} {u ty:TypeId} {a:Option Addr} {n cap base m:Nat} {l y:Bs} {x:Value} {cb:Array Bool} {K:Value->ae->Prop}
  (jZ:cq H base 5 1 a n cap (cv l)) (mU:Src Tryz.prog H x 1 m (cv y)) (hn:n<=1000000000000) (hm:m<=1000000000000) (hb:base<=H.size) (hu: ∃ d,Tryz.prog.underlying u=some d/\(∀ k,d≠ .int k))
  (hk: ∀ a' cS H',cq H' base 5 1 a' (n+m) cS (cv (l++y))->Wr a H H'->K (.slice a' (n+m) cS) H'):cP Tryz.prog (builtin .append #[33,u] ty cb #[.slice a n cap,x]) H K:=by
 refine Go.Vc.cP.append (i:=Tryz.t5) (z:= .int .u8 0) rfl hu rfl rfl rfl jZ mU (by unfold maxLen;omega) ?_ hb fun a' cS H' h1 h2 _=>hk a' cS H' (by rw[rh];exact h1) h2;show(n+m)*1<=_;omega
structure YB where
 i:Nat
 a:Option Addr
 cap:Nat
theorem ae9 (L:Tr) (a:Option Addr) (n cap:Nat) (H:ae) (hr:j4 H a L) (hn:L.length=n) (wO:n<=600) (hb: ∀ f∈L,f.2.2.length<=1000000):az Tryz.prog 160 [.slice a n cap] H fun v H'=>
  (∃ a' cS,v= .slice a' (jv L).length cS/\cq H' H.size 5 1 a' (jv L).length cS (cv (jv L)))/\ax H H':=by
 refine Vc.az.body Tryz.func160 Tryz.call160 rfl (by decide+kernel) rfl ?_;((conv=>whnf);repeat(any_goals((first|((with_reducible apply aE.PS [.int .u8 80,.int .u8 65,.int .u8 75,.int .u8 49]);rfl;rfl;rfl;rfl;rfl;rfl;rfl;(intro H1 eR eC cd;(conv=>whnf)))|(refine aE.Pj rfl rfl eC cd (aB _) ?_;intro H2 dT di bh)|refine Vc.aq ?_)<;>(intros;(conv=>whnf)))))
 have dy:cq H2 H.size 5 1 (some ⟨H.size,0,none⟩) 4 4 (cv [80,65,75,49]):=Kf di (aB _) rfl (by decide);have ib:=JX L hb;refine dt.intro (fun(s:YB)=>[(12,.int .i64 s.i),(3,.slice s.a (ie L s.i).length s.cap)]) (fun s H'=>s.i<=n/\cq H' H.size 5 1 s.a (ie L s.i).length s.cap (cv (ie L s.i))/\ax H H') (fun s=>n-s.i) ⟨0,some ⟨H.size,0,none⟩,4⟩ ⟨rfl,rfl,aF⟩ ⟨aI _,dy,bh⟩ ?_;rintro⟨i,sa,sc⟩ H3 ⟨hi,eI,bw⟩;dsimp only at hi eI ⊢;have eJ:=bw.size;have jz:=hr.ext bw;have XH:=ib i (by omega);by_cases ct:i<n
 .obtain⟨f,hf⟩: ∃ f,L[i]? =some f:=⟨_,aD (by omega)⟩;have hfb:=hb f (aU hf);have mf:=Nf L i f hf;have ez:(ag f.1).size=f.1.length:=rfl;obtain⟨m,hm⟩: ∃ m,m=min f.1.length 65535:=⟨_,rfl⟩;have mK:m<=65535/\m<=f.1.length:=by omega
  have wT:(ag f.1).extract 0 m=ag (f.1.take m):=nM _ _;have kB:(f.1.take m).length=m:=by rw[aJ];omega
  have sv:(ag (f.1.take m)).size=m:=kB;have hem:f.1.take 65535=f.1.take m:=by
   rcases Nat.le_total f.1.length 65535 with h|h
   .rw[show m=f.1.length by omega,aL h,fB]
   .rw[show m=65535 by omega]
  have wG:min ((f.1.length:Nat):Int) 65535=(m:Int):=by omega
  have oJ:lM f=[if f.2.1=true then 1 else 0]++jx m 2++f.1.take m++(if f.2.1=true then []else jx f.2.2.length 8++f.2.2):=by unfold lM;rw[<-hm,hem]
  by_cases hd:f.2.1=true
  .rw[av hd,av hd]at oJ;obtain⟨KB,qG⟩: ∃ k:UInt8,k=1:=⟨_,rfl⟩;((conv=>whnf);repeat(any_goals((first|(refine cm.file hr hn i f (by omega) hf ?_;intro bi oi ai ci ic dp)|((with_reducible apply aE.nr);(exact dp);(exact bw);(conv=>whnf))|(refine dk.nat m wG mK.2 ?_;(conv=>whnf);rw[wT])|(rename_i Ha za ba xa Hx zx bx xx Hl zl bl xl;have Ix:ax H3 Hl:=(xa.but xx (by omega)).trans xl;have j5:=eI.ext Ix;have QW:bu Hl H3.size #[.string (ag f.1),.bool f.2.1,.slice ai f.2.2.length ci] 71:=bx.ext xl;have cL:bu Hl Hx.size (cv [KB]).toArray 5:=(by rw[qG];exact bl);refine cP.qm (y:=[KB]) j5 (Src.row (bu.row (c:=cv [KB]) cL) rfl (mj _)) (by omega) (by decide) (by omega) ⟨_,rfl,fun _ h=>by cases h⟩ ?_;intro a4 c4 H4 dE oN;have u4:=fz.wr j5 oN;have QX:=fz.cL QW u4 (by decide);have fW:=fz.ext u4 (bw.trans Ix) (aB _);have gA:=fW.size)|(rw[sv];refine(NB (ie L i++[KB]) a4 _ c4 H.size m 2 H4 dE gA (by simp) (by omega) (by omega) (by decide)).mono ?_;rintro _ H5 ⟨⟨a5,c5,rfl,eW⟩,u5⟩;have ur:=fz.cL QX u5 (by decide);have iR:=fz.ext u5 fW (aB _);have ij:=iR.size)|(refine cP.qm (y:=f.1.take m) (m:=(ag (f.1.take m)).size) eW (Src.str (ag (f.1.take m))) (by omega) (by omega) (by omega) ⟨_,rfl,fun _ h=>by cases h⟩ ?_;intro a6 c6 H6 ei j6;have u6:=fz.wr eW j6;have Iy:=fz.cL ur u6 (by decide);have kj:=fz.ext u6 iR (aB _);have fS:=kj.size)|refine Vc.aq ?_)<;>(intros;(conv=>whnf)))))
   have lY:ie L (i+1)=ie L i++[KB]++jx m 2++f.1.take m:=by rw[mf,oJ,qG];simp
   have lQ:(ie L (i+1)).length=(ie L i).length+1+2+(ag (f.1.take m)).size:=by rw[lY,sv];simp[lg,kB];omega
   exact⟨⟨i+1,a6,c6⟩,⟨rfl,by dsimp only;rw[lQ];rfl,aF⟩,⟨by show i+1<=n;omega,by dsimp only;rw[lQ,lY];exact ei,kj⟩,by show n-(i+1)<n-i;omega⟩
  .rw[ak hd,ak hd]at oJ;have jS:f.2.1=false:=by simpa using hd
   obtain⟨KB,qG⟩: ∃ k:UInt8,k=0:=⟨_,rfl⟩;((conv=>whnf);repeat(any_goals((first|(refine cm.file hr hn i f (by omega) hf ?_;intro bi oi ai ci ic dp)|((with_reducible apply aE.nr);(exact dp);(exact bw);(conv=>whnf))|(refine dk.nat m wG mK.2 ?_;(conv=>whnf);rw[wT])|(rename_i Ha za ba xa Hx zx bx xx Hl zl bl xl;have Ix:ax H3 Hl:=(xa.but xx (by omega)).trans xl;have j5:=eI.ext Ix;have QW:bu Hl H3.size #[.string (ag f.1),.bool f.2.1,.slice ai f.2.2.length ci] 71:=bx.ext xl;have cL:bu Hl Hx.size (cv [KB]).toArray 5:=(by rw[qG];exact bl);refine cP.qm (y:=[KB]) j5 (Src.row (bu.row (c:=cv [KB]) cL) rfl (mj _)) (by omega) (by decide) (by omega) ⟨_,rfl,fun _ h=>by cases h⟩ ?_;intro a4 c4 H4 dE oN;have u4:=fz.wr j5 oN;have QX:=fz.cL QW u4 (by decide);have fW:=fz.ext u4 (bw.trans Ix) (aB _);have gA:=fW.size)|(rw[sv];refine(NB (ie L i++[KB]) a4 _ c4 H.size m 2 H4 dE gA (by simp) (by omega) (by omega) (by decide)).mono ?_;rintro _ H5 ⟨⟨a5,c5,rfl,eW⟩,u5⟩;have ur:=fz.cL QX u5 (by decide);have iR:=fz.ext u5 fW (aB _);have ij:=iR.size)|(refine cP.qm (y:=f.1.take m) (m:=(ag (f.1.take m)).size) eW (Src.str (ag (f.1.take m))) (by omega) (by omega) (by omega) ⟨_,rfl,fun _ h=>by cases h⟩ ?_;intro a6 c6 H6 ei j6;have u6:=fz.wr eW j6;have Iy:=fz.cL ur u6 (by decide);have kj:=fz.ext u6 iR (aB _);have fS:=kj.size)|(refine(NB (ie L i++[KB]++jx m 2++f.1.take m) a6 _ c6 H.size f.2.2.length 8 H6 ei fS (by simp[lg];omega) (by omega) (by omega) (by decide)).mono ?_;rintro _ H7 ⟨⟨a7,c7,rfl,iY⟩,u7⟩;have bf7:=fz.cL Iy u7 (by decide);have mq:=fz.ext u7 kj (aB _);have jK:=mq.size)|(refine cP.qm (y:=f.2.2) (m:=f.2.2.length) iY (Src.row (ic.ext mq) (by rw[ik];exact(bQ _).symm) (mj _)) (by omega) (by omega) (by omega) ⟨_,rfl,fun _ h=>by cases h⟩ ?_;intro a8 c8 H8 iT mg;have u8:=fz.wr iY mg;have AA:=fz.ext u8 mq (aB _))|refine Vc.aq ?_)<;>(intros;(conv=>whnf)))))
   have lY:ie L (i+1)=ie L i++[KB]++jx m 2++f.1.take m++jx f.2.2.length 8++f.2.2:=by rw[mf,oJ,qG];simp
   have lQ:(ie L (i+1)).length=(ie L i).length+1+2+(ag (f.1.take m)).size+8+f.2.2.length:=by rw[lY,sv];simp[lg,kB];omega
   exact⟨⟨i+1,a8,c8⟩,⟨rfl,by dsimp only;rw[lQ];rfl,aF⟩,⟨by show i+1<=n;omega,by dsimp only;rw[lQ,lY];exact iT,AA⟩,by show n-(i+1)<n-i;omega⟩
 .obtain rfl:i=n:=by omega
  ((conv=>whnf);repeat(any_goals((first|(rename_i Hl zl bl xl;refine cP.qm (y:=[255]) (eI.ext xl) (Src.row (bu.row (c:=cv [255]) bl) rfl (mj _)) (by omega) (by decide) (by omega) ⟨_,rfl,fun _ h=>by cases h⟩ ?_;intro a4 c4 H4 dE oN)|refine Vc.aq ?_)<;>(intros;(conv=>whnf)))))
  have e:jv L=ie L L.length++[255]:=rfl;have el:(jv L).length=(ie L L.length).length+1:=by rw[e,au];rfl
  rw[hn]at e el;rw[el,e];exact⟨⟨a4,c4,rfl,dE⟩,(bw.trans xl).wr (eI.ext xl) (aB _) oN⟩
end Go.Proofs.YtphkaogbcfdllaaGreatDoor
namespace Go.cM
open Go.eg Go.cN
open Go.Vc (ck fk kX jX lf jy ka)
def ov (A:Tr) (p:ap) (f:ap×Node):Tr×Nat:=if f.2.1=true then zM A p else iO A p f.2.2
def pE (A:Tr) (seen:List ap):List (ap×Node)->Option Tr×Nat
 |[]=>(some A,0)
 |f::fs=>
  if(cF f.1).2≠0 then(none,(cF f.1).2)
  else if(cF f.1).1∈seen\/(f.2.1=true/\mV A (cF f.1).1=true)then(none,53)
  else if(ov A (cF f.1).1 f).2≠0 then(none,(ov A (cF f.1).1 f).2)
  else pE (ov A (cF f.1).1 f).1 (seen++[(cF f.1).1]) fs
def pR (L:List (ap×Node)):Option Tr×Nat:=pE [] [] L
theorem dr.step {A:Tr} (hA:dr A) {p:ap} (hp:jk p) (f:ap×Node):dr (ov A p f).1:=by
 unfold ov;split
 .exact hA.V9 hp
 .exact hA.write hp
theorem adC (A:Tr) {p:ap} (hp:jk p):oU A p=zM A p:=by unfold oU;rw[hp.id,av rfl]
theorem adD (A:Tr) {p:ap} (hp:jk p) (b:ap):nP A p b=iO A p b:=by unfold nP;rw[hp.id,av rfl]
end Go.cM
namespace Go.ej
open Go.cN Go.eg Go.cM
abbrev Fi:=ap×cM.Node
def fj (b:ap):Nat:=b.foldl (fun n c=>n*256+c.toNat) 0
theorem Uq (b:ap) (c:UInt8):fj (b++[c])=fj b*256+c.toNat:=by simp[fj,ig]
theorem OY: ∀ (b:ap),fj b<256 ^ b.length:=by
 intro b;have: ∀ (b:ap) (n:Nat),b.foldl (fun n c=>n*256+c.toNat) n<(n+1)*256 ^ b.length:=by
  intro b;induction b with
  |nil=>intro n;simp
  |cons c b ih=>
   intro n;have h1:=ih (n*256+c.toNat);have h2:=c.toNat_lt;rw[gU,ay,Nat.pow_succ];refine dG h1 ?_;rw[Nat.mul_comm (256 ^ b.length) 256,<-Nat.mul_assoc];exact eZ _ (by omega)
 have h:=this b 0;simpa [fj]using h
def jE (b:ap) (Bb:Nat):Nat ⊕ (Option (Fi×ap)):=match b with
 |[]=> .inl 64
 |k::b1=>
  if k=255 then(if b1=[]then .inr none else .inl 64)
  else if ¬(k.toNat<=1/\Bb<500)then .inl 64
  else if b1.length<2 then .inl 64
  else if(b1.drop 2).length<fj (b1.take 2)then .inl 64
  else if(cF ((b1.drop 2).take (fj (b1.take 2)))).2=51 then .inl 51
  else if(cF ((b1.drop 2).take (fj (b1.take 2)))).2≠0 then .inl 64
  else if k=1 then .inr (some (((b1.drop 2).take (fj (b1.take 2)),true,[]),(b1.drop 2).drop (fj (b1.take 2))))
  else if((b1.drop 2).drop (fj (b1.take 2))).length<8 then .inl 64
  else if(((b1.drop 2).drop (fj (b1.take 2))).drop 8).length<fj (((b1.drop 2).drop (fj (b1.take 2))).take 8)then .inl 64
  else .inr (some (((b1.drop 2).take (fj (b1.take 2)),false,(((b1.drop 2).drop (fj (b1.take 2))).drop 8).take (fj (((b1.drop 2).drop (fj (b1.take 2))).take 8))),
   (((b1.drop 2).drop (fj (b1.take 2))).drop 8).drop (fj (((b1.drop 2).drop (fj (b1.take 2))).take 8))))
theorem Ur {b:ap} {Bb:Nat} {f:Fi} {r:ap} (h:jE b Bb= .inr (some (f,r))):r.length<b.length:=by
 unfold jE at h;cases b with
 |nil=>cases h
 |cons k b1=>
  dsimp only at h;split at h
  .split at h<;>cases h
  split at h
  .cases h
  split at h
  .cases h
  split at h
  .cases h
  split at h
  .cases h
  split at h
  .cases h
  split at h
  .cases h;simp only[aO,ay];omega
  split at h
  .cases h
  split at h
  .cases h
  .cases h;simp only[aO,ay];omega
def vP:Nat->ap->List Fi->List Fi×Nat
 |0,_,_=>([],64)
 |fuel+1,b,L=>match jE b L.length with
  | .inl c=>([],c)
  | .inr none=>(L,0)
  | .inr (some (f,r))=>vP fuel r (L++[f])
def iU (b:ap) (L:List Fi):List Fi×Nat:=vP (b.length+1) b L
theorem RB: ∀ (n m:Nat) (b:ap) (L:List Fi),b.length<n->b.length<m->vP n b L=vP m b L
 |0,_,b,L,h,_=>by omega
 |_+1,0,b,L,_,h=>by omega
 |n+1,m+1,b,L,h1,h2=>by
  unfold vP;cases hs:jE b L.length with
  |inl c=>rfl
  |inr o=>
   cases o with
   |none=>rfl
   |some p=>
    obtain⟨f,r⟩:=p;have:=Ur hs;exact RB n m r (L++[f]) (by omega) (by omega)
theorem NC (b:ap) (L:List Fi):iU b L=match jE b L.length with
  | .inl c=>([],c)
  | .inr none=>(L,0)
  | .inr (some (f,r))=>iU r (L++[f]):=by
 have e:iU b L=match jE b L.length with
  | .inl c=>([],c)
  | .inr none=>(L,0)
  | .inr (some (f,r))=>vP b.length r (L++[f]):=rfl
 rw[e];cases hs:jE b L.length with
 |inl c=>rfl
 |inr o=>
  cases o with
  |none=>rfl
  |some p=>
   obtain⟨f,r⟩:=p;have:=Ur hs;exact RB _ _ r (L++[f]) this (Nat.lt_succ_self _)
theorem ab6 {b:ap} {Bb:Nat} {f:Fi} {r:ap} (h:jE b Bb= .inr (some (f,r))):f.1.length<=b.length/\f.2.2.length<=b.length/\r.length<=b.length:=by
 unfold jE at h;cases b with
 |nil=>cases h
 |cons k b1=>
  dsimp only at h;split at h
  .split at h<;>cases h
  split at h
  .cases h
  split at h
  .cases h
  split at h
  .cases h
  split at h
  .cases h
  split at h
  .cases h
  split at h
  .cases h;refine⟨?_,aI _,?_⟩
   .simp only[aJ,aO,ay];omega
   .simp only[aO,ay];omega
  split at h
  .cases h
  split at h
  .cases h
  .cases h;refine⟨?_,?_,?_⟩
   .simp only[aJ,aO,ay];omega
   .simp only[aJ,aO,ay];omega
   .simp only[aO,ay];omega
theorem R8: ∀ (n:Nat) (b:ap) (L:List Fi) (B:Nat),b.length<=B->(∀ f∈L,f.1.length<=B/\f.2.2.length<=B)-> ∀ f∈(vP n b L).1,f.1.length<=B/\f.2.2.length<=B
 |0,_,_,_,_,_=>by intro f hf;cases hf
 |n+1,b,L,B,hb,hL=>by
  unfold vP;cases hs:jE b L.length with
  |inl c=>intro f hf;cases hf
  |inr o=>
   cases o with
   |none=>exact hL
   |some p=>
    obtain⟨f,r⟩:=p;obtain⟨h1,h2,h3⟩:=ab6 hs;refine R8 n r (L++[f]) B (by omega) fun g hg=> ?_;rcases bZ.1 hg with hg|hg
    .exact hL g hg
    .rw[aW.1 hg];exact⟨by omega,by omega⟩
theorem afa (L:List Fi):((pR L).1=none↔(pR L).2≠0):=by
 have key: ∀ (L:List Fi) (A:Tr) (seen:List ap),((pE A seen L).1=none↔(pE A seen L).2≠0):=by
  intro L;induction L with
  |nil=>intro A seen;rw[pE];simp
  |cons f fs ih=>
   intro A seen;rw[pE];split
   .rename_i h;simpa using h
   .split
    .simp
    .split
     .rename_i h;simpa using h
     .exact ih _ _
 exact key L [] []
def kh (b:ap):List Fi×Nat:=
 if b.length<=262144/\b.take 4=[80,65,75,49]then
  if(iU (b.drop 4) []).2=0 then
   match pR (iU (b.drop 4) []).1 with
   |(some A,_)=>(A,0)
   |(none,_)=>([],64)
  else([],(iU (b.drop 4) []).2)
 else([],64)
end Go.ej
namespace Go.cM
open Go.eg Go.cN
open Go.Vc (ck fk kX jX lf jy ka)
theorem ND: ∀ {A:Tr} {p:ap} {n:Node},Sorted (A++[(p,n)])->iu A p n=A++[(p,n)]
 |[],p,n,_=>rfl
 |x::l,p,n,h=>by
  have h1:=bI.1 h;have hx:=h1.1 (p,n) (by simp);simp only[iu];rw[av hx,ND h1.2];rfl
theorem ahI: ∀ {a b:ap},a<+:b->a≠b->Op.bytesLess a b=true:=by
 intro a b h cz;obtain⟨c,rfl⟩:=h;induction a with
 |nil=>cases c with
  |nil=>exact absurd rfl cz
  |cons x c=>rfl
 |cons x a ih=>
  have:=ih (fun e=>cz (by simpa using e));show Op.bytesLess (x::a) (x::(a++c))=true;unfold Op.bytesLess;simp[this]
theorem afb {k l:List ap} (h:k<+:l):glue k<+:glue l:=by
 obtain⟨r,rfl⟩:=h;have: ∀ (k:List ap),glue k<+:glue (k++r):=by
  intro k;induction k with
  |nil=>exact⟨glue r,rfl⟩
  |cons x k ih=>
   cases k with
   |nil=>
    cases r with
    |nil=>exact⟨[],by simp⟩
    |cons y r=>exact⟨47::glue (y::r),rfl⟩
   |cons y k=>
    obtain⟨t,ht⟩:=ih;refine⟨t,?_⟩;show(x++47::glue (y::k))++t=x++47::glue (y::k++r);rw[<-ht];simp
 exact this k
theorem VK {p d:ap} (hp:jk p) (hd:d∈jm p):Op.bytesLess d p=true:=by
 obtain⟨l,rfl,hl⟩:=hp;obtain⟨k,hk,oH,jQ,rfl⟩:=(n0 hl.good).1 hd;refine ahI (afb hk) fun e=> ?_;have:=U5 hl.good hk oH jQ;rw[e]at this;omega
theorem agG {A:Tr} (hA:dr A) (i:Nat) {x:ap×Node} (hx:A[i]? =some x):ov (A.take i) x.1 x=(A.take (i+1),0)/\cF x.1=(x.1,0)/\mV (A.take i) x.1=false:=by
 have hi:=(aH.1 hx).1;have CU:x∈A:=aU hx;have hg:=jy hA.sorted.nodup CU;obtain⟨rT,cz⟩:=hA.clean x.1 x.2 hg;have ng:=hA.above x.1 x.2 hg;have A8:=hA.file x.1 x.2 hg;have e1:A.take (i+1)=A.take i++[x]:=by rw[bX,hx];rfl
 have hs:Sorted (A.take i++[x]):=by rw[<-e1];exact gq (List.take_sublist _ _) hA.sorted
 have yM:Sorted (A.take i):=gq (List.take_sublist _ _) hA.sorted;have je:ck (A.take i) x.1=none:=by
  rw[ka];intro h;obtain⟨y,hy,e⟩:=bH.1 h;have:=(gD.1 hs).2.2 y hy x (by simp);rw[e,lt_irrefl]at this;cases this
 have ym: ∀ d∈jm x.1,∃ t,ck (A.take i) d=some (true,t):=by
  intro d hd;obtain⟨t,ht⟩:=ng d hd;refine⟨t,jy yM.nodup ?_⟩;have hm:=lf ht;obtain⟨j,hj⟩:=List.mem_iff_getElem?.1 hm;have hji:j<i:=by
   rcases Nat.lt_trichotomy j i with h|h|h
   .exact h
   .subst h;rw[hj]at hx;have:=VK rT hd;rw[<-aZ (fun o=>o.1) (bW hx)]at this;rw[lt_irrefl]at this;cases this
   .have ct:=VK rT hd;have:=List.pairwise_iff_getElem.1 hA.sorted i j hi (aH.1 hj).1 h;rw[(aH.1 hx).2,(aH.1 hj).2]at this;rw[lt_asymm this]at ct;cases ct
  exact aU (by rw[dU,av hji];exact hj)
 have sg:mV (A.take i) x.1=false:=by
  unfold mV;rw[je];simpa using cz
 have Wj:kG (A.take i) x.1=false:=by
  unfold kG;rw[gY];intro d hd;obtain⟨t,ht⟩:=ym d hd;rw[ht];simp
 have Pk:dm (A.take i) x.1=[]:=by
  unfold dm;rw[List.filter_eq_nil_iff];intro d hd;obtain⟨t,ht⟩:=ym d hd;rw[ht];simp
 have PB:=hA.count;have hl:(A.take i).length=i:=by rw[aJ];omega
 have ez:cQ (A.take i)+x.2.2.length<=cQ A:=by
  have:cQ (A.take (i+1))<=cQ A:=by
   conv=>rhs;rw[<-dF (i+1) A]
   simp only[cQ,d9,iq];exact Nat.le_add_right _ _
  rw[e1]at this;simp only[cQ,d9,iq,dw,iA,List.sum_cons,List.sum_nil]at this ⊢;omega
 have qZ:=hA.size;refine⟨?_,rT.id,sg⟩;unfold ov;by_cases hd:x.2.1=true
 .rw[av hd];unfold zM;rw[ak (by rw[sg];simp),ak (by rw[je,Wj];simp),Pk,ak (by simp;omega),e1];show(iu (A.take i) x.1 (true,[]),0)=_;have:x.2=(true,[]):=Prod.ext hd (A8.2 hd);rw[<-this];congr 1;exact ND hs
 .have hd:x.2.1=false:=by simpa using hd
  rw[hd,ak (by simp)];unfold iO;have ho:fL (A.take i) x.1=0:=by unfold fL;rw[je]
  have hm:sG (A.take i) x.1=1:=by unfold sG;rw[je,Pk];simp
  rw[sg,Wj,Pk,ho,hm,ak (by simp),ak (by omega),e1];show(iu (A.take i) x.1 (false,x.2.2),0)=_;have:x.2=(false,x.2.2):=Prod.ext hd rfl;rw[<-this];congr 1;exact ND hs
theorem Wk {A:Tr} (hA:dr A):pR A=(some A,0):=by
 have key: ∀ m i,m+i=A.length->pE (A.take i) ((A.take i).map (·.1)) (A.drop i)=(some A,0):=by
  intro m;induction m with
  |zero=>intro i hi;rw[aV (by omega),aL (by omega)];rfl
  |succ m ih=>
   intro i hi;obtain⟨x,hx⟩: ∃ x,A[i]? =some x:=⟨_,aD (by omega)⟩;have hd:A.drop i=x::A.drop (i+1):=by
    rw[bP (by omega),(aH.1 hx).2]
   obtain⟨h1,h2,h3⟩:=agG hA i hx;have e1:A.take (i+1)=A.take i++[x]:=by rw[bX,hx];rfl
   have Et:x.1∉(A.take i).map (·.1):=by
    intro h;have hs:Sorted (A.take i++[x]):=by rw[<-e1];exact gq (List.take_sublist _ _) hA.sorted
    obtain⟨y,hy,e⟩:=bH.1 h;have:=(gD.1 hs).2.2 y hy x (by simp);rw[e,lt_irrefl]at this;cases this
   rw[hd,pE,h2,ak (by simp),ak (by rw[fT];exact⟨Et,fun e=>by rw[h3]at e;cases e.2⟩)];show(if(ov (A.take i) x.1 x).2≠0 then _ else _)=_;rw[h1,ak (by simp)];have:=ih (i+1) (by omega);rw[e1,d9]at this;rw[e1];exact this
 have:=key A.length 0 (by omega);show pE [] [] A=_;simpa using this
end Go.cM
namespace Go.lb
open Go.cN Go.eg Go.cM Go.Run
open Go.Vc (ck fk)
abbrev Fi:=ap×cM.Node
def iH:ap:=[98,117,105,108,100,46,104,115]
def mh (n v:ap):kP:=fk (fk [] [110,97,109,101] n) [118,101,114,115,105,111,110] v
def oX (n v:ap) (A:Tr):Nat×Tr:=
 if(qN A iH).2=0 then match (cN.iU (qN A iH).1).1 with
  |none=>(66,(nN A iH).1)
  |some L=>((jF L 65536 0 ⟨0,(nN A iH).1,some (mh n v),[]⟩).1.2,(jF L 65536 0 ⟨0,(nN A iH).1,some (mh n v),[]⟩).2.A)
 else(0,A)
def BM (n:ap) (A:Tr):List Fi:=A.map fun f=>(n++47::f.1,f.2)
def mu (n:ap) (A:Tr):List Fi:=(n,true,[])::BM n A
def jN (same:Bool) (n v b:ap):List Fi×Nat:=
 if same=false then([],74)
 else if(ej.kh b).2≠0 then([],(ej.kh b).2)
 else if(oX n v (ej.kh b).1).1≠0 then([],(oX n v (ej.kh b).1).1)
 else(mu n (oX n v (ej.kh b).1).2,0)
theorem TC: ∀ (L:List Fi) {A:Tr} (hA:dr A) (seen:List ap) {B:Tr} {c:Nat},pE A seen L=(some B,c)->dr B/\c=0
 |[],A,hA,seen,B,c,h=>by
  rw[pE]at h;cases h;exact⟨hA,rfl⟩
 |f::fs,A,hA,seen,B,c,h=>by
  rw[pE]at h;split at h
  .cases h
  split at h
  .cases h
  split at h
  .cases h
  .rename_i h1 _ _;exact TC fs (hA.step (oR (by simpa using h1)) f) _ h
theorem NE (b:ap) (h:(ej.kh b).2=0):dr (ej.kh b).1/\pR (ej.kh b).1=(some (ej.kh b).1,0):=by
 have key:dr (ej.kh b).1:=by
  unfold ej.kh at h ⊢;split at h
  .rename_i h1;rw[av h1];split at h
   .rename_i h2;rw[av h2];split at h
    .rename_i A c hA;exact(TC _ dr.nil [] hA).1
    .cases h
   .rename_i h2;exact absurd h h2
  .cases h
 exact⟨key,Wk key⟩
end Go.lb
namespace Go.Run
open Go.cN Go.eg Go.cM Go.bu
open Go.Vc (ck fk jX)
def wX (V W:kP):Prop:=∀ k,ck V k=ck W k
theorem J5 {V W:kP} (h:wX V W): ∀ (n:Nat) (s:ap),sH n V s=sH n W s
 |0,[]=>rfl
 |n+1,[]=>rfl
 |0,c::t=>rfl
 |n+1,c::t=>by
  unfold sH;rw[J5 h n t,J5 h n (t.drop (pz t)),J5 h n t.tail,show qi V (t.take (pz t))=qi W (t.take (pz t))by unfold qi;rw[h]]
theorem step_eq {V W:kP} (h:wX V W) (K:List Nat) (x:Ln) (a:Nat) (A:Tr) (S:List (Nat×Nat)):
  ∃ V' W' a' A' S' c,wX V' W'/\fX K x ⟨a,A,some V,S⟩=(⟨a',A',some V',S'⟩,c)/\fX K x ⟨a,A,some W,S⟩=(⟨a',A',some W',S'⟩,c):=by
 have hf: ∀ s,gd V s=gd W s:=fun s=>J5 h _ s;unfold fX;simp only[lp,Option.getD_some,hf];have one: ∀ {p:Prop} [Decidable p] {u u' w w':St×Nat},(p-> ∃ V' W' a' A' S' c,wX V' W'/\u=(⟨a',A',some V',S'⟩,c)/\w=(⟨a',A',some W',S'⟩,c))->(¬p-> ∃ V' W' a' A' S' c,wX V' W'/\u'=(⟨a',A',some V',S'⟩,c)/\w'=(⟨a',A',some W',S'⟩,c))-> ∃ V' W' a' A' S' c,wX V' W'/\(if p then u else u')=(⟨a',A',some V',S'⟩,c)/\(if p then w else w')=(⟨a',A',some W',S'⟩,c):=fun{p} _ {u u' w w'} h1 h2=>by
  by_cases c:p
  .simp only[av c];exact h1 c
  .simp only[ak c];exact h2 c
 iterate 6 refine one (fun _=>⟨V,W,_,_,_,_,h,rfl,rfl⟩) fun _=> ?_
 refine one (fun _=>one (fun _=>⟨V,W,_,_,_,_,h,rfl,rfl⟩) fun _=>one (fun _=>⟨V,W,_,_,_,_,h,rfl,rfl⟩) fun _=>⟨_,_,_,_,_,_,fun k=>by rw[jX,jX,h k,hf],rfl,rfl⟩) fun _=> ?_;refine one (fun _=>one (fun _=>⟨V,W,_,_,_,_,h,rfl,rfl⟩) fun _=>⟨V,W,_,_,_,_,h,rfl,rfl⟩) fun _=> ?_;refine one (fun _=>one (fun _=>⟨V,W,_,_,_,_,h,rfl,rfl⟩) fun _=>⟨V,W,_,_,_,_,h,rfl,rfl⟩) fun _=> ?_;refine one (fun _=>⟨V,W,_,_,_,_,h,rfl,rfl⟩) fun _=> ?_;refine one (fun _=> ?_) fun _=>one (fun _=>⟨V,W,_,_,_,_,h,rfl,rfl⟩) fun _=>⟨V,W,_,_,_,_,h,rfl,rfl⟩;cases S with
 |nil=>exact⟨V,W,_,_,_,_,h,rfl,rfl⟩
 |cons p S=>exact one (fun _=>one (fun _=>⟨V,W,_,_,_,_,h,rfl,rfl⟩) fun _=>⟨V,W,_,_,_,_,h,rfl,rfl⟩) fun _=>⟨V,W,_,_,_,_,h,rfl,rfl⟩
theorem run_eq (L:List Ln): ∀ (f u:Nat) {V W:kP} (h:wX V W) (a:Nat) (A:Tr) (S:List (Nat×Nat)),∃ V' W' a' A' S' c,wX V' W'/\jF L f u ⟨a,A,some V,S⟩=(c,⟨a',A',some V',S'⟩)/\jF L f u ⟨a,A,some W,S⟩=(c,⟨a',A',some W',S'⟩)
 |0,u,V,W,h,a,A,S=>by
  unfold jF;split
  .exact⟨V,W,_,_,_,_,h,rfl,rfl⟩
  .exact⟨V,W,_,_,_,_,h,rfl,rfl⟩
 |f+1,u,V,W,h,a,A,S=>by
  unfold jF;dsimp only;split
  .exact⟨V,W,_,_,_,_,h,rfl,rfl⟩
  .rename_i x hx;obtain⟨V',W',a',A',S',c,h',e1,e2⟩:=step_eq h (cY L) x a A S;rw[e1,e2];dsimp only;split
   .exact run_eq L f (u+1) h' a' A' S'
   .exact⟨V',W',_,_,_,_,h',rfl,rfl⟩
theorem ahJ {L:List Ln} {F:Nat} {A:Tr} {V:Option kP} (cz:mn (cY L)):(jF L F 0 ⟨0,A,V,[]⟩).2.at_<=L.length:=by
 have key: ∀ (f u:Nat) (s:St),s.at_<=L.length->(∀ p∈s.S,p.1<L.length)->(jF L f u s).2.at_<=L.length:=by
  intro f;induction f with
  |zero=>
   intro u s h1 h2;rw[jF];split<;>exact h1
  |succ f ih=>
   intro u s h1 h2;rw[jF];split
   .exact h1
   .rename_i x hx;split
    .obtain⟨g1,g2⟩:=Vd cz hx h2;exact ih _ _ g1 g2
    .exact h1
 exact key F 0 _ (aI _) fun p hp=>by cases hp
theorem adE {a b:ap} (h:a≠b) (x y:ap):wX (fk (fk [] a x) b y) (fk (fk [] b y) a x):=fun k=>by
 rw[jX,jX,jX,jX];by_cases h1:k=a
 .rw[av h1,ak (fun e=>h (h1.symm.trans e)),av h1]
 .rw[ak h1,ak h1]
end Go.Run
namespace Go.Proofs.YtphkaogbcfdllaaGreatDoor
open Go Go.Vc Go.cN Go.eg Go.cM Go.bu Go.Run Go.ew Go.lb
theorem zX {H:ae} {b:Nat} {c:List Value} {T:TypeId} (h:bu H b c.toArray T) (o:Nat): ∀ (k:Nat) (u:Value),c[o+k]? =some u->hcell H ⟨b,o+k,none⟩=some u:=fun k u hu=>by
 rw[h.cell];simpa using hu
def Lg (H:ae) (e:Nat) (v:Value):Prop:=if e=0 then v= .nilIface else ∃ ws:lK,(ws=[]\/ ∃ k:Nat,k<=1000000/\ws=[([108,105,110,101],Lib.itoa (k:Int))])/\j7 H ws (.num e) v
theorem afc {A:Tr} (hA:dr A) (s:ap):(qN A s).1.length<=65536:=by
 unfold qN;split
 .split
  .exact aI _
  .split
   .rename_i n hn;exact(hA.file _ n hn).1
   .exact aI _
 .exact aI _
set_option maxHeartbeats 4000000 in
theorem afd {H:ae} {b mb:Nat} {A:Tr} (p:nU) (c:List Value) (hc:sL H p c) (hv:nC p.v) (lO:p.name.length<=65536) (ht:iQ no H b mb A) (hA:dr A) (hg:kS H) (tO:2<=b/\2<=mb) (hH:2<=H.size):
  az Tryz.prog 91 [.agg c.toArray,.pointer (some ⟨b,0,none⟩)] H fun v H'=>Lg H' (oX p.name (km p.v) A).1 v/\iQ no H' b mb (oX p.name (km p.v) A).2/\cD (fun x=>x=b\/x=mb) H H':=by
 refine Vc.az.body Tryz.func91 Tryz.call91 rfl (by decide+kernel) rfl ?_;obtain⟨pa,pc,ec,oA,ib,pf⟩:=id hc;by_cases h0:(qN A iH).2=0
 .have vr:=ht.cL.lt;have mK:=ht.map.lt;have ud:(qN A iH).1.length<=65536:=afc hA iH;obtain⟨S,hS⟩: ∃ S,(qN A iH).1=S:=⟨_,rfl⟩;obtain⟨C,hC⟩: ∃ C,(qN A iH).2=C:=⟨_,rfl⟩;obtain⟨B,hB⟩: ∃ B,nN A iH=B:=⟨_,rfl⟩;have QY:dr B.1:=by rw[<-hB];exact hA.nN iH
  have wS:=fun H1 (k:ax H H1)=>Ub (ht.ext k) hA iH;rw[hS]at ud;simp only[hS,hC]at wS;rw[hC]at h0;subst h0;have Ch:oX p.name (km p.v) A=match (cN.iU S).1 with
   |none=>(66,B.1)
   |some L=>((jF L 65536 0 ⟨0,B.1,some (mh p.name (km p.v)),[]⟩).1.2,(jF L 65536 0 ⟨0,B.1,some (mh p.name (km p.v)),[]⟩).2.A):=by
   unfold oX;rw[hC,hS,hB,av rfl];try rfl
  have oK:=fun H1 (k:ax H H1)=>SD (ht.ext k) hA iH;simp only[hB]at oK;((conv=>whnf);repeat(any_goals((first|(refine(wS _ (by exact Vc.xt)).mono ?_;rintro _ H2 ⟨⟨ra,rc,rfl,Hn⟩,bh⟩;have dT:=bh.size)|(refine(oK _ (by exact Vc.xt)).mono ?_;rintro _ H3 ⟨rfl,pk,eI⟩;have eJ:=eI.size)|refine Vc.aq ?_)<;>(intros;(conv=>whnf)))))
  rename_i H1 z1 b1 x1;have jh:Row H3 ra (cv S):=Hn.row.keep eI fun q hq e=>by
   have:=(Hn.block q hq).1;rcases e with e|e<;>omega
  have Lh:cD (fun x=>x=b\/x=mb) H H3:=cD.trans (ax.only (x1.trans bh)) eI fun y hy e=>e;have LN:kS H3:=hg.keep Lh ⟨by omega,by omega⟩;rcases hP:cN.iU S with ⟨_|L,i⟩
  .have ue:=fun Hq=>Tx S (by omega) Hq;rw[hP]at Ch ue;rw[Ch];((conv=>whnf);repeat(any_goals((first|(refine ml (l:=S) rfl rfl rfl jh rfl ?_)|(refine(ue _).mono ?_;rintro _ H4 ⟨rfl,cH⟩;have gA:=cH.size)|refine Vc.aq ?_)<;>(intros;(conv=>whnf)))))
   exact⟨⟨[],.inl rfl,rfl⟩,pk.ext cH,Lh.ext cH⟩
  .have ue:=fun Hq=>Tx S (by omega) Hq;rw[hP]at Ch ue;rw[Ch];have eC:bu H1 H.size c.toArray 90:=by simpa [Value.cells]using b1
   have fR:bu H3 H.size c.toArray 90:=(eC.ext bh).keep eI (fun e=>by rcases e with e|e<;>omega);have iF:hcell H3 ⟨H.size,0+0,none⟩=some (.string (ag p.name)):=zX fR 0 0 _ (by rw[ec];rfl);have sW: ∀ (k:Nat) (u:Value),([.int .i64 p.v.ma,.int .i64 p.v.mi,.int .i64 p.v.pa,.slice pa p.v.pre.length pc]:List Value)[k]? =some u->hcell H3 ⟨H.size,0+1+k,none⟩=some u:=fun k u hu=>zX fR (0+1) k u (by
    rw[ec]
    match k,hu with
    |0,hu=>exact hu
    |1,hu=>exact hu
    |2,hu=>exact hu
    |3,hu=>exact hu)
   have ajy:Row H3 pa (strs p.v.pre):=(pf.keep Lh fun x c u e hb=>by
    rcases e with rfl|rfl
    .rw[(pw hb ht.cL).1];decide
    .exact absurd rfl (ht.map.ne hb)).row
   have YC:=fR.lt;((conv=>whnf);repeat(any_goals((first|(refine ml (l:=S) rfl rfl rfl jh rfl ?_)|(refine(ue _).mono ?_;rintro _ H4 ⟨⟨la,lc,rfl,rM⟩,cH⟩;have gA:=cH.size)|(refine aE.N0 ?_;intro H5 z5 qY x5)|(refine aE.nZ rfl iF (by exact Vc.xt) ?_)|(refine Vc.kL.load rfl rfl rfl rfl rfl rfl (by first|exact aE.nZ rfl iF (by exact Vc.xt) rfl|exact aE.pZ sW (by exact Vc.xt) rfl) ?_)|((fail_if_success (have:=L7));(first|refine dc.p9 (k:=[110,97,109,101]) (qY.ext dq) rfl rfl ?_|refine dc.p9 (k:=[110,97,109,101]) qY rfl rfl ?_|refine dc.p9 (k:=[118,101,114,115,105,111,110]) (qY.ext dq) rfl rfl ?_|refine dc.p9 (k:=[118,101,114,115,105,111,110]) qY rfl rfl ?_);intro H6 z6 L7 k6)|((with_reducible apply aE.pZ);(exact sW);(exact Vc.xt);(conv=>whnf))|(refine(ab3 p.v hv pa pc (LN.ext (by first|exact cH.trans x5|exact cH.trans (x5.but k6 (by omega))|exact cH)) ib (ajy.ext (by first|exact cH.trans x5|exact cH.trans (x5.but k6 (by omega))|exact cH))).mono ?_;rintro _ H7 ⟨rfl,dq⟩;have jK:=dq.size)|((first|refine dc.p9 (k:=[118,101,114,115,105,111,110]) (L7.ext dq) rfl rfl ?_|refine dc.p9 (k:=[118,101,114,115,105,111,110]) L7 rfl rfl ?_|refine dc.p9 (k:=[110,97,109,101]) L7 rfl rfl ?_);intro H8 z8 YD k8)|(first|(with_reducible refine Vc.cy.ku (id:=8) mixed ?_)|(with_reducible refine Vc.cg.split (es:=[]) 2 8 (by decide) (by decide) (by decide) ?_ ?_)|(with_reducible refine Vc.cg.split (es:=[(2,8)]) 5 8 (by decide) (by decide) (by decide) ?_ ?_)|(with_reducible refine Vc.cg.held (es:=[(5,8),(2,8)]) [0,1,3,4,6,7,2,5,8,9,10,11,12,13,14,15,16,17,18] [(2,[4,7]),(5,[7])] (by decide+kernel) ?_)|(with_reducible refine Vc.cg.split (es:=[(8,5),(2,8)]) 5 9 (by decide) (by decide) (by decide) ?_ ?_)|(with_reducible refine Vc.cg.held (es:=[(5,9),(8,5),(2,8)]) [0,1,3,4,6,7,2,8,5,9,10,11,12,13,14,15,16,17,18] [(2,[4,7]),(8,[4])] (by decide+kernel) ?_)|(with_reducible refine Vc.cg.held (es:=[(9,5),(8,5),(2,8)]) [0,1,3,4,6,7,2,8,9,5,10,11,12,13,14,15,16,17,18] [(2,[4,7]),(8,[4]),(9,[4])] (by decide+kernel) ?_)|(with_reducible refine Vc.cg.split (es:=[(8,2)]) 5 9 (by decide) (by decide) (by decide) ?_ ?_)|(with_reducible refine Vc.cg.held (es:=[(5,9),(8,2)]) [0,1,3,4,6,7,8,2,5,9,10,11,12,13,14,15,16,17,18] [(8,[4]),(2,[4])] (by decide+kernel) ?_)|(with_reducible refine Vc.cg.held (es:=[(9,5),(8,2)]) [0,1,3,4,6,7,8,2,9,5,10,11,12,13,14,15,16,17,18] [(8,[4]),(2,[4]),(9,[4])] (by decide+kernel) ?_))|refine Vc.aq ?_)<;>(intros;(conv=>whnf)))))
   all_goals
    have AB:ax H4 H8:=by first|exact((x5.trans dq).but k6 (aB _)).but k8 (aB _)|exact((dq.trans x5).but k6 (by omega)).but k8 (by omega)|exact((x5.but k6 (aB _)).trans dq).but k8 (aB _)
    have Aw:=cH.trans AB;have lD:=AB.size;obtain⟨V,eV,hVe⟩: ∃ V,jb H8 _ (tP V)/\wX V (mh p.name (km p.v)):=by
     first
      |exact⟨mh p.name (km p.v),by unfold mh;rw[<-DG,<-DG];exact YD,fun k=>rfl⟩
      |exact⟨fk (fk [] [118,101,114,115,105,111,110] (km p.v)) [110,97,109,101] p.name,by rw[<-DG,<-DG];exact YD,adE (by decide) _ _⟩
    obtain⟨V1,V2,a',A',S',cc,_,e1,e2⟩:=run_eq L 65536 0 hVe 0 B.1 [];obtain⟨Pf,Cd⟩:=adt hP;have Cc:=ahJ (F:=65536) (A:=B.1) (V:=some V) (Tj hP);rw[e1]at Cc;have ahK: ∀ x∈L,x.a.length<=1000000/\x.b.length<=1000000/\x.tx.length<=1000000/\x.n<=1000000:=fun x hx=>by
     have:=Pf x hx;exact⟨by have:=this.a;omega,by have:=this.b;omega,by have:=this.tx;omega,by have:=this.n;omega⟩
    refine(agv (cl:=lc) (vm:=some _) (V:=some V) (A:=B.1) (fuel:=65536) (F:=65536) (rM.row.ext AB) rfl (by omega) (Tj hP) ahK (pk.ext Aw) eV QY (fun v hv=>by injection hv;omega) (LN.ext Aw) ⟨by omega,by omega,fun v hv=>by injection hv;omega⟩ (by omega) (by decide)).mono ?_;rintro _ H9 ⟨er,rfl,jA,vC,hv9,kv⟩;rw[e1]at jA vC;dsimp only;rw[e2];dsimp only at jA vC Cc ⊢;((conv=>whnf);repeat(any_goals((first|refine Vc.aq ?_)<;>(intros;(conv=>whnf)))))
    refine⟨?_,vC,cD.trans (Lh.ext Aw) kv fun y hy e=> ?_⟩
    .unfold Lg;split at jA
     .rename_i h;rw[av h];exact jA
     .rename_i h;rw[ak h];exact⟨_,.inr ⟨_,by omega,rfl⟩,jA⟩
    .rcases e with e|e|e
     .exact .inl e
     .exact .inr e
     .injection e;omega
 .have rS: ¬((qN A iH).2:Int)=0:=by omega
  have hp:oX p.name (km p.v) A=(0,A):=by unfold oX;rw[ak h0]
  ((conv=>whnf);repeat(any_goals((first|(refine(Ub (ht.ext (by exact Vc.xt)) hA iH).mono ?_;rintro _ H2 ⟨⟨ra,rc,rfl,Hn⟩,bh⟩;have dT:=bh.size)|refine Vc.aq ?_)<;>(intros;(conv=>whnf)))))
  rw[hp];exact⟨rfl,ht.ext (by exact Vc.xt),ax.only (by exact Vc.xt)⟩
end Go.Proofs.YtphkaogbcfdllaaGreatDoor
namespace Go.Vc
variable {P:Program} {H H':ae}
structure AE (Q:Value->Prop) (H:ae) (a:Option Addr):Prop where out: ∀ p,a=some p-> ∀ o v,hcell H ⟨p.block,o,none⟩=some v->Q v
theorem AE.none (Q:Value->Prop) (H:ae):AE Q H none:=⟨fun p hp=>by cases hp⟩
theorem AE.keep {Q:Value->Prop} {F:Nat->Prop} {a:Option Addr} (h:AE Q H a) (k:cD F H H') (ha: ∀ p,a=some p->p.block<H.size/\ ¬F p.block):AE Q H' a:=⟨fun p hp o v hv=>by
 refine h.out p hp o v ?_;unfold hcell at hv ⊢;rw[k.same _ (ha p hp).1 (ha p hp).2]at hv;exact hv⟩
theorem AE.ext {Q:Value->Prop} {base:Nat} {e:TypeId} {size:Nat} {a:Option Addr} {n cap:Nat} {xs:List Value} (h:AE Q H a) (ho:cq H base e size a n cap xs) (k:ax H H'):AE Q H' a:=h.keep k fun p hp=>⟨(ho.block p hp).2,id⟩
def Wm:Value->Prop| .string _=>True|_=>False
end Go.Vc
namespace Go.Proofs.YtphkaogbcfdllaaGreatDoor
open Go Go.Vc Go.cN Go.eg Go.cM
theorem ab7 (A B:Tr) (a b:Option Addr) (n m ca cb:Nat) (H:ae) (rO:j4 H a A) (qW:j4 H b B) (hn:A.length=n) (hm:B.length=m) (hl:n<=1000000000) (oF:m<=1000000000):az Tryz.prog 29 [.slice a n ca,.slice b m cb] H fun v H'=>v= .bool (decide (A=B))/\H=H':=by
 refine Vc.az.body Tryz.func29 Tryz.call29 rfl (by decide+kernel) rfl ?_;by_cases iF:n=m
 .subst iF;((conv=>whnf);repeat(any_goals((first|refine Vc.aq ?_)<;>(intros;(conv=>whnf)))))
  refine dt.intro (fun(i:Nat)=>[(5,.int .i64 i)]) (fun i H'=>H=H'/\i<=n/\(A=B↔A.drop i=B.drop i)) (fun i=>n-i) 0 ⟨rfl,aF⟩ ⟨rfl,aI _,Iff.rfl⟩ ?_;rintro i _ ⟨rfl,hi,hinv⟩;by_cases ct:i<n
  .obtain⟨x,hx⟩: ∃ x,A[i]? =some x:=⟨_,aD (by omega)⟩;obtain⟨y,hy⟩: ∃ y,B[i]? =some y:=⟨_,aD (by omega)⟩;have Iv:A.drop i=x::A.drop (i+1):=by
    rw[bP (by omega)];congr 1;rw[aD (by omega)]at hx;exact bW hx
   have hdb:B.drop i=y::B.drop (i+1):=by
    rw[bP (by omega)];congr 1;rw[aD (by omega)]at hy;exact bW hy
   rw[Iv,hdb,iC]at hinv;obtain⟨xp,xd,xb⟩:=x;obtain⟨yp,yd,yb⟩:=y;have e1:((ag xp).toList==(ag yp).toList)=decide (xp=yp):=by rw[p5];simp[p6]
   have e3:((ag xb).toList==(ag yb).toList)=decide (xb=yb):=by rw[p5];simp[p6]
   have no: ¬(xp=yp/\xd=yd/\xb=yb)->(Vc.one [Value.bool false]=Value.bool (decide (A=B))):=by
    intro h;rw[aN (fun e=>h (by have:=(hinv.1 e).1;simpa using this))];rfl
   by_cases hp:xp=yp
   .rw[bB hp]at e1;by_cases hd:xd=yd
    .have e2:(xd==yd)=true:=by rw[hd];exact eD _
     by_cases hb:xb=yb
     .rw[bB hb]at e3;((conv=>whnf);repeat(any_goals((first|(refine cm.file rO hn i (xp,xd,xb) rfl hx ?_;intro bi oi ai ci ic dp;have iL:=dp 0 _ rfl;have pq:=dp 1 _ rfl;have q9:=dp 2 _ rfl)|(refine cm.file qW hm i (yp,yd,yb) rfl hy ?_;intro bj oj aj cj yP nk;have nh:=nk 0 _ rfl;have lZ:=nk 1 _ rfl;have rV:=nk 2 _ rfl)|(refine ml rfl rfl rfl ic rfl ?_)|(refine ml rfl rfl rfl yP rfl ?_)|refine Vc.aq ?_)<;>(intros;(conv=>whnf)))))
      exact⟨i+1,⟨rfl,aF⟩,⟨rfl,ct,hinv.trans ⟨fun h=>h.2,fun h=>⟨by rw[hp,hd,hb],h⟩⟩⟩,by omega⟩
     .rw[aN hb]at e3;((conv=>whnf);repeat(any_goals((first|(refine cm.file rO hn i (xp,xd,xb) rfl hx ?_;intro bi oi ai ci ic dp;have iL:=dp 0 _ rfl;have pq:=dp 1 _ rfl;have q9:=dp 2 _ rfl)|(refine cm.file qW hm i (yp,yd,yb) rfl hy ?_;intro bj oj aj cj yP nk;have nh:=nk 0 _ rfl;have lZ:=nk 1 _ rfl;have rV:=nk 2 _ rfl)|(refine ml rfl rfl rfl ic rfl ?_)|(refine ml rfl rfl rfl yP rfl ?_)|refine Vc.aq ?_)<;>(intros;(conv=>whnf)))))
      exact⟨no (fun h=>hb h.2.2),rfl⟩
    .have e2:(xd==yd)=false:=by simpa using hd
     ((conv=>whnf);repeat(any_goals((first|(refine cm.file rO hn i (xp,xd,xb) rfl hx ?_;intro bi oi ai ci ic dp;have iL:=dp 0 _ rfl;have pq:=dp 1 _ rfl;have q9:=dp 2 _ rfl)|(refine cm.file qW hm i (yp,yd,yb) rfl hy ?_;intro bj oj aj cj yP nk;have nh:=nk 0 _ rfl;have lZ:=nk 1 _ rfl;have rV:=nk 2 _ rfl)|(refine ml rfl rfl rfl ic rfl ?_)|(refine ml rfl rfl rfl yP rfl ?_)|refine Vc.aq ?_)<;>(intros;(conv=>whnf)))))
     exact⟨no (fun h=>hd h.2.1),rfl⟩
   .rw[aN hp]at e1;((conv=>whnf);repeat(any_goals((first|(refine cm.file rO hn i (xp,xd,xb) rfl hx ?_;intro bi oi ai ci ic dp;have iL:=dp 0 _ rfl;have pq:=dp 1 _ rfl;have q9:=dp 2 _ rfl)|(refine cm.file qW hm i (yp,yd,yb) rfl hy ?_;intro bj oj aj cj yP nk;have nh:=nk 0 _ rfl;have lZ:=nk 1 _ rfl;have rV:=nk 2 _ rfl)|(refine ml rfl rfl rfl ic rfl ?_)|(refine ml rfl rfl rfl yP rfl ?_)|refine Vc.aq ?_)<;>(intros;(conv=>whnf)))))
    exact⟨no (fun h=>hp h.1),rfl⟩
  .rw[aV (by omega),aV (by omega)]at hinv;((conv=>whnf);repeat(any_goals((first|refine Vc.aq ?_|refine Vc.bz ?_ ?_)<;>(intros;(conv=>whnf)))))
   exact⟨by rw[bB (hinv.2 rfl)];rfl,rfl⟩
 ·((conv=>whnf);repeat(any_goals((first|refine Vc.aq ?_|refine Vc.bz ?_ ?_)<;>(intros;(conv=>whnf)))))
  exact⟨by rw[aN (fun e=>iF (by rw[<-hn,<-hm,e]))];rfl,rfl⟩
theorem marked {P:Program} {t e:TypeId} {A H:ae} {g n cap:Nat} {c:Array Value} {ty:TypeId} {K:Value->ae->Prop} (ht:P.underlying t=some (.slice e)) (he:P.underlying e=some (.int .u8)) (hb:bu H g c ty) (hx:ax A H) (hg:A.size<=g)
  (hk: ∀ H',H'.size=H.size->Row H' (some ⟨g,0,none⟩) c.toList->ax A H'->K (.slice (some ⟨g,0,none⟩) n cap) H'):aE P (convert t t (.slice (some ⟨g,0,none⟩) n cap)) H K:=by
 obtain⟨fr,h1,_⟩:=hb.out;refine⟨fun w hw=>⟨_,w.freeze ⟨g,c.size,none⟩ 1,?_,⟨rfl,rfl,rfl⟩,hk _ ?_ ?_ ?_⟩⟩
 .have vw:w.shape? g=some (ty,c.size):=by
   unfold World.shape?;rw[hw,h1]
  simp[convert,ft ht,ft he,markStringish,vw]
 .subst hw;simp[World.freeze]
 .subst hw;refine⟨.inr ⟨g,0,rfl,fun j v hv=> ?_⟩⟩;have hgt:=hb.lt;simp only[hcell,World.freeze,aQ];simp[fG,h1];simpa using hv
 .subst hw;refine⟨by simpa [World.freeze]using hx.size,fun b h _=> ?_⟩;rw[<-hx.same b h id];have cz:g≠b:=by omega
  simp[World.freeze,fG,cz]
theorem aix {H:ae} {a:Option Addr} {l:List UInt8} {n:Nat} {i:Int} {K:Addr->Prop} (h:Row H a (cv l)) (hn:l.length=n) (j:Nat) (x:UInt8) (hi:i=j) (hx:l[j]? =some x)
  (hk: ∀ b o,hcell H ⟨b,o+j,none⟩=some (.int .u8 x.toNat)->K ⟨b,o+j,none⟩):cm a n 1 i K:=by
 have hj:=(aH.1 hx).1;subst hi;refine Go.Vc.cm.bytes h hn (by omega) (by omega) fun b o _ hc=> ?_;have e:l.getD j 0=x:=by simp[List.getD,hx]
 simp only[eU]at hc ⊢;rw[e]at hc;exact hk b o hc
end Go.Proofs.YtphkaogbcfdllaaGreatDoor
namespace Go.Proofs.YtphkaogbcfdllaaGreatDoor
open Go Go.Vc Go.cN Go.eg Go.cM Go.ej
def Gl (c:Nat):Value:= .iface 244 (.agg #[.int .i64 c])
def vU (c:Nat):List PanicEntry:=[{v:=Gl c,recovered:=false}]
theorem TD (b:Bool) (c:Nat) (H:ae) (R:Value->ae->Prop) (X:kD) (ht:b=true->R (.tuple #[]) H) (hf:b=false->X (vU c) H):lj Tryz.prog 150 [.bool b,.int .i64 c] H R X:=by
 refine Vc.lj.body Tryz.func150 Tryz.call150 rfl (by decide+kernel) rfl ?_;cases b
 ·((conv=>whnf);repeat(any_goals(first|(refine Vc.cJ ?_;(conv=>whnf)))))
  refine da.build #[.int .i64 c] (by kernel_rfl) ?_;((conv=>whnf);repeat(any_goals(first|(refine Vc.cJ ?_;(conv=>whnf)))))
  exact⟨hf rfl⟩
 ·((conv=>whnf);repeat(any_goals(first|(refine Vc.cJ ?_;(conv=>whnf)))))
  exact ht rfl
theorem sD {b:Bool} {c:Nat} {R:Value->ae->Prop} {X:kD} {H:ae} (hb:b=true) (h:R (.tuple #[]) H):lj Tryz.prog 150 [.bool b,.int .i64 c] H R X:=TD _ _ _ _ _ (fun _=>h) (fun e=>by rw[hb]at e;cases e)
theorem vM {b:Bool} {c:Nat} {R:Value->ae->Prop} {X:kD} {H:ae} (hb:b=false) (h:X (vU c) H):lj Tryz.prog 150 [.bool b,.int .i64 c] H R X:=TD _ _ _ _ _ (fun e=>by rw[hb]at e;cases e) (fun _=>h)
structure jW (H0 H:ae) (g:Nat) (l:Bs) (a:Option Addr) (cap:Nat):Prop where
 cL:bu H g #[.slice a l.length cap] 249
 row:Row H0 a (cv l)
 oz:l.length<=cap
 PT:cap<=maxLen
 low:H0.size<=g
 ext:ax H0 H
theorem jW.up {H0 H H':ae} {g:Nat} {l:Bs} {a:Option Addr} {cap:Nat} (h:jW H0 H g l a cap) (k:ax H H'):jW H0 H' g l a cap:=⟨h.cL.ext k,h.row,h.oz,h.PT,h.low,h.ext.trans k⟩
theorem jW.keep {F:Nat->Prop} {H0 H H':ae} {g:Nat} {l:Bs} {a:Option Addr} {cap:Nat} (h:jW H0 H g l a cap) (k:cD F H H') (hg: ¬F g) (hx:ax H0 H'):jW H0 H' g l a cap:=⟨h.cL.keep k hg,h.row,h.oz,h.PT,h.low,hx⟩
theorem NF (H0:ae) (g:Nat) (l:Bs) (a:Option Addr) (cap n:Nat) (H:ae) (hr:jW H0 H g l a cap) (hn:n<18446744073709551616) (hl:l.length<=1000000000):
  lj Tryz.prog 195 [.pointer (some ⟨g,0,none⟩),.int .u64 n] H
   (fun v H'=>n<=l.length/\v= .slice a n cap/\jW H0 H' g (l.drop n) (jM a cap n 1) (cap-n)/\fw g H H')
   (fun c H'=>¬n<=l.length/\c=vU 64/\H=H'):=by
 have hb:=hr.cL;have rT:=hr.oz;have yC:=hr.PT;unfold maxLen at yC;refine Vc.lj.body Tryz.func195 Tryz.call195 rfl (by decide+kernel) rfl ?_;by_cases h:n<=l.length
 .have e:l.length-n=(l.drop n).length:=by rw[aO]
  ((conv=>whnf);repeat(any_goals((first|(refine sD (by rw[aK];omega) ?_)|(refine dk.nat n rfl (by omega) ?_)|refine Vc.aq ?_)<;>(intros;(conv=>whnf)))))
  rename_i H2 z2 b2 x2;have b2:bu H2 g #[.slice (jM a cap n 1) (l.length-n) (cap-n)] 249:=b2;rw[e]at b2;refine⟨h,rfl,⟨b2,?_,by rw[<-e];omega,by unfold maxLen;omega,hr.low,hr.ext.but x2 hr.low⟩,x2⟩;have:=hr.row.drop cap n 1 (by rw[ik];omega);rwa[bQ,JL]at this
 ·((conv=>whnf);repeat(any_goals((first|(refine vM (by rw[aY];omega) ?_)|refine Vc.aq ?_)<;>(intros;(conv=>whnf)))))
  exact⟨h,rfl,rfl⟩
theorem ahL (n c:Nat) (hn:n<72057594037927936) (hc:c<256):du .u64 .or (rv .u64 (n:Int) 8) (c:Int)=((n*256+c:Nat):Int):=by
 have e1:rv .u64 (n:Int) 8=((n*256:Nat):Int):=by
  unfold rv;show IntKind.u64.wrap ((n:Int)*2 ^ 8)=_;rw[show((n:Int)*2 ^ 8)=((n*256:Nat):Int)by omega];exact Go.Vc.wrap_small IntKind.u64 rfl (by omega) (by show((n*256:Nat):Int)<2 ^ 64;omega)
 rw[e1];unfold du;show IntKind.u64.wrap _=_;have e2:((BitVec.ofInt IntKind.u64.bits ((n*256:Nat):Int)) ||| (BitVec.ofInt IntKind.u64.bits (c:Int))).toNat=n*256+c:=by
  rw[BitVec.toNat_or];have k1:(BitVec.ofInt IntKind.u64.bits ((n*256:Nat):Int)).toNat=n*256:=by
   rw[BitVec.ofInt_natCast,BitVec.toNat_ofNat];exact gQ (by show n*256<2 ^ 64;omega)
  have k2:(BitVec.ofInt IntKind.u64.bits (c:Int)).toNat=c:=by
   rw[BitVec.ofInt_natCast,BitVec.toNat_ofNat];exact gQ (by show c<2 ^ 64;omega)
  rw[k1,k2];have:=Nat.shiftLeft_add_eq_or_of_lt (b:=c) (i:=8) (by simpa using hc) n;rw[Nat.shiftLeft_eq]at this;simpa using this.symm
 rw[e2];exact Go.Vc.wrap_small IntKind.u64 rfl (by omega) (by show((n*256+c:Nat):Int)<2 ^ 64;omega)
theorem R9 (H0:ae) (g:Nat) (l:Bs) (a:Option Addr) (cap k:Nat) (H:ae) (hr:jW H0 H g l a cap) (hk:k<=8) (hl:l.length<=1000000000):
  lj Tryz.prog 196 [.pointer (some ⟨g,0,none⟩),.int .u64 k] H
   (fun v H'=>k<=l.length/\v= .int .u64 (fj (l.take k))/\(∃ a' cS,jW H0 H' g (l.drop k) a' cS)/\fw g H H')
   (fun c H'=>¬k<=l.length/\c=vU 64/\H=H'):=by
 have ht:=NF H0 g l a cap k H hr (by omega) hl;refine Vc.lj.body Tryz.func196 Tryz.call196 rfl (by decide+kernel) rfl ?_;((conv=>whnf);repeat(any_goals(first|((refine ht.mono ?_ ?_);(conv=>whnf))|(refine Vc.cJ ?_;(conv=>whnf)))))
 .rintro _ H1 ⟨h,rfl,iz,cd⟩;have jz:=(hr.row.take k).ext iz.ext;rw[zi]at jz;have kB:(l.take k).length=k:=by rw[aJ];omega
  ((conv=>whnf);repeat(any_goals((first|refine Vc.aq ?_)<;>(intros;(conv=>whnf)))))
  refine dt.intro (fun(i:Nat)=>[(12,.int .i64 i),(5,.int .u64 (fj ((l.take k).take i)))]) (fun i H'=>H1=H'/\i<=k) (fun i=>k-i) 0 ⟨rfl,rfl,aF⟩ ⟨rfl,aI _⟩ ?_;rintro i _ ⟨rfl,hi⟩;by_cases ct:i<k
  .obtain⟨c,hc⟩: ∃ c,(l.take k)[i]? =some c:=⟨_,aD (by omega)⟩;have wJ:=c.toNat_lt;have cW:fj ((l.take k).take (i+1))=fj ((l.take k).take i)*256+c.toNat:=by rw[bX,hc];exact Uq _ _
   have eC:=OY ((l.take k).take i);have di:fj ((l.take k).take i)<72057594037927936:=by
    refine dG eC ?_;rw[aJ,kB]
    calc 256 ^ min i k<=256 ^ 7:=gZ (by decide) (by omega)
     _<=_:=by decide
   have wW:=ahL _ c.toNat di wJ;((conv=>whnf);repeat(any_goals((first|(refine aix jz kB i c rfl hc ?_;intro bo oo Ex)|refine Vc.aq ?_)<;>(intros;(conv=>whnf)))))
   exact⟨i+1,⟨rfl,by rw[cW];exact aZ _ wW,aF⟩,⟨rfl,by omega⟩,by omega⟩
  .obtain rfl:i=k:=by omega
   rw[aL (by omega)];((conv=>whnf);repeat(any_goals((first|refine Vc.aq ?_)<;>(intros;(conv=>whnf)))))
   exact⟨h,rfl,⟨_,_,iz⟩,cd⟩
 .rintro c H1 ⟨h,rfl,rfl⟩;exact⟨h,rfl,rfl⟩
end Go.Proofs.YtphkaogbcfdllaaGreatDoor
namespace Go.eg
open Go.cN
end Go.eg
namespace Go.Vc
end Go.Vc
namespace Go.Proofs.YtphkaogbcfdllaaGreatDoor
open Go Go.Vc Go.cN Go.eg
end Go.Proofs.YtphkaogbcfdllaaGreatDoor
namespace Go.Vc
end Go.Vc
namespace Go.Proofs.YtphkaogbcfdllaaGreatDoor
open Go Go.Vc Go.cN Go.eg Go.cM
end Go.Proofs.YtphkaogbcfdllaaGreatDoor
