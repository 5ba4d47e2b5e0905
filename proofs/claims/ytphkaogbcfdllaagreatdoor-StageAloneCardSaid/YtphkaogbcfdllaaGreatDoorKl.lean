import Derived.Test.YtphkaogbcfdllaaGreatDoorKk
import Derived.Lib.ItoaNum
import Derived.Test.YtphkaogbcfdllaaGreatDoorKi
import Derived.Test.YtphkaogbcfdllaaGreatDoorKe
import Derived.Test.YtphkaogbcfdllaaGreatDoorKd
import Derived.Test.YtphkaogbcfdllaaGreatDoorKj
import Derived.Lib.Bytealg
import Derived.Test.YtphkaogbcfdllaaGreatDoorKh
set_option linter.unusedVariables false
set_option linter.unusedSimpArgs false
set_option maxRecDepth 100000
/- The registry of the laws: rows of few numbers, as parameters. -/
namespace Go.ew
open Go.cN
structure jP where
 n:Nat
 v:Nat
 needs:List Nat
 kind:Nat
 tg:Nat
structure Po (r:jP):Prop where
 n:r.n<256
 v:r.v<256
 needs: ∀ x∈r.needs,x<65536
 kind:r.kind<256
 tg:r.tg<256
def Ah (k:Go.IntKind) (l:List Nat):List Go.Value:=l.map fun(n:Nat)=>Go.Value.int k (n:Int)
end Go.ew
namespace Go.Proofs.YtphkaogbcfdllaaGreatDoor
open Go Go.Vc Go.cN Go.ew Go.ChangeShapes Go.WideShapes Go.RowKit
def wy (H:ae) (r:jP) (c:List Value):Prop:=∃ a cap,c=[.int .u8 r.n,.int .u8 r.v,.slice a r.needs.length cap,.int .u8 r.kind,.int .u8 r.tg]/\r.needs.length<=cap/\Row H a (Ah .u16 r.needs)/\Po r
theorem F9:mE wy 5:=⟨fun⟨_,_,e,_⟩=>by rw[e];rfl,fun k ⟨a,cap,e,h,r,b⟩=>⟨a,cap,e,h,r.ext k,b⟩,fun⟨_,_,e,_⟩ u hu=>by
 rw[e]at hu;simp at hu;rcases hu with rfl|rfl|rfl|rfl|rfl<;>rfl⟩
theorem BO {n:Int} (h:(Lit.int .u8 n).wf=true): ∃ m:Nat,n=m/\m<256:=by
 have h2:0<=n/\n<=255:=by
  simp[Lit.wf,IntKind.min,IntKind.max,IntKind.signed,IntKind.bits]at h;omega
 exact⟨n.toNat,by omega,by omega⟩
theorem agY {n:Int} (h:(Lit.int .u16 n).wf=true): ∃ m:Nat,n=m/\m<65536:=by
 have h2:0<=n/\n<=65535:=by
  simp[Lit.wf,IntKind.min,IntKind.max,IntKind.signed,IntKind.bits]at h;omega
 exact⟨n.toNat,by omega,by omega⟩
section
variable {H:Type} {enc:TypeId×Value->H} {w:World} {base:Nat} {sp:Nat->Bool} {held:Bool}
theorem adX {t:TypeId} {fuel:Nat} {cs:List Value} {x:DataW H×List MemPlace} (ht:Tryz.prog.underlying t=some (.slice 65))
  (h:DataW.trod enc Tryz.prog w base sp held fuel t cs=some x): ∃ (a:Option Addr) (n cap:Nat) (l:List Nat),cs=[.slice a n cap]/\l.length=n/\n<=cap/\cap<=maxLen/\Row w.heap a (Ah .u16 l)/\ ∀ x∈l,x<65536:=by
 obtain⟨a,n,cap,vs,rfl,hl,hn,hm,hr,_,vu⟩:=adW (P:=Tryz.prog) (e:=65) (k:=1) ht (by kernel_rfl) (by decide) h;obtain⟨L,rfl,hL,hq⟩:=UF (k:=1) (by decide) (Q:=fun c=>∃ m y,DataW.trod enc Tryz.prog w base sp held m 65 c=some y) n vs hl vu;have: ∀ L:List (List Value),(∀ c∈L,c.length=1/\ ∃ m y,DataW.trod enc Tryz.prog w base sp held m 65 c=some y)-> ∃ l:List Nat,L.length=l.length/\L.flatten=Ah .u16 l/\ ∀ x∈l,x<65536:=by
  intro L;induction L with
  |nil=>intro _;exact⟨[],rfl,rfl,fun x hx=>by cases hx⟩
  |cons c L ih=>
   intro hq;obtain⟨l,h1,h2,h3⟩:=ih fun c hc=>hq c (by simp[hc]);obtain⟨pq,m,y,hy⟩:=hq c (by simp)
   match c,pq with
   |[u0],_=>
    obtain⟨z,e0,_,hw⟩:=DataW.trod_int (P:=Tryz.prog) rfl hy;obtain⟨z,rfl,hz⟩:=agY hw;have e0:u0= .int .u16 z:=by
     have:[u0]=[Value.int .u16 z]:=e0;injection this
    refine⟨z::l,by simp[h1],?_,fun x hx=> ?_⟩
    .rw[List.flatten_cons,h2,e0];rfl
    .rcases aM.1 hx with rfl|hx
     .exact hz
     .exact h3 x hx
 obtain⟨l,h1,h2,h3⟩:=this L hq;exact⟨a,n,cap,l,rfl,by rw[<-h1,hL],hn,hm,by rw[<-h2];exact hr,h3⟩
theorem UG {m:Nat} {c:List Value} {y:DataW H×List MemPlace} (Qv:c.length=5) (hy:DataW.trod enc Tryz.prog w base sp held m 74 c=some y): ∃ r:jP,wy w.heap r c:=by
 obtain⟨xs,k,_,_,_,hlen,hf⟩:=DataW.trod_struct (P:=Tryz.prog) (t:=74) rfl hy;have g0:=hf 0 _ rfl;have g1:=hf 1 _ rfl;have g2:=hf 2 _ rfl;have g3:=hf 3 _ rfl;have g4:=hf 4 _ rfl
 match xs,hlen,c,Qv with
 |[y0,y1,y2,y3,y4],_,[u0,u1,u2,u3,u4],_=>
  obtain⟨z0,e0,_,w0⟩:=DataW.trod_int (P:=Tryz.prog) rfl g0;obtain⟨z1,e1,_,w1⟩:=DataW.trod_int (P:=Tryz.prog) rfl g1;obtain⟨a',n',cS,l',e2,vg,hn',Y0,CZ,Cw⟩:=adX (t:=72) rfl g2;obtain⟨z3,e3,_,w3⟩:=DataW.trod_int (P:=Tryz.prog) rfl g3;obtain⟨z4,e4,_,w4⟩:=DataW.trod_int (P:=Tryz.prog) rfl g4;obtain⟨z0,rfl,b0⟩:=BO w0;obtain⟨z1,rfl,b1⟩:=BO w1;obtain⟨z3,rfl,b3⟩:=BO w3;obtain⟨z4,rfl,b4⟩:=BO w4;have e0:u0= .int .u8 z0:=by
   have:[u0]=[Value.int .u8 z0]:=e0;injection this
  have e1:u1= .int .u8 z1:=by
   have:[u1]=[Value.int .u8 z1]:=e1;injection this
  have e2:u2= .slice a' n' cS:=by
   have:[u2]=[Value.slice a' n' cS]:=e2;injection this
  have e3:u3= .int .u8 z3:=by
   have:[u3]=[Value.int .u8 z3]:=e3;injection this
  have e4:u4= .int .u8 z4:=by
   have:[u4]=[Value.int .u8 z4]:=e4;injection this
  exact⟨⟨z0,z1,l',z3,z4⟩,a',cS,by rw[e0,e1,e2,e3,e4,<-vg],by rw[vg];exact hn',CZ,⟨b0,b1,Cw,b3,b4⟩⟩
end
def DN (L:List jP) (most:Nat):Bool:=decide (L.length<=most)&&L.all fun r=>decide (r.needs.length<=4)
theorem JI (L:List jP) (most:Nat):DN L most=true↔L.length<=most/\ ∀ r∈L,r.needs.length<=4:=by
 unfold DN;simp[cB]
theorem aE.afz {H H0:ae} {b o:Nat} {c:List Value} {K:Value->ae->Prop} (hl:c.length=5) (hc: ∀ k u,c[k]? =some u->hcell H0 ⟨b,o+k,none⟩=some u) (he:ax H0 H) (hk:K (.agg c.toArray) H):aE Tryz.prog (Instr.loadAt 74 (.pointer (some ⟨b,o,none⟩))) H K:=by
 have:=Go.Vc.aE.tv (P:=Tryz.prog) (t:=74) (H:=H) (b:=b) (o:=o) (vs:=c) (K:=K) rfl rfl (by rw[hl];rfl) (fun j u hu=>jj (hc j u hu) he id) hk;exact this
theorem adY (L:List jP) (a:Option Addr) (n cap most:Nat) (H:ae) (hr:ia wy H a L) (hn:L.length=n) (hm:most<=1000):az Tryz.prog 35 [.slice a n cap,.int .i64 most] H fun v H'=>v= .bool (DN L most)/\H=H':=by
 refine Vc.az.body Tryz.func35 Tryz.call35 rfl (by decide+kernel) rfl ?_;by_cases h40:n<=most
 ·((conv=>whnf);repeat(any_goals((first|refine Vc.aq ?_)<;>(intros;(conv=>whnf)))))
  refine dt.intro (fun(i:Nat)=>[(5,.int .i64 i)]) (fun i H'=>H=H'/\i<=n/\ ∀ f∈L.take i,f.needs.length<=4) (fun i=>n-i) 0 ⟨rfl,aF⟩ ⟨rfl,aI _,by(show ∀ f∈L.take 0,_;rw[fu];intro f hf;cases hf)⟩ ?_;rintro i _ ⟨rfl,hi,ii⟩;by_cases ct:i<n
  .obtain⟨r,sj⟩: ∃ r,L[i]? =some r:=⟨_,aD (by omega)⟩;have pg:=aU sj;by_cases h4:r.needs.length<=4
   ·((conv=>whnf);repeat(any_goals((first|(refine cm.el F9 (by decide) hr hn i r (by omega) sj ?_;intro b o c jL cU;obtain⟨na,nc,ec,oz,wR,Rb⟩:=(id jL);have q9:hcell _ ⟨b,o+2,none⟩=some (Value.slice na r.needs.length nc):=cU 2 _ (by rw[ec];rfl))|refine Vc.aq ?_)<;>(intros;(conv=>whnf)))))
    refine⟨i+1,⟨rfl,aF⟩,⟨rfl,by omega,?_⟩,by omega⟩;rw[bX,sj];intro f hf;rcases bZ.1 hf with hf|hf
    .exact ii f hf
    .simp at hf;subst hf;exact h4
   .have je:DN L most=false:=by
     rw[gH];intro h';exact h4 ((JI L most).1 h' |>.2 r pg)
    rw[je];((conv=>whnf);repeat(any_goals((first|(refine cm.el F9 (by decide) hr hn i r (by omega) sj ?_;intro b o c jL cU;obtain⟨na,nc,ec,oz,wR,Rb⟩:=(id jL);have q9:hcell _ ⟨b,o+2,none⟩=some (Value.slice na r.needs.length nc):=cU 2 _ (by rw[ec];rfl))|refine Vc.aq ?_)<;>(intros;(conv=>whnf)))))
    exact⟨rfl,rfl⟩
  .rw[aL (by omega)]at ii;rw[(JI L most).2 ⟨by omega,ii⟩];((conv=>whnf);repeat(any_goals((first|refine Vc.aq ?_)<;>(intros;(conv=>whnf)))))
   exact⟨rfl,rfl⟩
 .have je:DN L most=false:=by
   rw[gH];intro h';have:=((JI L most).1 h').1;omega
  rw[je];((conv=>whnf);repeat(any_goals((first|refine Vc.aq ?_)<;>(intros;(conv=>whnf)))))
  exact⟨rfl,rfl⟩
end Go.Proofs.YtphkaogbcfdllaaGreatDoor
namespace Go.ew
open Go.cN
end Go.ew
namespace Go.Proofs.YtphkaogbcfdllaaGreatDoor
open Go Go.Vc Go.cN Go.ew
structure P8 (s:Ax):Prop where
 len:s.qF.length<=1000000
 lens: ∀ l∈s.qF,l.length<=1000000
 ver: ∀ l∈s.qF,∀ b∈l,yv b.v
end Go.Proofs.YtphkaogbcfdllaaGreatDoor
namespace Go.IQ
open Go.cN Go.cM Go.ew
def Pp (DZ:List gC->Bool):List gC->List gC->List gC
 |kept,[]=>kept
 |kept,n::l=>if DZ (kept++l)then Pp DZ kept l else Pp DZ (kept++[n]) l
def v7 (DZ:List gC->Bool) (N:List gC):List ap:=if DZ N then(Pp DZ [] N).map (·.name)else []
end Go.IQ
namespace Go.ew
open Go.cN Go.cM
end Go.ew
namespace Go.IQ
open Go.cN Go.cM Go.ew
end Go.IQ
namespace Go.ew
open Go.cN Go.cM
def z32:ap:=List.replicate 32 0
end Go.ew
namespace Go.IQ
open Go.cN Go.cM Go.ew
end Go.IQ
namespace Go.Vc
variable {α:Type}
theorem ia.take {E:ae->α->List Value->Prop} {s:Nat} (ok:mE E s) {H:ae} {a:Option Addr} {l:List α} (h:ia E H a l) (k:Nat):ia E H a (l.take k):=by
 obtain⟨vs,h1,h2⟩:=h.out;exact⟨_,h1.take (k*s),h2.take ok k⟩
theorem ia.drop {E:ae->α->List Value->Prop} {s:Nat} (ok:mE E s) {H:ae} {a:Option Addr} {l:List α} (h:ia E H a l) (m k:Nat) (hl:m=k->l.length<=k):ia E H (jM a m k s) (l.drop k):=by
 obtain⟨vs,h1,h2⟩:=h.out;exact⟨_,h1.drop m k s (fun e=>by rw[h2.len ok];exact eZ _ (hl e)),h2.drop ok k⟩
theorem cP.Ll {P:Program} {E:ae->α->List Value->Prop} {s:Nat} {Ts:TypeId->Prop} (ok:qT E s Ts) {H:ae} {t u e ty:TypeId} {i:TypeInfo} {z:Value} {g:Nat} {a2:Option Addr} {m c2:Nat} {x:α} {c:List Value} {l2:List α} {cb:Array Bool} {K:Value->ae->Prop}
  (ht:P.underlying t=some (.slice e)) (hu: ∃ d,P.underlying u=some d/\(∀ k,d≠ .int k)) (hi:P.info? e=some i) (hs:i.size=s) (hz:i.zero=some z) (o8:z.cells.size=i.size) (mw:i.bytes<=100000) (QV: ¬Ts e)
  (tL:bu H g c.toArray e) (hx:E H x c) (hr:ia E H a2 l2) (hm:l2.length=m) (iF:m<=100000)
  (hk: ∀ a' cS H',gp E s H' g e a' (x::l2) cS->fw g H H'->K (.slice a' (1+m) cS) H'):cP P (builtin .append #[t,u] ty cb #[.slice (some ⟨g,0,none⟩) 1 1,.slice a2 m c2]) H K:=by
 obtain⟨ws,h1,h2⟩:=hr.out;exact cP.yw (l:=[x]) ok ht hu hi hs hz o8 mw QV (Dx ok.ok tL (gg.one hx) (aB g) (by simp)) rfl h1 h2 hm (by omega) (Nat.le_of_lt tL.lt) fun a' c' H' g1 g2 _=>hk a' c' H' g1 g2.VY
theorem cP.KS {P:Program} {E:ae->α->List Value->Prop} {s:Nat} (ok:mE E s) {H:ae} {t u e ty:TypeId} {i:TypeInfo} {z:Value} {a a2:Option Addr} {m c2:Nat} {l l2:List α} {n:Nat} {cb:Array Bool} {K:Value->ae->Prop}
  (ht:P.underlying t=some (.slice e)) (hu: ∃ d,P.underlying u=some d/\(∀ k,d≠ .int k)) (hi:P.info? e=some i) (hs:i.size=s) (hz:i.zero=some z) (o8:z.cells.size=i.size) (mw:i.bytes<=100000)
  (ho:ia E H a l) (hn:l.length=n) (hr:ia E H a2 l2) (hm:l2.length=m) (mc:0<m) (iF:n+m<=1000000)
  (hk: ∀ cS H',gp E s H' H.size e (some ⟨H.size,0,none⟩) (l++l2) cS->ax H H'->K (.slice (some ⟨H.size,0,none⟩) (n+m) cS) H'):
  cP P (builtin .append #[t,u] ty cb #[.slice a n n,.slice a2 m c2]) H K:=by
 obtain⟨ws,h1,h2⟩:=hr.out;exact cP.ait ok ht hu hi hs hz o8 mw ho hn h1 h2 hm mc iF hk
def Cl (_:ae) (k:Bs) (c:List Value):Prop:=c=[.string (ag k)]
theorem UH (H:ae): ∀ l:List Bs,gg Cl H l (strs l)
 |[]=> .nil
 |k::l=>by have:=gg.cons (E:=Cl) (H:=H) (x:=k) (c:=[.string (ag k)]) rfl (UH H l);exact this
theorem gg.Vr {H:ae} {l:List Bs} {vs:List Value} (h:gg Cl H l vs):vs=strs l:=by
 induction h with
 |nil=>rfl
 |cons h _ ih=>rw[h,ih];rfl
theorem gp.strs {H:ae} {base:Nat} {e:TypeId} {a:Option Addr} {l:List Bs} {cap:Nat} (h:gp Cl 1 H base e a l cap):cq H base e 1 a l.length cap (strs l):=by
 obtain⟨vs,h1,h2⟩:=h.out;rw[h2.Vr]at h1;exact h1
end Go.Vc
namespace Go.ew
open Go.cN Go.cM
end Go.ew
namespace Go.Proofs.YtphkaogbcfdllaaGreatDoor
open Go Go.Vc Go.cN Go.ew
end Go.Proofs.YtphkaogbcfdllaaGreatDoor
namespace Go.Vc
variable {α:Type}
def DO (E:ae->α->List Value->Prop) (H:ae):ae->α->List Value->Prop:=fun _ x c=>E H x c
theorem FN {E:ae->α->List Value->Prop} {s:Nat} (ok:mE E s) (H:ae):qT (DO E H) s (fun _=>False):=⟨ok.len,ok.plain,fun _ _ h=>h⟩
end Go.Vc
namespace Go.ew
open Go.cN Go.cM
end Go.ew
namespace Go.Proofs.YtphkaogbcfdllaaGreatDoor
open Go Go.Vc Go.cN Go.ew
end Go.Proofs.YtphkaogbcfdllaaGreatDoor
namespace Go.Vc
theorem dc.Df {P:Program} {H:ae} {t e:TypeId} {i:TypeInfo} {b:Nat} {c0:Array Value} {c:List Value} {K:ae->Prop} (hb:bu H b c0 e) (hi:P.info? t=some i) (hn:c.length=i.size) (hc:c0.size=c.length) (hp: ∀ u∈c,jt u=true)
  (hk: ∀ H',H'.size=H.size->bu H' b c.toArray e->fw b H H'->K H'):dc P (Instr.storeAt t (.pointer (some ⟨b,0,none⟩)) (.agg c.toArray)) H K:=
 dc.pW hb hi (by simpa using hn) (by simpa using hc) (by simpa using hp) hk
theorem DA {H:ae} {b:Nat} {c:List Value} {T:TypeId} (h:bu H b c.toArray T) (o:Nat): ∀ (k:Nat) (u:Value),c[o+k]? =some u->hcell H ⟨b,o+k,none⟩=some u:=fun k u hu=>by
 rw[h.cell];simpa using hu
end Go.Vc
namespace Go.Proofs.YtphkaogbcfdllaaGreatDoor
open Go Go.Vc Go.cN Go.ew
theorem aE.TO {H H0:ae} {b o:Nat} {c:List Value} {K:Value->ae->Prop} (hl:c.length=4) (hc: ∀ k u,c[k]? =some u->hcell H0 ⟨b,o+k,none⟩=some u) (he:ax H0 H) (hk:K (.agg c.toArray) H):aE Tryz.prog (Instr.loadAt 176 (.pointer (some ⟨b,o,none⟩))) H K:=by
 have:=Go.Vc.aE.tv (P:=Tryz.prog) (t:=176) (H:=H) (b:=b) (o:=o) (vs:=c) (K:=K) rfl rfl (by rw[hl];rfl) (fun j u hu=>jj (hc j u hu) he id) hk;exact this
theorem aE.TP {H H0:ae} {b o:Nat} {l:List UInt8} {K:Value->ae->Prop} (hl:l.length=32) (hc: ∀ k u,(cv l)[k]? =some u->hcell H0 ⟨b,o+k,none⟩=some u) (he:ax H0 H) (hk:K (.agg (cv l).toArray) H):aE Tryz.prog (Instr.loadAt 85 (.pointer (some ⟨b,o,none⟩))) H K:=by
 have:=Go.Vc.aE.tv (P:=Tryz.prog) (t:=85) (H:=H) (b:=b) (o:=o) (vs:=cv l) (K:=K) rfl rfl (by rw[ik,hl];rfl) (fun j u hu=>jj (hc j u hu) he id) hk;exact this
theorem OJ {c:List Value} {n x1 x2 x3 x4:Value} {X Y:List Value} (e:c=[n,x1,x2,x3,x4]++X++Y): ∀ k u,X[k]? =some u->c[5+k]? =some u:=fun k u hu=>by
 subst e;rw[bM,bA (by show 5<=5+k;omega),show 5+k- [n,x1,x2,x3,x4].length=k by show 5+k-5=k;omega,bV (aH.1 hu).1];exact hu
theorem Oh {c:List Value} {n x1 x2 x3 x4 z w:Value} {X:List Value} (e:c=[n,x1,x2,x3,x4]++X++[z,w]) (h:X.length=32):c[37]? =some z/\c[38]? =some w:=by
 subst e;constructor
 .rw[bA (by rw[au,h];show 37<=37;omega),au,h];rfl
 .rw[bA (by rw[au,h];show 37<=38;omega),au,h];rfl
end Go.Proofs.YtphkaogbcfdllaaGreatDoor
namespace Go.Vc
theorem ia.const {α:Type} {E:ae->α->List Value->Prop} {H:ae} {a:Option Addr} {l:List α} (h:ia E H a l):ia (DO E H) H a l:=by
 obtain⟨vs,h1,h2⟩:=h.out;refine⟨vs,h1,?_⟩;clear h1 h;induction h2 with
 |nil=>exact .nil
 |cons h _ ih=>exact .cons h ih
end Go.Vc
namespace Go.ew
open Go.cN Go.cM
structure GX (R:List iN) (N:List gC) (P:List nU) (W:List gC) (i:Nat) (out:List ap):Prop where
 le:i<=W.length
 root: ∀ n∈N,n∈W
 reach: ∀ n∈W,F8 R N P n.name
 nodup:out.Nodup
 told: ∀ k∈out,F8 R N P k/\ ∃ p∈P,p.name=k
 done: ∀ n∈W.take i,n.name∈out\/ ∀ p∈P,p.name≠n.name
 step: ∀ r∈R,W4 r∈P->r.name∈out-> ∀ n∈r.needs,n∈W
theorem GX.skip {R:List iN} {N:List gC} {P:List nU} {W:List gC} {i:Nat} {out:List ap} (h:GX R N P W i out) {n:gC} (hn:W[i]? =some n) (hd:n.name∈out\/ ∀ p∈P,p.name≠n.name):GX R N P W (i+1) out:=
 ⟨(aH.1 hn).1,h.root,h.reach,h.nodup,h.told,fun m hm=>by
  rw[bX,hn]at hm;rcases bZ.1 hm with hm|hm
  .exact h.done m hm
  .simp at hm;subst hm;exact hd,h.step⟩
theorem GX.len {R:List iN} {N:List gC} {P:List nU} {W:List gC} {i:Nat} {out:List ap} (h:GX R N P W i out):out.length<=P.length:=by
 have:=Go.Vc.Bp h.nodup (l:=P.map (·.name)) fun k hk=>by
  obtain⟨_,p,hp,rfl⟩:=h.told k hk;exact bH.2 ⟨p,hp,rfl⟩
 rwa[dn]at this
end Go.ew
namespace Go.ew
open Go.cN
def Lm (c:UInt8):Bool:=decide (c.toNat=61) || decide (c.toNat=60) || decide (c.toNat=62) || decide (c.toNat=94) || decide (c.toNat=126)
def Ai (w:ap):ap:=if w.take 2=[60,61]\/w.take 2=[62,61]then w.take 2 else match w with
 |[]=>[]
 |c::_=>if Lm c=true then [c]else []
def P9 (v:fp):Nat:=if 0<v.ma then 0 else if 0<v.mi then 1 else 2
def FY (s:ap) (v:fp):List oZ:=
 if s=[]then [⟨[61],v⟩]else if s=[94]then [⟨[62,61],v⟩,⟨[60],ou v (P9 v)⟩]else if s=[126]then [⟨[62,61],v⟩,⟨[60],ou v 1⟩]else [⟨s,v⟩]
def BG (w:ap):Option (List oZ):=match nV (w.drop (Ai w).length)with
 |none=>none
 |some v=>some (FY (Ai w) v)
def pS:ap->ap->List ap
 |eE,[]=>[eE]
 |eE,[c]=>[eE++[c]]
 |eE,c::d::t=>if c.toNat=124/\d.toNat=124 then eE::pS [] t else pS (eE++[c]) (d::t)
def Em:List oZ->List ap->Option (List oZ)
 |acc,[]=>some acc
 |acc,w::l=>match BG w with
  |none=>none
  |some b=>Em (acc++b) l
def AG:List (List oZ)->List ap->Option (List (List oZ))
 |acc,[]=>some acc
 |acc,s::l=>if 1<=(rl s).length/\(rl s).length<=8 then match Em [] (rl s)with
   |none=>none
   |some b=>AG (acc++[b]) l
  else none
def yg (s:ap):Option Ax:=if rl s=[[42]]then some ⟨true,[]⟩else if(pS [] s).length<=8 then match AG [] (pS [] s)with
  |none=>none
  |some o=>some ⟨false,o⟩
 else none
theorem afA (w:ap):(Ai w).length<=w.length/\(Ai w).length<=2:=by
 unfold Ai;split
 .simp only[aJ];omega
 .split
  .simp
  .split<;>simp
theorem OL {most:Nat} {s:ap} {n:Nat} (h:oB most s=some n):n<=most:=by
 unfold oB at h;split at h
 .rename_i h1;injection h with h
  rw[<-h];exact h1.2.2.2
 .cases h
theorem adZ {s:ap} (h:sI s=true):s.length<=16:=by
 unfold sI at h;simp only[bC,aK]at h;exact h.1.1.2
structure nC (v:fp):Prop where
 ma:v.ma<=999999999
 mi:v.mi<=999999999
 pa:v.pa<=999999999
 len:v.pre.length<=5
 pre: ∀ m∈v.pre,m.length<=16
theorem Sh {core:ap} {pre:List ap} (hl:pre.length<=5) (hp: ∀ m∈pre,m.length<=16) {v:fp} (h:v7 core pre=some v):nC v:=by
 unfold v7 at h;split at h
 .rename_i a b c _;split at h
  .rename_i x y z h1 h2 h3;cases h;exact⟨OL h1,OL h2,OL h3,hl,hp⟩
  .cases h
 .cases h
theorem ack {s:ap} {v:fp} (h:nV s=some v):nC v:=by
 unfold nV at h;split at h
 .exact Sh (aI _) (fun m hm=>by cases hm) h
 .split at h
  .rename_i h1;refine Sh h1.1 (fun m hm=> ?_) h;exact adZ (cB.1 h1.2 m hm)
  .cases h
end Go.ew
namespace Go.Proofs.YtphkaogbcfdllaaGreatDoor
open Go Go.Vc Go.cN Go.ew
theorem zZ {v:fp} (h:ew.nC v):yv v:=⟨by have:=h.ma;omega,by have:=h.mi;omega,by have:=h.pa;omega,by have:=h.len;omega,fun m hm=>by have:=h.pre m hm;omega⟩
def aj2 (H':ae) (B:Nat) (x:Value):Option (List oZ)->Prop
 |some l=>∃ a cap,x= .tuple #[.slice a l.length cap,.bool true]/\gp Cf 5 H' B 291 a l cap
 |none=>x= .tuple #[.slice none 0 0,.bool false]
theorem UI {H:ae} {s:Bs} {v:fp} {a:Option Addr} {cap:Nat} (hc:v.pre.length<=cap) (hr:mJ 9 H a (strs v.pre)):gg Cf H [⟨s,v⟩] [.string (ag s),.int .i64 v.ma,.int .i64 v.mi,.int .i64 v.pa,.slice a v.pre.length cap]:= .one ⟨a,cap,rfl,hc,hr⟩
theorem TQ (v:fp) (p:Nat):(ou v p).pre=[]:=by unfold ou;(repeat' split)<;>rfl
theorem UJ {H:ae} {s s':Bs} {v:fp} {p:Nat} {a:Option Addr} {cap:Nat} (hc:v.pre.length<=cap) (hr:mJ 9 H a (strs v.pre)):gg Cf H [⟨s,v⟩,⟨s',ou v p⟩] ([.string (ag s),.int .i64 v.ma,.int .i64 v.mi,.int .i64 v.pa,.slice a v.pre.length cap]++[.string (ag s'),.int .i64 (ou v p).ma,.int .i64 (ou v p).mi,.int .i64 (ou v p).pa,.slice none (ou v p).pre.length 0]):=
 .cons ⟨a,cap,rfl,hc,hr⟩ (.one ⟨none,0,rfl,by dsimp only;rw[TQ];exact aI _,by dsimp only;rw[TQ];exact mJ.nil _ _ _⟩)
theorem Lp {K:Value->Prop} {o1 o2:Operand} {s:ByteArray} {x y z w:Value} (h:K (.agg #[.string s,x,y,z,w])):da Tryz.prog (Instr.build 291 ((List.map (fun x:Nat×Operand=>x.1) (#[(0,o1),(1,o2)]:Array (Nat×Operand)).toList).zip [.string s,.agg #[x,y,z,w]]).toArray) K:=da.build _ (by kernel_rfl) h
set_option maxHeartbeats 4000000 in
theorem aa9 (w:Bs) (hw:w≠ []) (hl:w.length<=100000000) (H:ae):az Tryz.prog 143 [.string (ag w)] H fun x H'=>aj2 H' H.size x (BG w)/\ax H H':=by
 obtain⟨c,t,rfl⟩: ∃ c t,w=c::t:=by
  cases w with
  |nil=>exact absurd rfl hw
  |cons c t=>exact⟨c,t,rfl⟩
 have ez:(ag (c::t)).size=t.length+1:=rfl;have cW:(c::t).length=t.length+1:=rfl;have wJ:=c.toNat_lt;obtain⟨S,hS⟩: ∃ S,Ai (c::t)=S:=⟨_,rfl⟩;have ud:=(afA (c::t)).1;have hbf:BG (c::t)=match nV ((c::t).drop S.length)with|none=>none|some v=>some (FY S v):=by unfold BG;rw[hS]
 rw[hbf];rw[hS]at ud;refine Vc.az.body Tryz.func143 Tryz.call143 rfl (by decide+kernel) rfl ?_;((conv=>whnf);repeat(any_goals((first|refine Vc.pe ?_|refine Vc.bz ?_ ?_)<;>(intros;(conv=>whnf)))))
 refine jO.cut (fun(_:Unit)=>[(4,.string (ag S))]) (fun _ H'=>H=H') ?_ ?_
 .have e1:(((ag (c::t)).extract 0 2).toList==(⟨#[60,61]⟩:ByteArray).toList)=decide ((c::t).take 2=[60,61]):=by rw[nM];exact p7 _ _
  have e2:(((ag (c::t)).extract 0 2).toList==(⟨#[62,61]⟩:ByteArray).toList)=decide ((c::t).take 2=[62,61]):=by rw[nM];exact p7 _ _
  by_cases E0:(c::t).take 2=[60,61]\/(c::t).take 2=[62,61]
  .have IU:S=(c::t).take 2:=by rw[<-hS];unfold Ai;rw[av E0]
   have h2:1<=t.length:=by
    rcases E0 with h|h
    .have:=aZ List.length h;simp only[aJ,ay,cu]at this;omega
    .have:=aZ List.length h;simp only[aJ,ay,cu]at this;omega
   rcases E0 with h|h
   .rw[bB h]at e1;((conv=>whnf);repeat(any_goals((first|(refine dk.nat 2 rfl (by omega) ?_)|refine Vc.aq ?_)<;>(intros;(conv=>whnf)))))
    exact⟨(),⟨by show Value.string _=_;rw[nM,IU],aF⟩,rfl⟩
   .rw[bB h]at e2;have cz:(c::t).take 2≠ [60,61]:=fun e=>by rw[h]at e;cases e
    rw[aN cz]at e1;((conv=>whnf);repeat(any_goals((first|(refine dk.nat 2 rfl (by omega) ?_)|refine Vc.aq ?_)<;>(intros;(conv=>whnf)))))
    exact⟨(),⟨by show Value.string _=_;rw[nM,IU],aF⟩,rfl⟩
  .rw[aN fun e=>E0 (.inl e)]at e1;rw[aN fun e=>E0 (.inr e)]at e2;have IU:S=if Lm c=true then [c]else []:=by rw[<-hS];unfold Ai;rw[ak E0]
   have rL:(ag (c::t)).data.toList.getD 0 0=c:=rfl;have cd:(ag (c::t)).extract 0 1=ag [c]:=nM _ 1;rcases (by omega:c.toNat=61\/c.toNat=60\/c.toNat=62\/c.toNat=94\/c.toNat=126\/(c.toNat≠61/\c.toNat≠60/\c.toNat≠62/\c.toNat≠94/\c.toNat≠126))with k|k|k|k|k|⟨k1,k2,k3,k4,k5⟩
   iterate 5
    (focus
     have Rc:S=[c]:=(by rw[IU];unfold Lm;rw[k];rfl);by_cases lu:1<=t.length;all_goals((conv=>whnf);repeat(any_goals((first|(refine dk.nat 2 rfl (by omega) ?_)|(refine dk.nat 1 rfl (by omega) ?_)|(refine db.nat 0 rfl (by omega) ?_;(conv=>whnf);rw[rL])|refine Vc.aq ?_)<;>(intros;(conv=>whnf)))))
     all_goals exact⟨(),⟨by show Value.string _=_;rw[cd,Rc],aF⟩,rfl⟩)
   .have Rc:S=[]:=by
     rw[IU];unfold Lm;rw[aN k1,aN k2,aN k3,aN k4,aN k5];rfl
    by_cases lu:1<=t.length;all_goals((conv=>whnf);repeat(any_goals((first|(refine dk.nat 2 rfl (by omega) ?_)|(refine db.nat 0 rfl (by omega) ?_;(conv=>whnf);rw[rL])|refine Vc.aq ?_)<;>(intros;(conv=>whnf)))))
    all_goals exact⟨(),⟨by show Value.string _=_;rw[Rc],aF⟩,rfl⟩
 .rintro _ _ rfl;have hsS:(ag S).size=S.length:=rfl;have Cm:=fun H=>Oc ((c::t).drop S.length) (by rw[aO];omega) H;have jd: ∀ v,nV ((c::t).drop S.length)=some v->ew.nC v:=fun v=>ack;have e0:((ag S).toList==(⟨#[]⟩:ByteArray).toList)=decide (S=[]):=p7 _ _;have e1:((ag S).toList==(⟨#[94]⟩:ByteArray).toList)=decide (S=[94]):=p7 _ _;have e2:((ag S).toList==(⟨#[126]⟩:ByteArray).toList)=decide (S=[126]):=p7 _ _;cases hV:nV ((c::t).drop S.length)with
  |none=>
   rw[hV]at Cm;((conv=>whnf);repeat(any_goals((first|(refine dk.nat S.length rfl (by omega) ?_;(conv=>whnf);rw[nY])|(refine(Cm _).mono ?_;rintro _ H1 ⟨rfl,cd⟩;have eR:=cd.size)|refine Vc.aq ?_)<;>(intros;(conv=>whnf)))))
   exact⟨rfl,by exact Vc.xt⟩
  |some v=>
   rw[hV]at Cm;have jo:=jd v hV;have m1:=jo.ma;have m2:=jo.mi;dsimp only;unfold FY;by_cases k0:S=[]
   .rw[bB k0]at e0;rw[av k0];((conv=>whnf);repeat(any_goals((first|(refine dk.nat S.length rfl (by omega) ?_;(conv=>whnf);rw[nY])|(refine(Cm _).mono ?_;rintro x1 H1 ⟨⟨a,cap,vD,fg⟩,cd⟩;unfold mW at vD;subst vD;have eR:=cd.size)|((with_reducible apply Lp);(conv=>whnf))|refine Vc.aq ?_)<;>(intros;(conv=>whnf)))))
    exact⟨⟨_,_,rfl,Dx zC.ok (by assumption) (UI fg.jC (fg.ql.ext (by exact Vc.xt))) (by omega) (by simp)⟩,cd.trans (by exact Vc.xt)⟩
   rw[aN k0]at e0;rw[ak k0];by_cases k1:S=[94]
   .rw[bB k1]at e1;rw[av k1];obtain⟨q,hq⟩: ∃ q,P9 v=q:=⟨_,rfl⟩;rw[hq];by_cases g1:0<v.ma
    case' neg=>by_cases g2:0<v.mi
    all_goals(unfold P9 at hq;first|rw[av g1]at hq|rw[ak g1,av g2]at hq|rw[ak g1,ak g2]at hq)
    all_goals subst hq
    all_goals((conv=>whnf);repeat(any_goals((first|(refine dk.nat S.length rfl (by omega) ?_;(conv=>whnf);rw[nY])|(refine(Cm _).mono ?_;rintro x1 H1 ⟨⟨a,cap,vD,fg⟩,cd⟩;unfold mW at vD;subst vD;have eR:=cd.size)|((with_reducible apply Lp);(conv=>whnf))|(refine(JW v (zZ jo) 0 (by decide) _ _ (J9 fg.jC (fg.row.ext (by exact Vc.xt)))).mono ?_;rintro x5 H5 ⟨vE,cE⟩;unfold mW at vE;subst vE;have ij:=cE.size)|(refine(JW v (zZ jo) 1 (by decide) _ _ (J9 fg.jC (fg.row.ext (by exact Vc.xt)))).mono ?_;rintro x5 H5 ⟨vE,cE⟩;unfold mW at vE;subst vE;have ij:=cE.size)|(refine(JW v (zZ jo) 2 (by decide) _ _ (J9 fg.jC (fg.row.ext (by exact Vc.xt)))).mono ?_;rintro x5 H5 ⟨vE,cE⟩;unfold mW at vE;subst vE;have ij:=cE.size)|((with_reducible refine Vc.cy.held [0,1,2,3,4,5,6,7] [(3,[0])] mixed (by decide+kernel) ?_))|refine Vc.aq ?_)<;>(intros;(conv=>whnf)))))
    all_goals exact⟨⟨_,_,rfl,Dx zC.ok (by assumption) (UJ fg.jC (fg.ql.ext (by exact Vc.xt))) (by omega) (by simp)⟩,cd.trans (by exact Vc.xt)⟩
   rw[aN k1]at e1;rw[ak k1];by_cases k2:S=[126]
   .rw[bB k2]at e2;rw[av k2];((conv=>whnf);repeat(any_goals((first|(refine dk.nat S.length rfl (by omega) ?_;(conv=>whnf);rw[nY])|(refine(Cm _).mono ?_;rintro x1 H1 ⟨⟨a,cap,vD,fg⟩,cd⟩;unfold mW at vD;subst vD;have eR:=cd.size)|((with_reducible apply Lp);(conv=>whnf))|(refine(JW v (zZ jo) 1 (by decide) _ _ (J9 fg.jC (fg.row.ext (by exact Vc.xt)))).mono ?_;rintro x5 H5 ⟨vE,cE⟩;unfold mW at vE;subst vE;have ij:=cE.size)|((with_reducible refine Vc.cy.held [0,1,2,3,4,5,6] [(2,[0])] mixed (by decide+kernel) ?_))|refine Vc.aq ?_)<;>(intros;(conv=>whnf)))))
    exact⟨⟨_,_,rfl,Dx zC.ok (by assumption) (UJ fg.jC (fg.ql.ext (by exact Vc.xt))) (by omega) (by simp)⟩,cd.trans (by exact Vc.xt)⟩
   rw[aN k2]at e2;rw[ak k2];((conv=>whnf);repeat(any_goals((first|(refine dk.nat S.length rfl (by omega) ?_;(conv=>whnf);rw[nY])|(refine(Cm _).mono ?_;rintro x1 H1 ⟨⟨a,cap,vD,fg⟩,cd⟩;unfold mW at vD;subst vD;have eR:=cd.size)|((with_reducible apply Lp);(conv=>whnf))|refine Vc.aq ?_)<;>(intros;(conv=>whnf)))))
   exact⟨⟨_,_,rfl,Dx zC.ok (by assumption) (UI fg.jC (fg.ql.ext (by exact Vc.xt))) (by omega) (by simp)⟩,cd.trans (by exact Vc.xt)⟩
end Go.Proofs.YtphkaogbcfdllaaGreatDoor
namespace Go.ew
open Go.cN
theorem agZ (eE t:ap):pS eE (124::124::t)=eE::pS [] t:=by rw[pS,av ⟨rfl,rfl⟩]
theorem afB {eE t:ap} {c:UInt8} (h: ¬(c.toNat=124/\ ∃ u,t=124::u)):pS eE (c::t)=pS (eE++[c]) t:=by
 cases t with
 |nil=>rfl
 |cons d u=>
  rw[pS,ak];rintro⟨h1,h2⟩;exact h ⟨h1,u,by rw[dJ.1 (h2.trans (show(124:Nat)=(124:UInt8).toNat from rfl))]⟩
theorem OM: ∀ (eE s:ap),(pS eE s).length<=s.length+1/\ ∀ x∈pS eE s,x.length<=eE.length+s.length
 |eE,[]=>by simp[pS]
 |eE,[c]=>by simp[pS]
 |eE,c::d::t=>by
  rw[pS];split
  .obtain⟨h1,h2⟩:=OM [] t;refine⟨by simp only[ay];omega,fun x hx=> ?_⟩;rcases aM.1 hx with rfl|hx
   .omega
   .have:=h2 x hx;simp only[ay,cu]at*;omega
  .obtain⟨h1,h2⟩:=OM (eE++[c]) (d::t);refine⟨by simp only[ay]at*;omega,fun x hx=> ?_⟩;have:=h2 x hx;simp only[ay,au,cu]at*;omega
theorem ad0 {s w:ap} (h:w∈rl s):w≠ []:=by
 unfold rl at h;have:=(bT.1 h).2;simpa using this
theorem acm {s w:ap} (h:w∈rl s):w.length<=s.length:=by
 unfold rl at h;exact Dp 32 s w (bT.1 h).1
theorem abb (s:ap) (v:fp):(FY s v).length<=2:=by
 unfold FY;(repeat' split)<;>simp
theorem abd {w:ap} {b:List oZ} (h:BG w=some b):b.length<=2:=by
 unfold BG at h;split at h
 .cases h
 .cases h;exact abb _ _
end Go.ew
namespace Go.Proofs.YtphkaogbcfdllaaGreatDoor
open Go Go.Vc Go.cN Go.ew
def aj3 (H':ae) (B:Nat) (x:Value):Option Ax->Prop
 |some s=>∃ a cap,x= .tuple #[.agg #[.bool s.any,.slice a s.qF.length cap],.int .i64 0]/\gp Gj 1 H' B 228 a s.qF cap
 |none=>x= .tuple #[.agg #[.bool false,.slice none 0 0],.int .i64 61]
structure Y1 where
 i:Nat
 fr:Nat
 out:List Bs
 a:Option Addr
 cap:Nat
structure OlS where
 acc:List (List oZ)
 a:Option Addr
 cap:Nat
structure AlS where
 k:Nat
 all:List oZ
 a:Option Addr
 cap:Nat
theorem BH {H0 H H':ae} {a:Option Addr} {n:Nat} (h:ax H0 H) (hb: ∀ p,a=some p->H0.size<=p.block/\p.block<n) (k:Wr a H H'):ax H0 H':=cD.trans h k fun b ct ⟨p,hp,e⟩=>by have:=hb p hp;omega
theorem aiK {K:Value->Prop} {o1:Operand} {x:Bool} (h:K (.agg #[.bool x,.slice none 0 0])):da Tryz.prog (Instr.build 174 ((List.map (fun x:Nat×Operand=>x.1) (#[(0,o1)]:Array (Nat×Operand)).toList).zip [.bool x]).toArray) K:=da.build _ (by kernel_rfl) h
theorem O2 {K:Value->Prop} (h:K (.agg #[.bool false,.slice none 0 0])):da Tryz.prog (Instr.build 174 (((#[]:Array (Nat×Operand)).toList.map fun x:Nat×Operand=>x.1).zip ([]:List Value)).toArray) K:=da.build _ (by kernel_rfl) h
set_option maxHeartbeats 4000000 in
theorem TR (s:Bs) (hl:s.length<=10000000) (H:ae):az Tryz.prog 86 [.string (ag s)] H fun x H'=>aj3 H' H.size x (yg s)/\ax H H':=by
 have ez:(ag s).size=s.length:=rfl;have sT:=fun H=>R7 s (by omega) H;obtain⟨W,hW⟩: ∃ W,rl s=W:=⟨_,rfl⟩;obtain⟨L,hL⟩: ∃ L,pS [] s=L:=⟨_,rfl⟩;have Mi:yg s=if W=[[42]]then some ⟨true,[]⟩else if L.length<=8 then match AG [] L with|none=>none|some o=>some ⟨false,o⟩else none:=by unfold yg;rw[hW,hL];try rfl
 rw[Mi];rw[hW]at sT;refine Vc.az.body Tryz.func86 Tryz.call86 rfl (by decide+kernel) rfl ?_;by_cases Pq:W=[[42]]
 .subst Pq;rw[av rfl];have e0:((ag [42]).toList==(⟨#[42]⟩:ByteArray).toList)=true:=p7 _ _;((conv=>whnf);repeat(any_goals((first|(refine(sT _).mono ?_;rintro _ H1 ⟨⟨a1,c1,rfl,fg⟩,cd⟩;have eR:=cd.size)|(refine cm.fe fg.row rfl 0 [42] rfl rfl ?_;intro _ _ _ _ _)|((with_reducible apply aiK);(conv=>whnf))|refine Vc.aq ?_)<;>(intros;(conv=>whnf)))))
  rename_i H0 z0 b0 x0 _ _ _ _ _ H2 z2 b2 k2;exact⟨⟨none,0,rfl,gp.nil _ _ _ _ _⟩,(x0.trans cd).but k2 (by omega)⟩
 rw[ak Pq];have hWl: ∀ x,W=[x]->x≠ [42]:=fun x e h=>Pq (by rw[e,h]);obtain⟨yG,Y2⟩:=OM [] s;rw[hL]at yG Y2;((conv=>whnf);repeat(any_goals((first|(refine(sT _).mono ?_;rintro _ H1 ⟨⟨a1,c1,rfl,fg⟩,cd⟩;have eR:=cd.size)|refine Vc.pe ?_|refine Vc.bz ?_ ?_)<;>(intros;(conv=>whnf)))))
 rename_i H0 z0 b0 x0;refine jO.cut (fun(_:Unit)=>[]) (fun _ H'=>H1=H') ?_ ?_
 .by_cases h1:W.length=1
  .obtain⟨x,rfl⟩: ∃ x,W=[x]:=List.length_eq_one_iff.1 h1;have e0:((ag x).toList==(⟨#[42]⟩:ByteArray).toList)=false:=by
    show((ag x).toList==(ag [42]).toList)=false;rw[p7];exact aN (hWl x rfl)
   ((conv=>whnf);repeat(any_goals((first|(refine cm.fe fg.row rfl 0 x rfl rfl ?_;intro _ _ _ _ _)|refine Vc.aq ?_)<;>(intros;(conv=>whnf)))))
   exact⟨(),aF,rfl⟩
  ·((conv=>whnf);repeat(any_goals((first|refine Vc.aq ?_)<;>(intros;(conv=>whnf)))))
   exact⟨(),aF,rfl⟩
 .rintro _ _ rfl;((conv=>whnf);repeat(any_goals((first|refine Vc.pe ?_|refine Vc.bz ?_ ?_)<;>(intros;(conv=>whnf)))))
  rename_i H2 z2 b2 x2;have gn:ax H H2:=x0.trans (cd.trans x2);refine jO.cut (fun(x:Y1)=>[(6,.slice x.a L.length x.cap)]) (fun x H'=>x.out=L/\cq H' H2.size 9 1 x.a L.length x.cap (strs L)/\ax H2 H') ?_ ?_
  ·((conv=>whnf);repeat(any_goals((first|refine Vc.aq ?_)<;>(intros;(conv=>whnf)))))
   refine dt.intro (fun(x:Y1)=>[(8,.int .i64 x.i),(7,.int .i64 x.fr),(6,.slice x.a x.out.length x.cap)]) (fun x H'=>x.i<=s.length+2/\x.out.length<=x.i/\(if x.i<=s.length then x.fr<=x.i/\L=x.out++pS (mid s x.fr x.i) (s.drop x.i)else x.out=L)/\cq H' H2.size 9 1 x.a x.out.length x.cap (strs x.out)/\ax H2 H') (fun x=>s.length+2-x.i) ⟨0,0,[],none,0⟩ ⟨rfl,rfl,rfl,aF⟩ ⟨aI _,aB _,by rw[av (aI _)];exact⟨aB _,by rw[Oa];exact hL.symm⟩,cq.nil _ _ _ _,ax.refl _⟩ ?_;rintro⟨i,fr,out,a,cap⟩ H3 ⟨hi,j5,hinv,eI,bw⟩;dsimp only at hi j5 hinv eI ⊢;have eJ:=bw.size;by_cases hle:i<=s.length
   .rw[av hle]at hinv;obtain⟨eA,C0⟩:=hinv;by_cases heq:i=s.length
    .subst heq;rw[List.drop_length,pS]at C0;((conv=>whnf);repeat(any_goals((first|(refine dk.nat s.length rfl (by omega) ?_)|(refine dk.nat fr rfl (by omega) ?_;(conv=>whnf);rw[xA])|refine Vc.aq ?_)<;>(intros;(conv=>whnf)))))
     rename_i H5 qD im cE a6 c6 H6 ei cV;exact⟨⟨s.length+2,s.length+2,out++[mid s fr s.length],a6,c6⟩,⟨rfl,rfl,uF _ _ _ _,aF⟩,⟨aB _,by show(out++[_]).length<=_;simp;omega,by rw[ak (by dsimp only;omega)];exact C0.symm,tp rfl ei,cV⟩,by show s.length+2-(s.length+2)<_;omega⟩
    .have ct:i<s.length:=by omega
     obtain⟨c,hc,hd⟩:=pX ct;rw[hd]at C0;have sq:(s.drop (i+1)).length=s.length-(i+1):=aO;have e1:(((ag s).extract i (i+2)).toList==(⟨#[124,124]⟩:ByteArray).toList)=decide ((c::s.drop (i+1)).take 2=[124,124]):=by
      rw[xA,hd,show i+2-i=2 by omega];exact p7 _ _
     by_cases Qa:c.toNat=124/\ ∃ u,s.drop (i+1)=124::u
     .obtain⟨h1,u,hu⟩:=Qa;have pq:c=124:=dJ.1 h1;have Qg:s.drop (i+2)=u:=by
       have:s.drop (i+2)=(s.drop (i+1)).drop 1:=by rw[List.drop_drop]
       rw[this,hu];rfl
      rw[hu]at sq;simp only[ay]at sq;rw[pq,hu,agZ]at C0;rw[pq,hu,bB (show(124::124::u:ap).take 2=[124,124]from rfl)]at e1;((conv=>whnf);repeat(any_goals((first|(refine dk.nat (i+2) rfl (by omega) ?_)|(refine dk.nat i rfl (by omega) ?_)|(refine dk.nat fr rfl (by omega) ?_;(conv=>whnf);rw[xA])|refine Vc.aq ?_)<;>(intros;(conv=>whnf)))))
      rename_i H5 qD im cE a6 c6 H6 ei cV;exact⟨⟨i+2,i+2,out++[mid s fr i],a6,c6⟩,⟨rfl,rfl,uF _ _ _ _,aF⟩,⟨by show i+2<=_;omega,by show(out++[_]).length<=_;simp;omega,by rw[av (by dsimp only;omega)];exact⟨aB _,by dsimp only;rw[Oa,Qg,C0];simp⟩,tp rfl ei,cV⟩,by show s.length+2-(i+2)<_;omega⟩
     .have e2:decide ((c::s.drop (i+1)).take 2=[124,124])=false:=aN fun e=>Qa (by
       cases hq:s.drop (i+1)with
       |nil=>rw[hq]at e;cases e
       |cons d u=>
        rw[hq]at e;injection e with e3 e4
        injection e4 with e4 _
        subst e3;subst e4;exact⟨rfl,u,rfl⟩)
      rw[e2]at e1;rw[afB Qa]at C0;by_cases lu:i+1<s.length;all_goals((conv=>whnf);repeat(any_goals((first|(refine dk.nat (i+2) rfl (by omega) ?_)|(refine dk.nat i rfl (by omega) ?_)|refine Vc.aq ?_)<;>(intros;(conv=>whnf)))))
      all_goals exact⟨⟨i+1,fr,out,a,cap⟩,⟨rfl,rfl,rfl,aF⟩,⟨by show i+1<=_;omega,by show out.length<=i+1;omega,by rw[av (by dsimp only;omega)];exact⟨by dsimp only;omega,by dsimp only;rw[Uk eA hd];exact C0⟩,eI,bw⟩,by show s.length+2-(i+1)<s.length+2-i;omega⟩
   .rw[ak hle]at hinv;subst hinv;((conv=>whnf);repeat(any_goals((first|refine Vc.aq ?_)<;>(intros;(conv=>whnf)))))
    exact⟨⟨i,fr,out,a,cap⟩,⟨rfl,aF⟩,rfl,eI,bw⟩
  .rintro⟨_,_,out,a,cap⟩ H3 ⟨mG,eI,bw⟩;dsimp only at mG eI ⊢;clear mG;have eJ:=bw.size;have j3:=gn.trans bw;have b03:bu H3 H.size #[.bool false,.slice none 0 0] 174:=((b0.ext cd).ext x2).ext bw;have Mj:bu H3 H1.size #[.bool false,.slice none 0 0] 174:=b2.ext bw;by_cases h8:8<L.length
   .rw[ak (by omega)];((conv=>whnf);repeat(any_goals((first|((with_reducible apply O2);(conv=>whnf))|refine Vc.aq ?_)<;>(intros;(conv=>whnf)))))
    rename_i H4 z4 b4 k4;exact⟨rfl,j3.but k4 (aB _)⟩
   rw[av (by omega)];obtain⟨Z,hZ⟩: ∃ Z,AG [] L=Z:=⟨_,rfl⟩;rw[hZ];((conv=>whnf);repeat(any_goals((first|refine Vc.aq ?_)<;>(intros;(conv=>whnf)))))
   refine dt.intro (fun(x:OlS)=>[(9,.int .i64 x.acc.length)]) (fun x H'=>x.acc.length<=L.length/\Z=AG x.acc (L.drop x.acc.length)/\bu H' H1.size #[.bool false,.slice x.a x.acc.length x.cap] 174/\gp Gj 1 H' H3.size 228 x.a x.acc x.cap/\fw H1.size H3 H') (fun x=>L.length-x.acc.length) ⟨[],none,0⟩ ⟨rfl,aF⟩ ⟨aI _,hZ.symm,Mj,gp.nil _ _ _ _ _,cD.refl _ _⟩ ?_;rintro⟨acc,oa,oc⟩ H4 ⟨hi,hinv,iX,dE,cH⟩;dsimp only at hi hinv iX dE ⊢;have gA:=cH.size;have W1:=b2.lt;have Y3:=b03.but cH (by omega);have fW:=j3.but cH (by omega);have Xo:=eI.keep cH fun p hp e=>by have:=(eI.block p hp).1;omega
   by_cases ct:acc.length<L.length
   .obtain⟨w,hw⟩: ∃ w,L[acc.length]? =some w:=⟨_,aD ct⟩;have hdw:L.drop acc.length=w::L.drop (acc.length+1):=by rw[bP ct];rw[aD ct]at hw;injection hw with hw;rw[hw]
    have ug:w.length<=s.length:=by have:=Y2 w (aU hw);simpa using this
    rw[hdw,AG]at hinv;have pO:=fun H=>R7 w (by omega) H;have Y4: ∀ x∈rl w,x≠ []/\x.length<=w.length:=fun x hx=>⟨ad0 hx,acm hx⟩;obtain⟨V,hV⟩: ∃ V,rl w=V:=⟨_,rfl⟩;rw[hV]at pO hinv Y4;by_cases hc:1<=V.length/\V.length<=8
    case neg=>
     rw[ak hc]at hinv;subst hinv;by_cases pq:V.length<1;all_goals((conv=>whnf);repeat(any_goals((first|((with_reducible apply O2);(conv=>whnf))|(refine cm.fe Xo.row rfl acc.length w rfl hw ?_;intro _ _ _ _ _)|(refine(pO _).mono ?_;rintro _ H5 ⟨⟨a5,c5,rfl,eW⟩,cE⟩;have ij:=cE.size)|refine Vc.aq ?_)<;>(intros;(conv=>whnf)))))
     all_goals(rename_i H6 z6 b6 k6;exact⟨rfl,(fW.trans cE).but k6 (aB _)⟩)
    rw[av hc]at hinv;obtain⟨pq,wJ⟩:=hc;have alf: ¬V.length<1:=by omega
    ((conv=>whnf);repeat(any_goals((first|(refine cm.fe Xo.row rfl acc.length w rfl hw ?_;intro _ _ _ _ _)|(refine(pO _).mono ?_;rintro _ H5 ⟨⟨a5,c5,rfl,eW⟩,cE⟩;have ij:=cE.size)|refine Vc.aq ?_)<;>(intros;(conv=>whnf)))))
    have iR:=fW.trans cE;refine dt.intro (fun(x:AlS)=>[(12,.int .i64 x.k),(11,.slice x.a x.all.length x.cap)]) (fun x H'=>x.k<=V.length/\x.all.length<=2*x.k/\Em [] V=Em x.all (V.drop x.k)/\gp Cf 5 H' H5.size 291 x.a x.all x.cap/\ax H5 H') (fun x=>V.length-x.k) ⟨0,[],none,0⟩ ⟨rfl,rfl,aF⟩ ⟨aI _,aB _,rfl,gp.nil _ _ _ _ _,ax.refl _⟩ ?_;rintro⟨k,all,ba,bc⟩ H6 ⟨hk,ng,Bf,ei,cV⟩;dsimp only at hk ng Bf ei ⊢;have fS:=cV.size;have kj:=iR.trans cV;have b06:=(Y3.ext cE).ext cV;have oP:=(iX.ext cE).ext cV;by_cases jQ:k<V.length
    .obtain⟨v,hv⟩: ∃ v,V[k]? =some v:=⟨_,aD jQ⟩;have QQ:V.drop k=v::V.drop (k+1):=by rw[bP jQ];rw[aD jQ]at hv;injection hv with hv;rw[hv]
     rw[QQ,Em]at Bf;obtain⟨aj4,nH⟩:=Y4 v (aU hv);have pG:=fun H=>aa9 v aj4 (by omega) H;cases hB:BG v with
     |none=>
      rw[hB]at pG Bf;rw[Bf]at hinv;subst hinv;((conv=>whnf);repeat(any_goals((first|((with_reducible apply O2);(conv=>whnf))|(refine cm.fe (eW.row.ext cV) rfl k v rfl hv ?_;intro _ _ _ _ _)|(refine(pG _).mono ?_;rintro _ H7 ⟨rfl,dq⟩;have jK:=dq.size)|refine Vc.aq ?_)<;>(intros;(conv=>whnf)))))
      rename_i H8 z8 b8 k8;exact⟨rfl,(kj.trans dq).but k8 (aB _)⟩
     |some b=>
      rw[hB]at pG Bf;have vr:=abd hB;((conv=>whnf);repeat(any_goals((first|(refine cm.fe (eW.row.ext cV) rfl k v rfl hv ?_;intro _ _ _ _ _)|(refine(pG _).mono ?_;rintro _ H7 ⟨⟨a7,c7,rfl,iY⟩,dq⟩;have jK:=dq.size;obtain⟨vs7,ES,Mk⟩:=iY.out)|(refine cP.yw zC rfl ⟨_,rfl,fun _ h=>by cases h⟩ rfl rfl rfl rfl (by decide) (by decide) (ei.ext zC.ok dq) rfl ES.row Mk rfl (by omega) (by omega) ?_;intro a8 c8 H8 iT mg IA)|refine Vc.aq ?_)<;>(intros;(conv=>whnf)))))
      exact⟨⟨k+1,all++b,a8,c8⟩,⟨rfl,by show Value.slice _ _ _=Value.slice _ _ _;rw[au],aF⟩,⟨jQ,by show(all++b).length<=2*(k+1);rw[au];omega,Bf,iT,BH (cV.trans dq) ei.block mg⟩,by show V.length-(k+1)<V.length-k;omega⟩
    .rw[aV (by omega),Em]at Bf;rw[Bf]at hinv;((conv=>whnf);repeat(any_goals((first|(rename_i Hl zl bl xl;refine cP.yw Dy rfl ⟨_,rfl,fun _ h=>by cases h⟩ rfl rfl rfl rfl (by decide) (by decide) (dE.ext Dy.ok (cE.trans (cV.trans xl))) rfl (bu.row (c:=[.slice ba all.length bc]) bl) (gg.one ⟨ba,bc,rfl,ei.jC,ei.GJ.ext zC xl⟩) rfl (by omega) (by omega) ?_;intro a8 c8 H8 iT mg IA;have qC:=(oP.ext xl).keep mg (fun⟨p,hp,e⟩=>by have:=(dE.block p hp).1;omega);have lD:=mg.size)|refine Vc.aq ?_)<;>(intros;(conv=>whnf)))))
     rename_i Hl zl bl xl H9 z9 b9 k9;have hlen:(acc++[all]).length=acc.length+1:=by rw[au];rfl
     exact⟨⟨acc++[all],a8,c8⟩,⟨by show Value.int .i64 _=Value.int .i64 _;rw[hlen];rfl,aF⟩,⟨by show(acc++[all]).length<=_;omega,by show Z=AG (acc++[all]) (L.drop (acc++[all]).length);rw[hlen];exact hinv,by show bu H9 H1.size #[_,.slice a8 (acc++[all]).length c8] _;rw[hlen];exact b9,iT.keep Dy k9 (fun b c u e hb hT=>by subst e;rw[hb.nl qC]at hT;exact absurd hT (by decide)) fun p hp e=>by have:=(iT.block p hp).1;omega,((cH.ext (cE.trans (cV.trans xl))).trans mg fun b hb ⟨p,hp,e⟩=>by have:=(dE.block p hp).1;omega).trans k9 fun _ _ e=>e⟩,by show L.length-(acc++[all]).length<_;omega⟩
   .have XI:acc.length=L.length:=by omega
    rw[aV (by omega),AG]at hinv;subst hinv;((conv=>whnf);repeat(any_goals((first|refine Vc.aq ?_)<;>(intros;(conv=>whnf)))))
    rename_i H5 z5 b5 k5;exact⟨⟨oa,oc,rfl,(dE.keep Dy k5 (fun b c u e hb hT=>by subst e;rw[hb.nl Y3]at hT;exact absurd hT (by decide)) fun p hp e=>by have:=(dE.block p hp).1;omega).base (by omega)⟩,fW.but k5 (aB _)⟩
structure Pr (R:List iN):Prop where
 small: ∀ r∈R,ew.nC r.v
 needs: ∀ r∈R,r.needs.length<=1000
 span: ∀ r∈R,∀ n∈r.needs,P8 n.span
theorem afC {R:List iN} (h:Pr R): ∀ r∈R,yv r.v:=fun r hr=>zZ (h.small r hr)
structure En (H H':ae) (wa:Option Addr) (W:List gC):Prop where
 row:ia (DO ye H) H' wa W
 off:W≠ []-> ∀ p,wa=some p->p.block<H.size\/ ∃ c,bu H' p.block c 176
theorem En.ext {H H1 H2:ae} {wa:Option Addr} {W:List gC} (h:En H H1 wa W) (k:ax H1 H2):En H H2 wa W:=⟨h.row.ext (FN vO H).ok k,fun h0 p hp=>(h.off h0 p hp).imp_right fun⟨c,hc⟩=>⟨c,hc.ext k⟩⟩
theorem En.wr {H H1 H2:ae} {wa oa:Option Addr} {W:List gC} {n cap:Nat} {xs:List Value} (h:En H H1 wa W) (ho:cq H1 H.size 9 1 oa n cap xs) (k:Wr oa H1 H2):En H H2 wa W:=by
 have cz:W≠ []-> ∀ p,wa=some p-> ¬ ∃ q,oa=some q/\q.block=p.block:=fun h0 p hp ⟨q,hq,e⟩=>by
  have h1:=(ho.block q hq).1;rcases h.off h0 p hp with g|⟨c,hc⟩
  .omega
  .rcases ho.out with ⟨g1,_⟩|⟨g,eE,g1,_,hb,_⟩
   .rw[g1]at hq;cases hq
   .rw[g1]at hq;cases hq;rw[<-e]at hc;exact absurd (hc.nl hb) (by decide)
 obtain⟨vs,h1,h2⟩:=h.row.out;refine⟨⟨vs,h1.vY k fun h0=>cz fun e=> ?_,?_⟩,fun h0 p hp=>(h.off h0 p hp).imp_right fun⟨c,hc⟩=>⟨c,hc.keep k (cz h0 p hp)⟩⟩
 .subst e;have:=h2.len (FN vO H).ok;exact h0 (bF (by simpa using this))
 .clear h1 cz h;induction h2 with
  |nil=>exact .nil
  |cons h _ ih=>exact .cons h ih
theorem cm.need {H0 H:ae} {a:Option Addr} {l:List gC} {n:Nat} {i:Int} {K:Addr->Prop} (h:ia (DO ye H0) H a l) (hn:l.length=n) (j:Nat) (x:gC) (hi:i=j) (hx:l[j]? =some x)
  (hk: ∀ b o c,ye H0 x c->(∀ k v,c[k]? =some v->hcell H ⟨b,o+k,none⟩=some v)->hcell H ⟨b,o+0,none⟩=some (.string (ag x.name))->K ⟨b,o,none⟩):cm a n 4 i K:=
 cm.el (FN vO H0).ok (by decide) h hn j x hi hx fun b o c h1 h2=>hk b o c h1 h2 (h2 0 _ (by obtain⟨_,_,e,_⟩:=h1;rw[e];rfl))
end Go.Proofs.YtphkaogbcfdllaaGreatDoor
namespace Go.ew
open Go.cN Go.cM
theorem SP {l:List ap} (h:l.length<=5) (hm: ∀ m∈l,m.length<=16):(mI l).length<=1000:=by
 have key: ∀ l:List ap,(∀ m∈l,m.length<=16)->((l.map fun x=>(46:UInt8)::x).flatten).length<=17*l.length:=by
  intro l;induction l with
  |nil=>intro _;simp
  |cons x l ih=>
   intro h;have h1:=ih fun m hm=>h m (bG _ hm);have h2:=h x List.mem_cons_self;rw[dw,List.flatten_cons,au,ay,ay];omega
 cases l with
 |nil=>simp[mI]
 |cons x l=>
  have h1:=key l fun m Y0=>hm m (bG _ Y0);have h2:=hm x List.mem_cons_self;simp only[ay]at h;unfold mI;rw[ay,au];omega
end Go.ew
namespace Go.Proofs.YtphkaogbcfdllaaGreatDoor
open Go Go.Vc Go.cN Go.ew
end Go.Proofs.YtphkaogbcfdllaaGreatDoor
namespace Go.ew
open Go.cN
def AH:List ap:=[[49,46,48,46,48],[49,46,49,46,48],[50,46,48,46,48],[48,46,51,46,48],[49,46,48,46,48,45,120,46,49],[49,46,50,46,51]]
def AJ:List ap:=[[42],[94,49,46,48,46,48],[126,49,46,48,46,48],[62,61,49,46,49,46,48],[50,46,48,46,48],[60,50,46,48,46,48],[94,48,46,51,46,48],[62,61,49,46,48,46,48,45,97,32,60,49,46,48,46,48,32,124,124,32,50,46,48,46,48],[49,46,48,46,48,45,120,46,49],[42]]
def Y5:List ap:=[[97],[98],[99],[100],[101],[102]]
def o7 (k:Nat):ap:=(AH[k % 6]?).getD []
def qU (k:Nat):ap:=(AJ[k % 10]?).getD []
def eK (k:Nat):ap:=(Y5[k % 6]?).getD []
theorem ag0 (k:Nat):AH[k % 6]? =some (o7 k):=by
 unfold o7;have:k % 6<AH.length:=eB _ (by decide);rw[aD this];rfl
theorem ag1 (k:Nat):AJ[k % 10]? =some (qU k):=by
 unfold qU;have:k % 10<AJ.length:=eB _ (by decide);rw[aD this];rfl
end Go.ew
namespace Go.Proofs.YtphkaogbcfdllaaGreatDoor
open Go Go.Vc Go.cN Go.ew
theorem RR (k:Nat) (hk:k<256) (H:ae):az Tryz.prog 83 [.int .u8 k] H fun x H'=>x= .string (ag (o7 k))/\ax H H':=by
 refine Vc.az.body Tryz.func83 Tryz.call83 rfl (by decide+kernel) rfl ?_;have fy:=ag0 k;((conv=>whnf);repeat(any_goals((first|(refine aE.lit (vs:=strs AH) rfl rfl rfl rfl rfl rfl rfl ?_;intro Hm zm bm xm;have jz:Row Hm (some ⟨H.size,0,none⟩) (strs AH):=bu.row (t:=9) bm)|(refine cm.fe jz rfl (k % 6) (o7 k) rfl fy ?_;intro _ _ _ _ _)|refine Vc.aq ?_)<;>(intros;(conv=>whnf)))))
 exact⟨rfl,by exact Vc.xt⟩
theorem TS (k:Nat) (hk:k<256) (H:ae):az Tryz.prog 85 [.int .u8 k] H fun x H'=>x= .string (ag (qU k))/\ax H H':=by
 refine Vc.az.body Tryz.func85 Tryz.call85 rfl (by decide+kernel) rfl ?_;have fy:=ag1 k;((conv=>whnf);repeat(any_goals((first|(refine aE.lit (vs:=strs AJ) rfl rfl rfl rfl rfl rfl rfl ?_;intro Hm zm bm xm;have jz:Row Hm (some ⟨H.size,0,none⟩) (strs AJ):=bu.row (t:=9) bm)|(refine cm.fe jz rfl (k % 10) (qU k) rfl fy ?_;intro _ _ _ _ _)|refine Vc.aq ?_)<;>(intros;(conv=>whnf)))))
 exact⟨rfl,by exact Vc.xt⟩
theorem ahT (k:Nat):(⟨#[97,98,99,100,101,102]⟩:ByteArray).extract (k % 6) (k % 6+1)=ag (eK k):=by
 unfold eK;have:k % 6<6:=eB _ (by decide);obtain⟨j,hj⟩: ∃ j,k % 6=j:=⟨_,rfl⟩;rw[hj]at this ⊢
 match j,this with
 |0,_=>rfl
 |1,_=>rfl
 |2,_=>rfl
 |3,_=>rfl
 |4,_=>rfl
 |5,_=>rfl
theorem Dq (k:Nat) (hk:k<256) (H:ae):az Tryz.prog 45 [.int .u8 k] H fun x H'=>x= .string (ag (eK k))/\H=H':=by
 refine Vc.az.body Tryz.func45 Tryz.call45 rfl (by decide+kernel) rfl ?_;((conv=>whnf);repeat(any_goals((first|(refine dk.nat (k % 6) rfl (by omega) ?_)|(refine dk.nat (k % 6+1) (by omega) (by show k % 6+1<=6;omega) ?_)|refine Vc.aq ?_)<;>(intros;(conv=>whnf)))))
 exact⟨by rw[ahT k];rfl,rfl⟩
end Go.Proofs.YtphkaogbcfdllaaGreatDoor
namespace Go.ew
open Go.cN
def wz (k:Nat):Ax:=(yg (qU k)).getD ⟨true,[]⟩
theorem ahU: ∀ j:Fin 10,(yg ((AJ[j.1]?).getD [])).isSome=true:=by decide+kernel
theorem UK (k:Nat):yg (qU k)=some (wz k):=by
 have h:(yg (qU k)).isSome=true:=by
  exact ahU ⟨k % 10,eB _ (by decide)⟩
 unfold wz;cases e:yg (qU k)with
 |none=>rw[e]at h;cases h
 |some s=>rfl
def lq (j:Nat):gC:=⟨eK (j % 6),wz (j / 6 % 10),qU (j / 6 % 10)⟩
def tT:List gC->gC->List gC
 |[],n=>[n]
 |x::l,n=>if Op.bytesLess x.name n.name=true then x::tT l n else if x.name=n.name then x::l else n::x::l
theorem ON: ∀ (l:List gC) (n:gC) (i:Nat),(∀ j x,j<i->l[j]? =some x->Op.bytesLess x.name n.name=true)->i<=l.length->(∀ x,l[i]? =some x->Op.bytesLess x.name n.name=false)->
  tT l n=if(l[i]?).map (·.name)=some n.name then l else l.take i++n::l.drop i
 |[],n,i,_,hi,_=>by
  obtain rfl:i=0:=by simpa using hi
  rfl
 |x::l,n,0,_,_,h=>by
  have:=h x rfl;unfold tT;rw[ak (by rw[this];simp)];by_cases e:x.name=n.name
  .simp[e]
  .simp[e]
 |x::l,n,i+1,h1,hi,h=>by
  have hx:=h1 0 x (by omega) rfl;unfold tT;rw[av hx,ON l n i (fun j y hj hy=>h1 (j+1) y (by omega) (by simpa using hy)) (by simpa using hi) (fun y hy=>h y (by simpa using hy))];simp only[gG,List.take_succ_cons,fO,List.drop_succ_cons];split<;>rfl
theorem afD (l:List gC) (n:gC):(tT l n).length<=l.length+1:=by
 induction l with
 |nil=>simp[tT]
 |cons j l ih=>
  unfold tT;split
  .simp only[ay];omega
  .split<;>simp
theorem afE {l:List gC} {n m:gC} (h:m∈tT l n):m∈l\/m=n:=by
 induction l with
 |nil=>simpa [tT]using h
 |cons x l ih=>
  unfold tT at h;split at h
  .rcases aM.1 h with h|h
   .exact .inl (by simp[h])
   .rcases ih h with h|h
    .exact .inl (bG _ h)
    .exact .inr h
  .split at h
   .exact .inl h
   .rcases aM.1 h with h|h
    .exact .inr h
    .exact .inl h
end Go.ew
namespace Go.Proofs.YtphkaogbcfdllaaGreatDoor
open Go Go.Vc Go.cN Go.ew
def O4 (v:fp):Bool:=decide (v.ma<=1000)&&decide (v.mi<=1000)&&decide (v.pa<=1000)&&decide (v.pre.length<=10)&&v.pre.all fun m=>decide (m.length<=100)
def Ky (s:Ax):Bool:=decide (s.qF.length<=10)&&s.qF.all fun l=>decide (l.length<=10)&&l.all fun b=>O4 b.v
theorem ad1: ∀ j:Fin 10,Ky ((yg ((AJ[j.1]?).getD [])).getD ⟨true,[]⟩)=true:=by decide+kernel
theorem acn (k:Nat):Ky (wz k)=true:=ad1 ⟨k % 10,eB _ (by decide)⟩
theorem ad2 {v:fp} (h:O4 v=true):yv v:=by
 unfold O4 at h;simp only[bC,aK,cB]at h;obtain⟨⟨⟨⟨h1,h2⟩,h3⟩,h4⟩,h5⟩:=h;constructor<;>first|omega|(intro m hm;have:=h5 m hm;omega)
theorem aiL {s:Ax} (h:Ky s=true):P8 s:=by
 unfold Ky at h;simp only[bC,aK,cB]at h;exact⟨by omega,fun l hl=>by have:=(h.2 l hl).1;omega,fun l hl b hb=>ad2 ((h.2 l hl).2 b hb)⟩
theorem ag2 (j:Nat):P8 (lq j).span:=aiL (acn _)
end Go.Proofs.YtphkaogbcfdllaaGreatDoor
namespace Go.ew
open Go.cN Go.cM
def wA (own:ap) (l:List gC) (n:gC):List gC:=if n.name=own\/ ∃ x∈l,x.name=n.name then l else tT l n
def qK (own:ap) (L:List Nat):List gC:=L.foldl (fun l j=>wA own l (lq j)) []
def jG (k:Nat):fp:=(nV (o7 k)).getD ⟨0,0,0,[]⟩
theorem VJ: ∀ j:Fin 6,(nV ((AH[j.1]?).getD [])).isSome=true:=by decide+kernel
theorem afF (k:Nat):nV (o7 k)=some (jG k):=by
 have h:(nV (o7 k)).isSome=true:=VJ ⟨k % 6,eB _ (by decide)⟩;unfold jG;cases e:nV (o7 k)with
 |none=>rw[e]at h;cases h
 |some s=>rfl
def nE (x:jP) (s:ap×Int):iN:=⟨eK x.n,jG x.v,s.1,s.2,qK (eK x.n) x.needs⟩
def oY (R:List iN) (x:jP×(ap×Int)):List iN:=if(oC R (eK x.1.n) (jG x.1.v)).isSome=true then R else R++[nE x.1 x.2]
def nw (L:List (jP×(ap×Int))):List iN:=L.foldl oY []
theorem aco {L:List jP} {S:List (ap×Int)} {i:Nat} {x:jP} (h:L[i]? =some x) (hS:S.length=i) (s:ap×Int):nw ((L.take (i+1)).zip (S++[s]))=oY (nw ((L.take i).zip S)) (x,s):=by
 have hi:=(aH.1 h).1;rw[bX,h];have hz:(L.take i++(some x).toList).zip (S++[s])=(L.take i).zip S++[x].zip [s]:=List.zip_append (by rw[aJ];omega);rw[hz];unfold nw;rw[ig];rfl
theorem abe (own:ap) {L:List Nat} {i j:Nat} (h:L[i]? =some j):qK own (L.take (i+1))=wA own (qK own (L.take i)) (lq j):=by
 unfold qK;rw[bX,h,ig];rfl
theorem afG (own:ap) (l:List gC) (n:gC):(wA own l n).length<=l.length+1:=by
 unfold wA;split
 .omega
 .exact afD l n
theorem Si (own:ap): ∀ (L:List Nat) (l:List gC),(L.foldl (fun l j=>wA own l (lq j)) l).length<=l.length+L.length
 |[],l=>by simp
 |j::L,l=>by
  have h1:=Si own L (wA own l (lq j));have h2:=afG own l (lq j);rw[gU,ay];omega
theorem Ng (own:ap) (L:List Nat):(qK own L).length<=L.length:=by
 have:=Si own L [];simpa [qK]using this
theorem SQ {own:ap} {L:List Nat} {m:gC} (h:m∈qK own L): ∃ j,m=lq j:=by
 have: ∀ (L:List Nat) (l:List gC),m∈L.foldl (fun l j=>wA own l (lq j)) l->m∈l\/ ∃ j,m=lq j:=fun L=>by
  induction L with
  |nil=>intro l h;exact .inl h
  |cons j L ih=>
   intro l h;rw[gU]at h;rcases ih _ h with h|h
   .unfold wA at h;split at h
    .exact .inl h
    .rcases afE h with h|h
     .exact .inl h
     .exact .inr ⟨j,h⟩
   .exact .inr h
 rcases this L [] h with h|h
 .cases h
 .exact h
theorem Ga (k:Nat):(eK k).length=1:=by
 have h: ∀ j:Fin 6,((Y5[j.1]?).getD []).length=1:=by decide
 exact h ⟨k % 6,eB _ (by decide)⟩
structure BP (R:List iN):Prop where
 apart:xZ R
 row: ∀ r∈R,∃ (x:jP) (s:ap×Int),r=nE x s/\x.needs.length<=4
theorem acp {R:List iN} (h:xZ R) {r:iN} (hn:oC R r.name r.v=none):xZ (R++[r]):=by
 have je: ∀ s∈R,¬(s.name=r.name/\s.v=r.v):=fun s hs ⟨e1,e2⟩=>by
  unfold oC at hn;rw[List.findIdx?_eq_none_iff]at hn;have:=hn s hs;rw[e1,e2,agx.refl]at this;simp at this
 intro i j a b h1 h2 e1 e2;rw[List.getElem?_append]at h1 h2;split at h1
 .split at h2
  .exact h i j a b h1 h2 e1 e2
  .have:b=r:=by
    have:=aU h2;simpa using this
   subst this;exact absurd ⟨e1,e2⟩ (je a (aU h1))
 .have:a=r:=by
   have:=aU h1;simpa using this
  subst this;split at h2
  .exact absurd ⟨e1.symm,e2.symm⟩ (je b (aU h2))
  .have g1:=(aH.1 h1).1;have g2:=(aH.1 h2).1;simp only[dQ]at g1 g2;omega
theorem abf {R:List iN} (h:BP R) (x:jP×(ap×Int)) (hx:x.1.needs.length<=4):BP (oY R x):=by
 unfold oY;split
 .exact h
 .rename_i e;refine⟨acp h.apart ?_,fun r hr=> ?_⟩
  .show oC R (eK x.1.n) (jG x.1.v)=none;cases e2:oC R (eK x.1.n) (jG x.1.v)with
   |none=>rfl
   |some i=>rw[e2]at e;exact absurd rfl e
  .rcases bZ.1 hr with hr|hr
   .exact h.row r hr
   .rw[aW]at hr;exact⟨x.1,x.2,hr,hx⟩
theorem afH (L:List (jP×(ap×Int))) (hL: ∀ x∈L,x.1.needs.length<=4):BP (nw L):=by
 have: ∀ (L:List (jP×(ap×Int))) (R:List iN),(∀ x∈L,x.1.needs.length<=4)->BP R->BP (L.foldl oY R):=fun L=>by
  induction L with
  |nil=>intro R _ h;exact h
  |cons x L ih=>intro R hL h;exact ih _ (fun y hy=>hL y (bG _ hy)) (abf h x (hL x List.mem_cons_self))
 exact this L [] hL ⟨fun i j r s h=>by simp at h,fun r hr=>by cases hr⟩
theorem ad3 (L:List (jP×(ap×Int))):(nw L).length<=L.length:=by
 have: ∀ (L:List (jP×(ap×Int))) (R:List iN),(L.foldl oY R).length<=R.length+L.length:=fun L=>by
  induction L with
  |nil=>intro R;simp
  |cons x L ih=>
   intro R;have h1:=ih (oY R x);have h2:(oY R x).length<=R.length+1:=by unfold oY;split<;>simp
   rw[gU,ay];omega
 have:=this L [];simpa [nw]using this
end Go.ew
namespace Go.Proofs.YtphkaogbcfdllaaGreatDoor
open Go Go.Vc Go.cN Go.ew
def Kz (v:fp):Bool:=decide (v.ma<=1000)&&decide (v.mi<=1000)&&decide (v.pa<=1000)&&decide (v.pre.length<=5)&&v.pre.all fun m=>decide (m.length<=16)
theorem Nh (k:Nat):Kz (jG k)=true:=by
 have h: ∀ j:Fin 6,Kz ((nV ((AH[j.1]?).getD [])).getD ⟨0,0,0,[]⟩)=true:=by decide+kernel
 exact h ⟨k % 6,eB _ (by decide)⟩
theorem Ni {v:fp} (h:Kz v=true):ew.nC v:=by
 unfold Kz at h;simp only[bC,aK,cB]at h;obtain⟨⟨⟨⟨h1,h2⟩,h3⟩,h4⟩,h5⟩:=h;constructor<;>first|omega|(intro m hm;have:=h5 m hm;omega)
theorem abg {R:List iN} (h:BP R):Pr R:=by
 refine⟨fun r hr=> ?_,fun r hr=> ?_,fun r hr n hn=> ?_⟩
 .obtain⟨x,s,rfl,_⟩:=h.row r hr;exact Ni (Nh _)
 .obtain⟨x,s,rfl,hl⟩:=h.row r hr;have:=Ng (eK x.n) x.needs;show(qK (eK x.n) x.needs).length<=1000;omega
 .obtain⟨x,s,rfl,hl⟩:=h.row r hr;obtain⟨j,rfl⟩:=SQ hn;exact ag2 j
theorem cm.aj5 {k:Go.IntKind} {H:ae} {a:Option Addr} {l:List Nat} {n:Nat} {i:Int} {K:Addr->Prop} (h:Row H a (Ah k l)) (hn:l.length=n) (j:Nat) (x:Nat) (hi:i=j) (hx:l[j]? =some x)
  (hk: ∀ b o,hcell H ⟨b,o+j,none⟩=some (.int k x)->K ⟨b,o+j,none⟩):cm a n 1 i K:=by
 have hj:=(aH.1 hx).1;rcases h.out with e|⟨b,o,e,hc⟩
 .exfalso
  have:=aZ List.length e;simp[Ah]at this;subst this;simp at hj
 .subst e;exact cm.mX j hi (by omega) (hk b o (hc j _ (by unfold Ah;rw[dK,hx];rfl)))
theorem Xp {j:Nat} {K:Int->Prop} (h:j<65536) (hk:K ((j / 6:Nat):Int)):Am .u16 (j:Int) 6 K:=by
 refine⟨by omega,?_⟩;rw[Int.tdiv_eq_ediv_of_nonneg (by omega),Go.Vc.wrap_small IntKind.u16 rfl (by omega) (by simp[IntKind.bits];omega),show((j:Int) / 6)=((j / 6:Nat):Int)by simp];exact hk
theorem Xq {j:Nat} {K:Int->Prop} (hk:K ((j % 6:Nat):Int)):wc (j:Int) 6 K:=by
 refine⟨by omega,?_⟩;rw[Int.tmod_eq_emod_of_nonneg (by omega),show((j:Int) % 6)=((j % 6:Nat):Int)by simp];exact hk
theorem D0 {j:Nat} {K:Int->Prop} (hk:K ((j % 10:Nat):Int)):wc (j:Int) 10 K:=by
 refine⟨by omega,?_⟩;rw[Int.tmod_eq_emod_of_nonneg (by omega),show((j:Int) % 10)=((j % 10:Nat):Int)by simp];exact hk
theorem Oi (k:Nat):(qU k).length<=30:=by
 have h: ∀ j:Fin 10,((AJ[j.1]?).getD []).length<=30:=by decide
 exact h ⟨k % 10,eB _ (by decide)⟩
theorem SR {s t:ByteArray} {b:Bool} {a:Option Addr} {n c:Nat}:Go.Program.built Tryz.prog 176 [(0,.string s),(1,.agg #[.bool b,.slice a n c]),(2,.string t)]=some #[.string s,.bool b,.slice a n c,.string t]:=by kernel_rfl
end Go.Proofs.YtphkaogbcfdllaaGreatDoor
namespace Go.Proofs.YtphkaogbcfdllaaGreatDoor
open Go Go.Vc Go.cN Go.eg Go.cM Go.ej
theorem C7 (l:Bs) (a:Option Addr) (m cap base n k:Nat) (H:ae) (ho:cq H base 5 1 a m cap (cv l)) (hb:base<=H.size) (hl:l.length=m) (hm:m<=1000000000000) (hn:n<=1000000000000) (hk:k<=8):
  az Tryz.prog 92 [.slice a m cap,.int .u64 n,.int .i64 k] H fun v H'=>(∃ a' cS,v= .slice a' (m+k) cS/\cq H' base 5 1 a' (m+k) cS (cv (l++jx n k)))/\fz base H H':=by
 refine Vc.az.body Tryz.func92 Tryz.call92 rfl (by decide+kernel) rfl ?_;((conv=>whnf);repeat(any_goals((first|refine Vc.aq ?_|refine Vc.bz ?_ ?_)<;>(intros;(conv=>whnf)))))
 refine dt.intro (fun(s:YA)=>[(7,.int .i64 ((k:Int)-1-s.i)),(0,.slice s.a (m+s.i) s.cap)]) (fun s H'=>s.i<=k/\cq H' base 5 1 s.a (m+s.i) s.cap (cv (l++(jx n k).take s.i))/\base<=H'.size/\fz base H H') (fun s=>k-s.i) ⟨0,a,cap⟩ ⟨by(show Value.int .i64 ((k:Int)-1)= .int .i64 ((k:Int)-1-((0:Nat):Int)));congr 1;omega,rfl,aF⟩ ⟨aI _,by simpa using ho,hb,cD.refl _ _⟩ ?_;rintro⟨i,sa,sc⟩ H1 ⟨hi,fg,eC,cd⟩;dsimp only at hi fg ⊢;by_cases ct:i<k
 .have vw:=Up n k i ct hk;have kB:((jx n k).take i).length=i:=by rw[aJ,lg];omega
  ((conv=>whnf);repeat(any_goals((first|(refine fm.AU ?_;rw[vw])|(rename_i Hl zl bl xl;refine cP.DK bl (fg.ext xl) (by omega) (by omega) rfl ⟨_,rfl,fun _ h=>by cases h⟩ rfl rfl rfl rfl rfl rfl rfl ?_;intro a2 c2 H2 dy dT pO)|refine Vc.aq ?_)<;>(intros;(conv=>whnf)))))
  refine⟨⟨i+1,a2,c2⟩,⟨by(show Value.int .i64 ((k:Int)-1-(i:Int)-1)= .int .i64 ((k:Int)-1-((i+1:Nat):Int)));congr 1;omega,rfl,aF⟩,⟨by show i+1<=k;omega,?_,by omega,(cd.then xl.only).then (fz.wr (fg.ext xl) pO)⟩,by show k-(i+1)<k-i;omega⟩;show cq H2 base _ 1 a2 (m+(i+1)) c2 _;rw[NA n k i ct,<-bM,rh,<-eF];exact dy
 .obtain rfl:i=k:=by omega
  rw[aL (by rw[lg];exact aB _)]at fg;((conv=>whnf);repeat(any_goals((first|refine Vc.aq ?_)<;>(intros;(conv=>whnf)))))
  exact⟨⟨sa,sc,rfl,fg⟩,cd⟩
set_option maxHeartbeats 1000000 in
theorem NK (L:Tr) (a:Option Addr) (n cap:Nat) (H:ae) (hr:j4 H a L) (hn:L.length=n) (wO:n<=600) (hb: ∀ f∈L,f.2.2.length<=1000000):az Tryz.prog 39 [.slice a n cap] H fun v H'=>
  (∃ a' cS,v= .slice a' (jv L).length cS/\cq H' H.size 5 1 a' (jv L).length cS (cv (jv L)))/\ax H H':=by
 refine Vc.az.body Tryz.func39 Tryz.call39 rfl (by decide+kernel) rfl ?_;((conv=>whnf);repeat(any_goals((first|((with_reducible apply aE.PS [.int .u8 80,.int .u8 65,.int .u8 75,.int .u8 49]);rfl;rfl;rfl;rfl;rfl;rfl;rfl;(intro H1 eR eC cd;(conv=>whnf)))|(refine aE.Pj rfl rfl eC cd (aB _) ?_;intro H2 dT di bh)|refine Vc.aq ?_)<;>(intros;(conv=>whnf)))))
 have dy:cq H2 H.size 5 1 (some ⟨H.size,0,none⟩) 4 4 (cv [80,65,75,49]):=Kf di (aB _) rfl (by decide);have ib:=JX L hb;refine dt.intro (fun(s:YB)=>[(4,.int .i64 s.i),(3,.slice s.a (ie L s.i).length s.cap)]) (fun s H'=>s.i<=n/\cq H' H.size 5 1 s.a (ie L s.i).length s.cap (cv (ie L s.i))/\ax H H') (fun s=>n-s.i) ⟨0,some ⟨H.size,0,none⟩,4⟩ ⟨rfl,rfl,aF⟩ ⟨aI _,dy,bh⟩ ?_;rintro⟨i,sa,sc⟩ H3 ⟨hi,eI,bw⟩;dsimp only at hi eI ⊢;have eJ:=bw.size;have XH:=ib i (by omega);by_cases ct:i<n
 .obtain⟨f,hf⟩: ∃ f,L[i]? =some f:=⟨_,aD (by omega)⟩;have hfb:=hb f (aU hf);have mf:=Nf L i f hf;have ez:(ag f.1).size=f.1.length:=rfl;by_cases KJ:f.1.length<=65535
  .obtain⟨P0,xh⟩: ∃ P0,P0=f.1:=⟨_,rfl⟩;have sv:(ag P0).size=P0.length:=rfl;have Ch:P0.length<=65535:=by rw[xh];exact KJ
   have oJ:lM f=[if f.2.1=true then 1 else 0]++jx P0.length 2++P0++(if f.2.1=true then []else jx f.2.2.length 8++f.2.2):=by unfold lM;rw[gL KJ,aL KJ,xh]
   by_cases hd:f.2.1=true
   .rw[av hd,av hd]at oJ;obtain⟨KB,qG⟩: ∃ k:UInt8,k=1:=⟨_,rfl⟩;((conv=>whnf);repeat(any_goals((first|(refine cm.file hr hn i f (by omega) hf ?_;intro bi oi ai ci ic dp;have nh:=dp 0 _ rfl;have lZ:=dp 1 _ rfl;have rV:=dp 2 _ rfl;try rw[<-xh]at nh)|(rename_i Hl zl bl xl;have j5:=eI.ext xl;have cL:bu Hl H3.size (cv [KB]).toArray 5:=(by rw[qG];exact bl);refine cP.qm (y:=[KB]) j5 (Src.row (bu.row (c:=cv [KB]) cL) rfl (mj _)) (by omega) (by decide) (by omega) ⟨_,rfl,fun _ h=>by cases h⟩ ?_;intro a4 c4 H4 dE oN;have u4:=fz.wr j5 oN;have fW:=fz.ext u4 (bw.trans xl) (aB _);have gA:=fW.size)|(refine(C7 (ie L i++[KB]) a4 _ c4 H.size P0.length 2 H4 dE gA (by simp) (by omega) (by omega) (by decide)).mono ?_;rintro _ H5 ⟨⟨a5,c5,rfl,eW⟩,u5⟩;have iR:=fz.ext u5 fW (aB _);have ij:=iR.size)|(refine cP.qm (y:=P0) (m:=(ag (P0)).size) eW (Src.str (ag (P0))) (by omega) (by omega) (by omega) ⟨_,rfl,fun _ h=>by cases h⟩ ?_;intro a6 c6 H6 ei j6;have u6:=fz.wr eW j6;have kj:=fz.ext u6 iR (aB _);have fS:=kj.size)|((with_reducible refine Vc.cy.held [0,1,2,3,4,5,6,7,9,10,11,12,13,8,14,15] [(8,[13])] mixed (by decide+kernel) ?_))|refine Vc.aq ?_)<;>(intros;(conv=>whnf)))))
    have lY:ie L (i+1)=ie L i++[KB]++jx P0.length 2++P0:=by rw[mf,oJ,qG];simp
    have lQ:(ie L (i+1)).length=(ie L i).length+1+2+(ag P0).size:=by rw[lY,sv];simp[lg];omega
    exact⟨⟨i+1,a6,c6⟩,⟨rfl,by dsimp only;rw[lQ];rfl,aF⟩,⟨by show i+1<=n;omega,by dsimp only;rw[lQ,lY];exact ei,kj⟩,by show n-(i+1)<n-i;omega⟩
   .rw[ak hd,ak hd]at oJ;have jS:f.2.1=false:=by simpa using hd
    obtain⟨KB,qG⟩: ∃ k:UInt8,k=0:=⟨_,rfl⟩;((conv=>whnf);repeat(any_goals((first|(refine cm.file hr hn i f (by omega) hf ?_;intro bi oi ai ci ic dp;have nh:=dp 0 _ rfl;have lZ:=dp 1 _ rfl;have rV:=dp 2 _ rfl;try rw[<-xh]at nh)|(rename_i Hl zl bl xl;have j5:=eI.ext xl;have cL:bu Hl H3.size (cv [KB]).toArray 5:=(by rw[qG];exact bl);refine cP.qm (y:=[KB]) j5 (Src.row (bu.row (c:=cv [KB]) cL) rfl (mj _)) (by omega) (by decide) (by omega) ⟨_,rfl,fun _ h=>by cases h⟩ ?_;intro a4 c4 H4 dE oN;have u4:=fz.wr j5 oN;have fW:=fz.ext u4 (bw.trans xl) (aB _);have gA:=fW.size)|(refine(C7 (ie L i++[KB]) a4 _ c4 H.size P0.length 2 H4 dE gA (by simp) (by omega) (by omega) (by decide)).mono ?_;rintro _ H5 ⟨⟨a5,c5,rfl,eW⟩,u5⟩;have iR:=fz.ext u5 fW (aB _);have ij:=iR.size)|(refine cP.qm (y:=P0) (m:=(ag (P0)).size) eW (Src.str (ag (P0))) (by omega) (by omega) (by omega) ⟨_,rfl,fun _ h=>by cases h⟩ ?_;intro a6 c6 H6 ei j6;have u6:=fz.wr eW j6;have kj:=fz.ext u6 iR (aB _);have fS:=kj.size)|(refine(C7 (ie L i++[KB]++jx P0.length 2++P0) a6 _ c6 H.size f.2.2.length 8 H6 ei fS (by simp[lg];omega) (by omega) (by omega) (by decide)).mono ?_;rintro _ H7 ⟨⟨a7,c7,rfl,iY⟩,u7⟩;have mq:=fz.ext u7 kj (aB _);have jK:=mq.size)|(refine cP.qm (y:=f.2.2) (m:=f.2.2.length) iY (Src.row (ic.ext mq) (by rw[ik];exact(bQ _).symm) (mj _)) (by omega) (by omega) (by omega) ⟨_,rfl,fun _ h=>by cases h⟩ ?_;intro a8 c8 H8 iT mg;have u8:=fz.wr iY mg;have AA:=fz.ext u8 mq (aB _))|((with_reducible refine Vc.cy.held [0,1,2,3,4,5,6,7,9,10,11,12,13,8,14,15] [(8,[13])] mixed (by decide+kernel) ?_))|refine Vc.aq ?_)<;>(intros;(conv=>whnf)))))
    have lY:ie L (i+1)=ie L i++[KB]++jx P0.length 2++P0++jx f.2.2.length 8++f.2.2:=by rw[mf,oJ,qG];simp
    have lQ:(ie L (i+1)).length=(ie L i).length+1+2+(ag P0).size+8+f.2.2.length:=by rw[lY,sv];simp[lg];omega
    exact⟨⟨i+1,a8,c8⟩,⟨rfl,by dsimp only;rw[lQ];rfl,aF⟩,⟨by show i+1<=n;omega,by dsimp only;rw[lQ,lY];exact iT,AA⟩,by show n-(i+1)<n-i;omega⟩
  .obtain⟨P0,xh⟩: ∃ P0,f.1.take 65535=P0:=⟨_,rfl⟩;have sv:(ag P0).size=P0.length:=rfl;have Ch:P0.length=65535:=by rw[<-xh,aJ];omega
   have hsl:(ag f.1).extract 0 65535=ag P0:=by rw[<-xh];exact nM _ _
   have oJ:lM f=[if f.2.1=true then 1 else 0]++jx P0.length 2++P0++(if f.2.1=true then []else jx f.2.2.length 8++f.2.2):=by unfold lM;rw[Nat.min_eq_right (by omega),xh,Ch]
   by_cases hd:f.2.1=true
   .rw[av hd,av hd]at oJ;obtain⟨KB,qG⟩: ∃ k:UInt8,k=1:=⟨_,rfl⟩;((conv=>whnf);repeat(any_goals((first|(refine cm.file hr hn i f (by omega) hf ?_;intro bi oi ai ci ic dp;have nh:=dp 0 _ rfl;have lZ:=dp 1 _ rfl;have rV:=dp 2 _ rfl;try rw[<-xh]at nh)|(refine dk.nat 65535 rfl (by(show 65535<=f.1.length);omega) ?_;(conv=>whnf);rw[hsl])|(rename_i Hl zl bl xl;have j5:=eI.ext xl;have cL:bu Hl H3.size (cv [KB]).toArray 5:=(by rw[qG];exact bl);refine cP.qm (y:=[KB]) j5 (Src.row (bu.row (c:=cv [KB]) cL) rfl (mj _)) (by omega) (by decide) (by omega) ⟨_,rfl,fun _ h=>by cases h⟩ ?_;intro a4 c4 H4 dE oN;have u4:=fz.wr j5 oN;have fW:=fz.ext u4 (bw.trans xl) (aB _);have gA:=fW.size)|(refine(C7 (ie L i++[KB]) a4 _ c4 H.size P0.length 2 H4 dE gA (by simp) (by omega) (by omega) (by decide)).mono ?_;rintro _ H5 ⟨⟨a5,c5,rfl,eW⟩,u5⟩;have iR:=fz.ext u5 fW (aB _);have ij:=iR.size)|(refine cP.qm (y:=P0) (m:=(ag (P0)).size) eW (Src.str (ag (P0))) (by omega) (by omega) (by omega) ⟨_,rfl,fun _ h=>by cases h⟩ ?_;intro a6 c6 H6 ei j6;have u6:=fz.wr eW j6;have kj:=fz.ext u6 iR (aB _);have fS:=kj.size)|((with_reducible refine Vc.cy.held [0,1,2,3,4,5,6,7,9,10,11,12,13,8,14,15] [(8,[13])] mixed (by decide+kernel) ?_))|refine Vc.aq ?_)<;>(intros;(conv=>whnf)))))
    have lY:ie L (i+1)=ie L i++[KB]++jx P0.length 2++P0:=by rw[mf,oJ,qG];simp
    have lQ:(ie L (i+1)).length=(ie L i).length+1+2+(ag P0).size:=by rw[lY,sv];simp[lg];omega
    exact⟨⟨i+1,a6,c6⟩,⟨rfl,by dsimp only;rw[lQ];rfl,aF⟩,⟨by show i+1<=n;omega,by dsimp only;rw[lQ,lY];exact ei,kj⟩,by show n-(i+1)<n-i;omega⟩
   .rw[ak hd,ak hd]at oJ;have jS:f.2.1=false:=by simpa using hd
    obtain⟨KB,qG⟩: ∃ k:UInt8,k=0:=⟨_,rfl⟩;((conv=>whnf);repeat(any_goals((first|(refine cm.file hr hn i f (by omega) hf ?_;intro bi oi ai ci ic dp;have nh:=dp 0 _ rfl;have lZ:=dp 1 _ rfl;have rV:=dp 2 _ rfl;try rw[<-xh]at nh)|(refine dk.nat 65535 rfl (by(show 65535<=f.1.length);omega) ?_;(conv=>whnf);rw[hsl])|(rename_i Hl zl bl xl;have j5:=eI.ext xl;have cL:bu Hl H3.size (cv [KB]).toArray 5:=(by rw[qG];exact bl);refine cP.qm (y:=[KB]) j5 (Src.row (bu.row (c:=cv [KB]) cL) rfl (mj _)) (by omega) (by decide) (by omega) ⟨_,rfl,fun _ h=>by cases h⟩ ?_;intro a4 c4 H4 dE oN;have u4:=fz.wr j5 oN;have fW:=fz.ext u4 (bw.trans xl) (aB _);have gA:=fW.size)|(refine(C7 (ie L i++[KB]) a4 _ c4 H.size P0.length 2 H4 dE gA (by simp) (by omega) (by omega) (by decide)).mono ?_;rintro _ H5 ⟨⟨a5,c5,rfl,eW⟩,u5⟩;have iR:=fz.ext u5 fW (aB _);have ij:=iR.size)|(refine cP.qm (y:=P0) (m:=(ag (P0)).size) eW (Src.str (ag (P0))) (by omega) (by omega) (by omega) ⟨_,rfl,fun _ h=>by cases h⟩ ?_;intro a6 c6 H6 ei j6;have u6:=fz.wr eW j6;have kj:=fz.ext u6 iR (aB _);have fS:=kj.size)|(refine(C7 (ie L i++[KB]++jx P0.length 2++P0) a6 _ c6 H.size f.2.2.length 8 H6 ei fS (by simp[lg];omega) (by omega) (by omega) (by decide)).mono ?_;rintro _ H7 ⟨⟨a7,c7,rfl,iY⟩,u7⟩;have mq:=fz.ext u7 kj (aB _);have jK:=mq.size)|(refine cP.qm (y:=f.2.2) (m:=f.2.2.length) iY (Src.row (ic.ext mq) (by rw[ik];exact(bQ _).symm) (mj _)) (by omega) (by omega) (by omega) ⟨_,rfl,fun _ h=>by cases h⟩ ?_;intro a8 c8 H8 iT mg;have u8:=fz.wr iY mg;have AA:=fz.ext u8 mq (aB _))|((with_reducible refine Vc.cy.held [0,1,2,3,4,5,6,7,9,10,11,12,13,8,14,15] [(8,[13])] mixed (by decide+kernel) ?_))|refine Vc.aq ?_)<;>(intros;(conv=>whnf)))))
    have lY:ie L (i+1)=ie L i++[KB]++jx P0.length 2++P0++jx f.2.2.length 8++f.2.2:=by rw[mf,oJ,qG];simp
    have lQ:(ie L (i+1)).length=(ie L i).length+1+2+(ag P0).size+8+f.2.2.length:=by rw[lY,sv];simp[lg];omega
    exact⟨⟨i+1,a8,c8⟩,⟨rfl,by dsimp only;rw[lQ];rfl,aF⟩,⟨by show i+1<=n;omega,by dsimp only;rw[lQ,lY];exact iT,AA⟩,by show n-(i+1)<n-i;omega⟩
 .obtain rfl:i=n:=by omega
  ((conv=>whnf);repeat(any_goals((first|(rename_i Hl zl bl xl;refine cP.qm (y:=[255]) (eI.ext xl) (Src.row (bu.row (c:=cv [255]) bl) rfl (mj _)) (by omega) (by decide) (by omega) ⟨_,rfl,fun _ h=>by cases h⟩ ?_;intro a4 c4 H4 dE oN)|refine Vc.aq ?_)<;>(intros;(conv=>whnf)))))
  have e:jv L=ie L L.length++[255]:=rfl;have el:(jv L).length=(ie L L.length).length+1:=by rw[e,au];rfl
  rw[hn]at e el;rw[el,e];exact⟨⟨a4,c4,rfl,dE⟩,(bw.trans xl).wr (eI.ext xl) (aB _) oN⟩
end Go.Proofs.YtphkaogbcfdllaaGreatDoor
namespace Go.Proofs.YtphkaogbcfdllaaGreatDoor
open Go Go.Vc Go.cN Go.eg Go.cM Go.ew
def KT (H:ae) (x:Bs×cM.Node) (c:List Value):Prop:=∃ a cap,c=kU x a cap/\mJ 5 H a (cv x.2.2)
theorem FO:qT KT 3 (fun t=>t=5):=⟨fun⟨_,_,e,_⟩=>by rw[e];rfl,fun⟨_,_,e,_⟩ u hu=>by
 rw[e]at hu;simp[kU]at hu;rcases hu with rfl|rfl|rfl<;>rfl,fun k hF ⟨a,cap,e,r⟩=>⟨a,cap,e,r.keep k fun b c u f hb=>hF b c u f hb⟩⟩
theorem UL {H:ae} {a:Option Addr} {L:Tr} (h:ia KT H a L):j4 H a L:=by
 obtain⟨vs,h1,h2⟩:=h.out;refine⟨vs,h1,?_⟩;clear h1 h;induction h2 with
 |nil=>exact .nil
 |cons h _ ih=>
  obtain⟨b,cap,rfl,hr⟩:=h;exact .cons hr.row ih
theorem UM (k:Nat):(o7 k).length<=20:=by
 have h: ∀ j:Fin 6,((AH[j.1]?).getD []).length<=20:=by decide
 exact h ⟨k % 6,eB _ (by decide)⟩
def B3 (x:jP):ap:=[108,105,98,47]++eK x.n
def sK (x:jP):ap:=eK x.n++[32]++o7 x.v
theorem afI (x:jP):(⟨#[108,105,98,47]⟩:ByteArray)++ag (eK x.n)=ag (B3 x):=by
 rw[show(⟨#[108,105,98,47]⟩:ByteArray)=ag [108,105,98,47]from rfl,kC];rfl
theorem afJ (x:jP):ag (eK x.n)++(⟨#[32]⟩:ByteArray)++ag (o7 x.v)=ag (sK x):=by
 rw[show(⟨#[32]⟩:ByteArray)=ag [32]from rfl,kC,kC];rfl
theorem abh {s:ByteArray}:Go.Program.built Tryz.prog 71 [(0,.string s),(1,.bool true)]=some #[.string s,.bool true,.slice none 0 0]:=by kernel_rfl
theorem MW {s:ByteArray} {a:Option Addr} {n c:Nat}:Go.Program.built Tryz.prog 71 [(0,.string s),(2,.slice a n c)]=some #[.string s,.bool false,.slice a n c]:=by kernel_rfl
structure FlS where
 s:ByteArray
 l:Tr
 a:Option Addr
 cap:Nat
structure BgS where
 i:Nat
 l:Bs
 a:Option Addr
 cap:Nat
end Go.Proofs.YtphkaogbcfdllaaGreatDoor
namespace Go.Proofs.YtphkaogbcfdllaaGreatDoor
open Go Go.Vc Go.uv
def digits:List UInt8:=[48,49,50,51,52,53,54,55,56,57,97,98,99,100,101,102]
def AK (l:List UInt8):List UInt8:=l.flatMap fun x=>[digits.getD (x.toNat / 16) 0,digits.getD (x.toNat % 16) 0]
theorem MX (l:List UInt8):(AK l).length=2*l.length:=by
 induction l with
 |nil=>rfl
 |cons x l ih=>simp only[AK,eG,au,ay]at*;rw[ih];simp;omega
theorem aj6: ∀ n:Nat,n<256->nA .u8 (n:Int) 4=((n / 16:Nat):Int)/\n / 16<16:=by decide+kernel
theorem aj7: ∀ n:Nat,n<256->du .u8 .and (n:Int) 15=((n % 16:Nat):Int)/\n % 16<16:=by decide+kernel
theorem Y6 (x:UInt8):nA .u8 (x.toNat:Int) 4=((x.toNat / 16:Nat):Int)/\x.toNat / 16<16:=aj6 _ x.toNat_lt
theorem lo4 (x:UInt8):du .u8 .and (x.toNat:Int) 15=((x.toNat % 16:Nat):Int)/\x.toNat % 16<16:=aj7 _ x.toNat_lt
theorem ad4 (l:List UInt8) (k:Nat) (h:k<l.length):AK (l.take (k+1))=AK (l.take k)++[digits.getD ((l.getD k 0).toNat / 16) 0,digits.getD ((l.getD k 0).toNat % 16) 0]:=by
 rw[List.take_succ_eq_append_getElem h];unfold AK;have e:l.getD k 0=l[k]:=by simp[h]
 rw[dZ,e];rfl
theorem afK (l:List UInt8) (hl:l.length=32) (H:ae):az Tryz.prog 144 [.agg (cv l).toArray] H fun v H'=>v= .string ⟨(AK l).toArray⟩/\ax H H':=by
 refine Vc.az.body Tryz.func144 Tryz.call144 rfl (by decide+kernel) rfl ?_;((conv=>whnf);repeat(any_goals(first|(refine Vc.cJ ?_;(conv=>whnf)))))
 refine aE.box ?_;intro H1 jr eC cd;((conv=>whnf);repeat(any_goals(first|(refine Vc.cJ ?_;(conv=>whnf)))))
 refine dt.intro (fun(s:Nat×Option Addr×Nat)=>[(4,.int .i64 s.1),(3,.slice s.2.1 (2*s.1) s.2.2)])
  (fun s H'=>s.1<=32/\cq H' (H.size+1) 5 1 s.2.1 (2*s.1) s.2.2 (cv (AK (l.take s.1)))/\ax H H'/\bu H' H.size (cv l).toArray 85) (fun s=>32-s.1) (0,none,0) ⟨rfl,rfl,aF⟩ ⟨by omega,cq.nil _ _ _ _,cd,eC⟩ ?_
 intro ⟨k,a,cap⟩ H2 ⟨hk,ho,hx,hb⟩;dsimp only at hk ho hx hb ⊢;by_cases ct:k<32
 .obtain⟨e1,b1⟩:=Y6 (l.getD k 0);obtain⟨e2,b2⟩:=lo4 (l.getD k 0);have hv:(cv l).toArray[0+k]? =some (.int .u8 (l.getD k 0).toNat):=by rw[aQ,fZ,xu (by omega)]
  ((conv=>whnf);repeat(any_goals(first|((refine db.nat k rfl ct ?_);(conv=>whnf))|(((with_reducible apply aE.mC hb);rfl;(focus(exact hv)));(conv=>whnf))|(refine Vc.cJ ?_;(conv=>whnf)))))
  refine db.nat _ e1 b1 ?_;((conv=>whnf);repeat(any_goals(first|((refine db.nat k rfl ct ?_);(conv=>whnf))|(((with_reducible apply aE.mC hb);rfl;(focus(exact hv)));(conv=>whnf))|(refine Vc.cJ ?_;(conv=>whnf)))))
  refine db.nat _ e2 b2 ?_;((conv=>whnf);repeat(any_goals(first|(refine Vc.cJ ?_;(conv=>whnf)))))
  refine aE.lit (vs:=[_,_]) rfl rfl rfl rfl rfl rfl rfl ?_;intro H3 nG fR bw;((conv=>whnf);repeat(any_goals(first|(refine Vc.cJ ?_;(conv=>whnf)))))
  have hr:Row H3 (some ⟨Array.size H2,0,none⟩) (cv [digits.getD ((l.getD k 0).toNat / 16) 0,digits.getD ((l.getD k 0).toNat % 16) 0]):=fR.row;refine cP.append (i:=Tryz.t5) (z:= .int .u8 0) rfl ⟨_,rfl,fun _ h=>by cases h⟩ rfl rfl rfl (ho.ext bw) (Src.row hr rfl (mj _)) (by unfold maxLen;omega) (by show(2*k+2)*1<=_;omega) (by have:=hb.lt;omega) ?_;intro a' cS H4 dE oN _;((conv=>whnf);repeat(any_goals(first|(refine Vc.cJ ?_;(conv=>whnf)))))
  refine⟨(k+1,a',cS),⟨rfl,rfl,aF⟩,⟨by omega,?_,?_,?_⟩,by omega⟩
  .have:=dE;rw[<-rh,<-ad4 l k (by omega)]at this;exact this
  .exact cD.trans (hx.ext bw) oN fun b hb ⟨p,hp,e⟩=>by have:=(ho.block p hp).1;omega
  .exact(hb.ext bw).keep oN fun⟨p,hp,e⟩=>by have:=(ho.block p hp).1;omega
 .obtain rfl:k=32:=by omega
  ((conv=>whnf);repeat(any_goals(first|(refine Vc.cJ ?_;(conv=>whnf)))))
  have lx:(AK (l.take 32)).length=2*32:=by have:=ho.len;rw[ik]at this;omega
  rw[<-lx];refine aE.S5 rfl rfl rfl ho.row ?_
  (conv=>whnf)
  refine⟨?_,hx⟩;rw[aL (by omega)];rfl
end Go.Proofs.YtphkaogbcfdllaaGreatDoor
namespace Go.Proofs.YtphkaogbcfdllaaGreatDoor
open Go Go.Vc Go.cN Go.ew
structure SoS where
 i:Nat
 l:List gC
 a:Option Addr
 cap:Nat
set_option maxHeartbeats 4000000 in
theorem abj (L:List gC) (a:Option Addr) (n cap:Nat) (H0 H:ae) (k0:ax H0 H) (hr:ia ye H0 a L) (hn:L.length=n) (mM:n<=10000):
  az Tryz.prog 145 [.slice a n cap] H fun x H'=>(∃ l a' c',x= .slice a' (List.length l) c'/\l.length=n/\(∀ y∈l,y∈L)/\ia (DO ye H0) H' a' l)/\ax H H':=by
 have ok:=FN vO H0;refine Vc.az.body Tryz.func145 Tryz.call145 rfl (by decide+kernel) rfl ?_;((conv=>whnf);repeat(any_goals((first|refine Vc.aq ?_)<;>(intros;(conv=>whnf)))))
 refine dt.intro (fun(x:SoS)=>[(4,.int .i64 x.i),(3,.slice x.a x.l.length x.cap)]) (fun x H'=>x.i<=n/\x.l.length=x.i/\(∀ y∈x.l,y∈L)/\gp (DO ye H0) 4 H' H.size 176 x.a x.l x.cap/\ax H H') (fun x=>n-x.i) ⟨0,[],none,0⟩ ⟨rfl,rfl,aF⟩ ⟨aI _,rfl,fun y h=>(by cases h),gp.nil _ _ _ _ _,ax.refl _⟩ ?_;rintro⟨i,l,oa,oc⟩ H1 ⟨hi,lx,yl,fg,cd⟩;dsimp only at hi lx yl fg ⊢;have eR:=cd.size;have cU:=fg.jC;by_cases ct:i<n
 .obtain⟨nd,nW⟩: ∃ nd,L[i]? =some nd:=⟨_,aD (by omega)⟩;((conv=>whnf);repeat(any_goals((first|refine Vc.aq ?_)<;>(intros;(conv=>whnf)))))
  refine dt.intro (fun(t:Nat)=>[(5,.int .i64 t)]) (fun t H'=>H1=H'/\t<=l.length) (fun t=>t) l.length ⟨rfl,aF⟩ ⟨rfl,aB _⟩ ?_;rintro t _ ⟨rfl,ht⟩;have kB:(l.take t).length=t:=by rw[aJ];omega
  have sq:(l.drop t).length=l.length-t:=aO;have hN:=(ia.const hr).ext ok.ok (k0.trans cd);by_cases h0:0<t
  .obtain⟨x,hx⟩: ∃ x,l[t-1]? =some x:=⟨_,aD (by omega)⟩;obtain⟨C,hC⟩: ∃ C,(Op.bytesLess (ag x.name).toList (ag nd.name).toList || (ag x.name).toList==(ag nd.name).toList)=C:=⟨_,rfl⟩;cases C with
   |false=>
    ((conv=>whnf);repeat(any_goals((first|(refine cm.need (H0:=H0) fg.row rfl (t-1) x (by omega) hx ?_;intro _ _ _ qs _ iL)|(refine cm.need (H0:=H0) hN hn i nd rfl nW ?_;intro bn on cn qw Cn pq)|refine Vc.aq ?_)<;>(intros;(conv=>whnf)))))
    exact⟨t-1,⟨by show Value.int _ _=Value.int _ _;congr 1;omega,aF⟩,⟨rfl,by omega⟩,by omega⟩
   |true=>
    ((conv=>whnf);repeat(any_goals((first|(refine cm.need (H0:=H0) fg.row rfl (t-1) x (by omega) hx ?_;intro _ _ _ qs _ iL)|(refine cm.need (H0:=H0) hN hn i nd rfl nW ?_;intro bn on cn qw Cn pq)|(refine dk.nat t rfl (by omega) ?_)|((with_reducible apply aE.TO);(exact vO.len qw);(exact Cn);(exact ax.refl _);(conv=>whnf))|(refine aE.lit (vs:=[.agg cn.toArray]) rfl rfl rfl rfl rfl rfl (by(show(Nat.beq cn.toArray.size 4&&true)=true;rw[cK,vO.len qw];rfl)) ?_;intro H5 z5 Re x5;have b5:bu H5 H1.size cn.toArray 176:=(by simpa [Value.cells]using Re))|(have:=iY;refine cP.KS ok.ok rfl ⟨_,rfl,fun _ h=>by cases h⟩ rfl rfl rfl rfl (by decide) ((fg.row.ext ok.ok uZ).take ok.ok t) (by rw[aJ];omega) iY.row (by rw[ay,aO];omega) (by omega) (by omega) ?_;intro c8 H8 iT gx;have lD:=gx.size)|(refine cP.Ll ok (c:=cn) (x:=nd) rfl ⟨_,rfl,fun _ h=>by cases h⟩ rfl rfl rfl rfl (by decide) id b5 qw ((fg.row.ext ok.ok x5).drop ok.ok oc t (fun e=>by omega)) aO (by omega) ?_;intro a7 c7 H7 iY IV;have uZ:ax H1 H7:=x5.but IV (by omega);have jK:=uZ.size)|refine Vc.aq ?_)<;>(intros;(conv=>whnf)))))
    have Ae:(l.take t++nd::l.drop t).length=t+(1+(l.length-t)):=(by rw[au,aJ,ay,aO];omega);exact⟨⟨i+1,l.take t++nd::l.drop t,some ⟨H7.size,0,none⟩,c8⟩,⟨rfl,by(show Value.slice _ _ _=Value.slice _ _ _;rw[Ae]),aF⟩,⟨by(show i+1<=n;omega),by(show(l.take t++nd::l.drop t).length=i+1;omega),fun y hy=>(bZ.1 hy).elim (fun h=>yl y (List.mem_of_mem_take h)) (fun h=>(aM.1 h).elim (fun e=>e▸aU nW) (fun h=>yl y (gW h))),iT.base (by omega),cd.trans (uZ.trans gx)⟩,by(show n-(i+1)<n-i;omega)⟩
  ·((conv=>whnf);repeat(any_goals((first|(refine cm.need (H0:=H0) fg.row rfl (t-1) x (by omega) hx ?_;intro _ _ _ qs _ iL)|(refine cm.need (H0:=H0) hN hn i nd rfl nW ?_;intro bn on cn qw Cn pq)|(refine dk.nat t rfl (by omega) ?_)|((with_reducible apply aE.TO);(exact vO.len qw);(exact Cn);(exact ax.refl _);(conv=>whnf))|(refine aE.lit (vs:=[.agg cn.toArray]) rfl rfl rfl rfl rfl rfl (by(show(Nat.beq cn.toArray.size 4&&true)=true;rw[cK,vO.len qw];rfl)) ?_;intro H5 z5 Re x5;have b5:bu H5 H1.size cn.toArray 176:=(by simpa [Value.cells]using Re))|(have:=iY;refine cP.KS ok.ok rfl ⟨_,rfl,fun _ h=>by cases h⟩ rfl rfl rfl rfl (by decide) ((fg.row.ext ok.ok uZ).take ok.ok t) (by rw[aJ];omega) iY.row (by rw[ay,aO];omega) (by omega) (by omega) ?_;intro c8 H8 iT gx;have lD:=gx.size)|(refine cP.Ll ok (c:=cn) (x:=nd) rfl ⟨_,rfl,fun _ h=>by cases h⟩ rfl rfl rfl rfl (by decide) id b5 qw ((fg.row.ext ok.ok x5).drop ok.ok oc t (fun e=>by omega)) aO (by omega) ?_;intro a7 c7 H7 iY IV;have uZ:ax H1 H7:=x5.but IV (by omega);have jK:=uZ.size)|refine Vc.aq ?_)<;>(intros;(conv=>whnf)))))
   have Ae:(l.take t++nd::l.drop t).length=t+(1+(l.length-t)):=(by rw[au,aJ,ay,aO];omega);exact⟨⟨i+1,l.take t++nd::l.drop t,some ⟨H7.size,0,none⟩,c8⟩,⟨rfl,by(show Value.slice _ _ _=Value.slice _ _ _;rw[Ae]),aF⟩,⟨by(show i+1<=n;omega),by(show(l.take t++nd::l.drop t).length=i+1;omega),fun y hy=>(bZ.1 hy).elim (fun h=>yl y (List.mem_of_mem_take h)) (fun h=>(aM.1 h).elim (fun e=>e▸aU nW) (fun h=>yl y (gW h))),iT.base (by omega),cd.trans (uZ.trans gx)⟩,by(show n-(i+1)<n-i;omega)⟩
 .obtain rfl:i=n:=by omega
  ((conv=>whnf);repeat(any_goals((first|refine Vc.aq ?_)<;>(intros;(conv=>whnf)))))
  exact⟨⟨l,oa,oc,rfl,lx,yl,fg.row⟩,cd⟩
end Go.Proofs.YtphkaogbcfdllaaGreatDoor
namespace Go.Vc
variable {α:Type}
theorem ia.fix {E:ae->α->List Value->Prop} {s:Nat} (ok:mE E s) (hs:0<s) {H:ae} {a:Option Addr} {l:List α} {n:Nat} (h:ia E H a l) (hn:l.length=n) {j:Nat} {x:α} (hx:l[j]? =some x):
  ∃ b o c,E H x c/\(∀ k v,c[k]? =some v->hcell H ⟨b,o+k,none⟩=some v)/\ ∀ (i:Int) (K:Addr->Prop),i=j->K ⟨b,o,none⟩->cm a n s i K:=by
 obtain⟨vs,h1,h2⟩:=h.out;have hj:=(aH.1 hx).1;obtain⟨c,g1,g2⟩:=h2.get ok hx;have hl:=h2.len ok;have h0:0<vs.length:=by
  rw[hl];exact Nat.mul_pos (by omega) hs
 obtain⟨b,o,rfl,_,hc⟩:=h1.at h0;refine⟨b,o+j*s,c,g1,fun k v hv=> ?_,fun i K hi hK=> ?_⟩
 .rw[eF];exact hc _ _ (g2 k v hv)
 .subst hi;exact⟨by omega,by omega,_,rfl,by rw[rA,eU];exact hK⟩
end Go.Vc
namespace Go.Proofs.YtphkaogbcfdllaaGreatDoor
open Go Go.Vc Go.cN Go.ew
structure Y7 (R:List iN):Prop where
 size: ∀ r∈R,∃ k:Nat,r.size=(k:Int)/\k<=1000000000
 name: ∀ r∈R,r.name.length<=100
 need: ∀ r∈R,r.needs.length<=10/\ ∀ n∈r.needs,n.name.length<=100/\n.text.length<=100
structure Y8 where
 i:Nat
 s:ByteArray
theorem afL {v:fp} (h:ew.nC v):(ew.km v).length<=1200:=by
 have h1:=SP h.len h.pre;have b:=zZ h;have l1:=uH (v.ma:Int) ⟨by omega,by have:=b.ma;omega⟩;have l2:=uH (v.mi:Int) ⟨by omega,by have:=b.mi;omega⟩;have l3:=uH (v.pa:Int) ⟨by omega,by have:=b.pa;omega⟩;unfold ew.km ew.wq;simp only[au,ay];omega
set_option maxHeartbeats 4000000 in
theorem acq (R:List iN) (hRB:Pr R) (hI:Y7 R) (a:Option Addr) (n cap:Nat) (H:ae) (hr:ia GI H a R) (hn:R.length=n) (mM:n<=100):
  az Tryz.prog 87 [.slice a n cap] H fun v H'=>(∃ s,v= .string s)/\ax H H':=by
 refine Vc.az.body Tryz.func87 Tryz.call87 rfl (by decide+kernel) rfl ?_;((conv=>whnf);repeat(any_goals((first|refine Vc.aq ?_)<;>(intros;(conv=>whnf)))))
 refine dt.intro (fun(x:Y8)=>[(4,.int .i64 x.i),(3,.string x.s)]) (fun x H'=>x.i<=n/\x.s.size<=10000*x.i/\ax H H') (fun x=>n-x.i) ⟨0,⟨#[]⟩⟩ ⟨rfl,rfl,aF⟩ ⟨aI _,aB _,ax.refl _⟩ ?_;rintro⟨i,s⟩ H1 ⟨hi,hs,cd⟩;dsimp only at hi hs ⊢;have eR:=cd.size;by_cases ct:i<n
 .obtain⟨r,ic⟩: ∃ r,R[i]? =some r:=⟨_,aD (by omega)⟩;have hm:=aU ic;obtain⟨sz,ez,KX⟩:=hI.size r hm;have iF:=hI.name r hm;obtain⟨CK,hnt⟩:=hI.need r hm;have jo:=hRB.small r hm;have E1:=zZ jo;have nH:=afL jo;have vo:=SP jo.len jo.pre;have sq:=uH (sz:Int) ⟨by omega,by omega⟩;obtain⟨bi,oi,ci,jL,cU,kb⟩:=hr.fix lI (by decide) hn ic;obtain⟨pa,pc,na,nc,ec,sk,ib,pf,PO,wR⟩:=(id jL);have iL:hcell H ⟨bi,oi+0,none⟩=some (Value.string (ag r.name)):=cU 0 _ (by rw[ec];rfl);have tH:=Oh ec (by rw[ik];exact sk);have Eo:hcell H ⟨bi,oi+37,none⟩=some (Value.int .i64 r.size):=cU 37 _ tH.1;have alg:hcell H ⟨bi,oi+38,none⟩=some (Value.slice na r.needs.length nc):=cU 38 _ tH.2;have Ml: ∀ (k:Nat) (u:Value),([.int .i64 r.v.ma,.int .i64 r.v.mi,.int .i64 r.v.pa,.slice pa r.v.pre.length pc]:List Value)[k]? =some u->hcell H ⟨bi,oi+1+k,none⟩=some u:=(fun k u hu=>by rw[eF];exact cU (1+k) u (by rw[iE 1 k];exact Km ec k u hu));have yK: ∀ (k:Nat) (u:Value),(cv r.sum)[k]? =some u->hcell H ⟨bi,oi+5+k,none⟩=some u:=(fun k u hu=>by rw[eF];exact cU (5+k) u (OJ ec k u hu));have QL:=MX r.sum;((conv=>whnf);repeat(any_goals((first|refine Vc.pe ?_|refine Vc.bz ?_ ?_)<;>(intros;(conv=>whnf)))))
  refine Vc.jO.go ?_;((conv=>whnf);repeat(any_goals((first|refine Vc.pe ?_|refine Vc.bz ?_ ?_)<;>(intros;(conv=>whnf)))))
  refine Vc.jO.go ?_;((conv=>whnf);repeat(any_goals((first|refine Vc.pe ?_|refine Vc.bz ?_ ?_)<;>(intros;(conv=>whnf)))))
  refine jO.cut (fun(t:ByteArray)=>[(3,.string t)]) (fun t H'=>t.size<=10000*i+3000/\ax H1 H') ?_ ?_
  ·((conv=>whnf);repeat(any_goals((first|(refine kb _ _ rfl ?_)|(refine Vc.kL.load rfl rfl rfl rfl rfl rfl (by first|exact aE.pZ Ml (cd.trans (by exact Vc.xt)) rfl|exact aE.TP sk yK (cd.trans (by exact Vc.xt)) rfl|exact aE.nZ rfl Eo (cd.trans (by exact Vc.xt)) rfl|exact aE.nZ rfl iL (cd.trans (by exact Vc.xt)) rfl) ?_)|(refine kM.mk ⟨by(simp only[cO,Ay,yr,MX,ay,cu];omega),?_⟩)|((with_reducible apply aE.pZ);(exact Ml);(exact cd.trans (by exact Vc.xt));(conv=>whnf))|((with_reducible apply aE.TP);(exact sk);(exact yK);(exact cd.trans (by exact Vc.xt));(conv=>whnf))|(refine(SI r.v ⟨E1.ma,E1.mi,E1.pa,E1.len⟩ (by omega) _ _ _ (pf.ext (cd.trans (by exact Vc.xt)))).mono ?_;rintro _ Hv ⟨rfl,C1⟩;have Y9:=C1.size)|(refine(afK r.sum sk _).mono ?_;rintro _ Hh ⟨rfl,Qt⟩;have hzh:=Qt.size)|(rw[ez];refine(FL sz (by omega) _).mono ?_;rintro _ _ ⟨rfl,rfl⟩)|((with_reducible refine Vc.cy.held [0,1,2,3,4,5,6,7,8,9,10,11,12,13,17,18,19,20,21,25,26,27,28,29,14,15,16,22,23,24,30,31,32,33] [(14,[6,21,29]),(22,[6,29]),(30,[6])] mixed (by decide+kernel) ?_))|refine Vc.aq ?_)<;>(intros;(conv=>whnf)))))
   all_goals exact⟨_,⟨rfl,aF⟩,by(simp only[cO,Ay,yr,QL,sk,ay,cu];omega),by exact Vc.xt⟩
  rintro t H2 ⟨ht,bh⟩;have dT:=bh.size;have gn:ax H H2:=cd.trans bh;((conv=>whnf);repeat(any_goals((first|(refine kb _ _ rfl ?_)|(refine(abj r.needs na r.needs.length nc H _ gn wR rfl (by omega)).mono ?_;rintro _ H3 ⟨⟨l,la,lc,rfl,lx,AX,hlr⟩,bw⟩;have eJ:=bw.size)|refine Vc.aq ?_)<;>(intros;(conv=>whnf)))))
  refine dt.intro (fun(x:Y8)=>[(6,.int .i64 x.i),(3,.string x.s)]) (fun x H'=>x.i<=l.length/\x.s.size<=10000*i+3000+300*x.i/\H3=H') (fun x=>l.length-x.i) ⟨0,t⟩ ⟨rfl,rfl,aF⟩ ⟨aI _,ht,rfl⟩ ?_;rintro⟨k,u⟩ _ ⟨hk,hu,rfl⟩;dsimp only at hk hu ⊢;by_cases jQ:k<l.length
  .obtain⟨nd,nW⟩: ∃ nd,l[k]? =some nd:=⟨_,aD jQ⟩;have rR:=hnt nd (AX nd (aU nW));obtain⟨b2,o2,c2,q9,Cn,aj8⟩:=hlr.fix (FN vO H).ok (by decide) rfl nW;obtain⟨_,_,e2,_⟩:=(id q9);have nh:hcell H3 ⟨b2,o2+0,none⟩=some (Value.string (ag nd.name)):=Cn 0 _ (by rw[e2];rfl);have tf:hcell H3 ⟨b2,o2+3,none⟩=some (Value.string (ag nd.text)):=Cn 3 _ (by rw[e2];rfl);((conv=>whnf);repeat(any_goals((first|(refine aj8 _ _ rfl ?_)|(refine kM.mk ⟨by(simp only[cO,Ay,yr,MX,ay,cu];omega),?_⟩)|refine Vc.aq ?_)<;>(intros;(conv=>whnf)))))
   exact⟨⟨k+1,_⟩,⟨rfl,rfl,aF⟩,⟨jQ,by(dsimp only;simp only[cO,Ay,yr,ay,cu];omega),rfl⟩,by show l.length-(k+1)<l.length-k;omega⟩
  .obtain rfl:k=l.length:=by omega
   ((conv=>whnf);repeat(any_goals((first|refine Vc.aq ?_)<;>(intros;(conv=>whnf)))))
   exact⟨⟨i+1,u⟩,⟨rfl,rfl,aF⟩,⟨ct,by(dsimp only;omega),gn.trans bw⟩,by show n-(i+1)<n-i;omega⟩
 .obtain rfl:i=n:=by omega
  ((conv=>whnf);repeat(any_goals((first|refine Vc.aq ?_)<;>(intros;(conv=>whnf)))))
  exact⟨⟨s,rfl⟩,cd⟩
end Go.Proofs.YtphkaogbcfdllaaGreatDoor
namespace Go.Vc
theorem ia.strs {H:ae} {a:Option Addr} {l:List Bs} (h:ia Cl H a l):Row H a (strs l):=by
 obtain⟨vs,h1,h2⟩:=h.out;rw[h2.Vr]at h1;exact h1
theorem Row.Cl {H:ae} {a:Option Addr} {l:List Bs} (h:Row H a (strs l)):ia Cl H a l:=⟨_,h,UH H l⟩
end Go.Vc
namespace Go.ew
open Go.cN Go.cM
end Go.ew
namespace Go.Proofs.YtphkaogbcfdllaaGreatDoor
open Go Go.Vc Go.cN Go.ew
theorem ef {l:List UInt8} {n:Nat} (h:l.length=n+1): ∃ b t,l=b::t/\t.length=n:=by
 cases l with
 |nil=>simp at h
 |cons b t=>exact⟨b,t,rfl,by simpa using h⟩
def u9 (s:Bs) (v:fp) (sum:List UInt8) (a:Option Addr) (c:Nat):List Value:=[.string (ag s),.int .i64 v.ma,.int .i64 v.mi,.int .i64 v.pa,.slice a v.pre.length c]++cv sum
theorem NL {s:Bs} {v:fp} {l:List UInt8} {a:Option Addr} {c:Nat} (h:l.length=32):Go.Program.built Tryz.prog 90 [(0,.string (ag s)),(1,mW v a c),(2,.agg (cv l).toArray)]=some (u9 s v l a c).toArray:=by
 obtain⟨b0,l0,rfl,h0⟩:=ef h;obtain⟨b1,l1,rfl,h1⟩:=ef h0;obtain⟨b2,l2,rfl,h2⟩:=ef h1;obtain⟨b3,l3,rfl,h3⟩:=ef h2;obtain⟨b4,l4,rfl,h4⟩:=ef h3;obtain⟨b5,l5,rfl,h5⟩:=ef h4;obtain⟨b6,l6,rfl,h6⟩:=ef h5;obtain⟨b7,l7,rfl,h7⟩:=ef h6;obtain⟨b8,l8,rfl,h8⟩:=ef h7;obtain⟨b9,l9,rfl,h9⟩:=ef h8;obtain⟨ti,l10,rfl,nI⟩:=ef h9;obtain⟨IW,Za,rfl,um⟩:=ef nI;obtain⟨IX,Zb,rfl,IY⟩:=ef um;obtain⟨Zc,Zd,rfl,IZ⟩:=ef IY;obtain⟨Ze,Zf,rfl,I0⟩:=ef IZ;obtain⟨Zg,Zh,rfl,I1⟩:=ef I0;obtain⟨Zi,Zj,rfl,yO⟩:=ef I1;obtain⟨Zk,Zl,rfl,I2⟩:=ef yO;obtain⟨Zm,Zn,rfl,I3⟩:=ef I2;obtain⟨Zo,Zp,rfl,I4⟩:=ef I3;obtain⟨Zq,Zr,rfl,Bd⟩:=ef I4;obtain⟨Zs,Zt,rfl,I5⟩:=ef Bd;obtain⟨Zu,Zv,rfl,I6⟩:=ef I5;obtain⟨Mj,Zw,rfl,I7⟩:=ef I6;obtain⟨Zx,Zy,rfl,I8⟩:=ef I7;obtain⟨Zz,ZA,rfl,I9⟩:=ef I8;obtain⟨ZB,ZC,rfl,Ja⟩:=ef I9;obtain⟨ZD,ZE,rfl,Jb⟩:=ef Ja;obtain⟨ZF,ZG,rfl,Jc⟩:=ef Jb;obtain⟨ZH,ZI,rfl,Jd⟩:=ef Jc;obtain⟨ZJ,ZK,rfl,Je⟩:=ef Jd;obtain⟨ZL,ZM,rfl,Jf⟩:=ef Je;rw[bF Jf]
 kernel_rfl
theorem aE.ahV {H:ae} {c:List Value} {K:Value->ae->Prop} (op:Operand) (hl:c.length=37) (hk: ∀ H',H'.size=H.size+1->bu H' H.size c.toArray 90->ax H H'->K (.slice (some ⟨H.size,0,none⟩) 1 1) H'):
  aE Tryz.prog (Instr.buildSlice 81 1 ((List.map (fun x:Nat×Operand=>x.1) (#[(0,op)]:Array (Nat×Operand)).toList).zip [.agg c.toArray]).toArray) H K:=by
 refine aE.lit (vs:=[.agg c.toArray]) rfl rfl rfl rfl rfl rfl ?_ fun H' h1 h2 h3=>hk H' h1 ?_ h3
 .show(Nat.beq c.toArray.size 37&&true)=true;rw[cK,hl];rfl
 .simpa [Value.cells]using h2
def kI (k:Bs) (v:fp) (pa:Option Addr) (pc:Nat) (sum:List UInt8) (sz:Nat) (na:Option Addr) (nn nc:Nat):List Value:=[.string (ag k),.int .i64 v.ma,.int .i64 v.mi,.int .i64 v.pa,.slice pa v.pre.length pc]++cv sum++[.int .i64 (sz:Int),.slice na nn nc]
theorem da.ahW {P:Program} {t:TypeId} {l:List Nat} {v v' Is w:Value} {K:Value->Prop} (cells:Array Value) (h:P.built t (l.zip [v,v',Is,w])=some cells) (hk:K (.agg cells)):da P (Instr.build t (l.zip [v,v',Is,w]).toArray) K:=da.build cells h hk
theorem ad5 {s:Bs} {v:fp} {l:List UInt8} {a:Option Addr} {c:Nat} {z:Nat} (h:l.length=32):Go.Program.built Tryz.prog 88 [(0,.string (ag s)),(1,mW v a c),(2,.agg (cv l).toArray),(3,.int .i64 (z:Int))]=some (kI s v a c l z none 0 0).toArray:=by
 obtain⟨b0,l0,rfl,h0⟩:=ef h;obtain⟨b1,l1,rfl,h1⟩:=ef h0;obtain⟨b2,l2,rfl,h2⟩:=ef h1;obtain⟨b3,l3,rfl,h3⟩:=ef h2;obtain⟨b4,l4,rfl,h4⟩:=ef h3;obtain⟨b5,l5,rfl,h5⟩:=ef h4;obtain⟨b6,l6,rfl,h6⟩:=ef h5;obtain⟨b7,l7,rfl,h7⟩:=ef h6;obtain⟨b8,l8,rfl,h8⟩:=ef h7;obtain⟨b9,l9,rfl,h9⟩:=ef h8;obtain⟨ti,l10,rfl,nI⟩:=ef h9;obtain⟨IW,Za,rfl,um⟩:=ef nI;obtain⟨IX,Zb,rfl,IY⟩:=ef um;obtain⟨Zc,Zd,rfl,IZ⟩:=ef IY;obtain⟨Ze,Zf,rfl,I0⟩:=ef IZ;obtain⟨Zg,Zh,rfl,I1⟩:=ef I0;obtain⟨Zi,Zj,rfl,yO⟩:=ef I1;obtain⟨Zk,Zl,rfl,I2⟩:=ef yO;obtain⟨Zm,Zn,rfl,I3⟩:=ef I2;obtain⟨Zo,Zp,rfl,I4⟩:=ef I3;obtain⟨Zq,Zr,rfl,Bd⟩:=ef I4;obtain⟨Zs,Zt,rfl,I5⟩:=ef Bd;obtain⟨Zu,Zv,rfl,I6⟩:=ef I5;obtain⟨Mj,Zw,rfl,I7⟩:=ef I6;obtain⟨Zx,Zy,rfl,I8⟩:=ef I7;obtain⟨Zz,ZA,rfl,I9⟩:=ef I8;obtain⟨ZB,ZC,rfl,Ja⟩:=ef I9;obtain⟨ZD,ZE,rfl,Jb⟩:=ef Ja;obtain⟨ZF,ZG,rfl,Jc⟩:=ef Jb;obtain⟨ZH,ZI,rfl,Jd⟩:=ef Jc;obtain⟨ZJ,ZK,rfl,Je⟩:=ef Jd;obtain⟨ZL,ZM,rfl,Jf⟩:=ef Je;rw[bF Jf]
 kernel_rfl
theorem rY {s:Bs} {v:fp} {l:List UInt8} {a na:Option Addr} {c z nn nc:Nat} (h:l.length=32):(kI s v a c l z na nn nc).length=39:=by
 unfold kI;simp[cv,h]
theorem SS {s:Bs} {v:fp} {l:List UInt8} {a na:Option Addr} {c z nn nc:Nat}: ∀ u∈kI s v a c l z na nn nc,jt u=true:=fun u hu=>by
 unfold kI at hu;simp[cv]at hu;rcases hu with rfl|rfl|rfl|rfl|rfl|⟨_,_,rfl⟩|rfl|rfl<;>rfl
theorem ag3 {H:ae} {g:Nat} {B:List UInt8} {ba:Option Addr} {bc:Nat} {t:TypeId} (hb:bu H g #[.slice ba B.length bc] t) (hc:B.length<=bc) (hr:Row H ba (cv B)) (hl:B.length<=10000000):
  az Tryz.prog 40 [.slice (some ⟨g,0,none⟩) 1 1] H fun v H'=>(∃ sm:List UInt8,sm.length=32/\v= .agg (cv sm).toArray)/\ax H H':=by
 refine(Fz [⟨ba,B.length,bc,B⟩] _ 1 1 _ (ahP (p:=⟨ba,B.length,bc,B⟩) hb ⟨rfl,hc,hr⟩) rfl (by decide) (by rw[afn];show B.length<=_;omega)).mono ?_;rintro _ H' ⟨rfl,hx⟩;exact⟨⟨_,vG _,rfl⟩,hx⟩
theorem Gr {j:Nat} {K:Int->Prop} (hk:K ((j % 12:Nat):Int)):wc (j:Int) 12 K:=by
 refine⟨by omega,?_⟩;rw[Int.tmod_eq_emod_of_nonneg (by omega),show((j:Int) % 12)=((j % 12:Nat):Int)by simp];exact hk
theorem ad6 {s:Bs} {v:fp} {l:List UInt8} {a na:Option Addr} {c z nn nc:Nat} {b:UInt8} (h:l.length=32):(kI s v a c l z na nn nc).set 8 (.int .u8 b.toNat)=kI s v a c (l.set 3 b) z na nn nc:=by
 unfold kI;rw[List.set_append,av (by rw[au,ik,h];show 8<5+32;decide),List.set_append,ak (by show ¬8<5;decide)];congr 2;unfold cv;rw[List.map_set];rfl
theorem Nj {s:Bs} {v:fp} {l:List UInt8} {a na:Option Addr} {c z z' nn nc:Nat} (h:l.length=32):(kI s v a c l z na nn nc).set 37 (.int .i64 (z':Int))=kI s v a c l z' na nn nc:=by
 unfold kI;rw[List.set_append,ak (by rw[au,ik,h];show ¬37<5+32;decide),au,ik,h];rfl
theorem SU {s:Bs} {v:fp} {l:List UInt8} {a na ZN:Option Addr} {c z nn nc ZO ZP:Nat} (h:l.length=32):(kI s v a c l z na nn nc).set 38 (.slice ZN ZO ZP)=kI s v a c l z ZN ZO ZP:=by
 unfold kI;rw[List.set_append,ak (by rw[au,ik,h];show ¬38<5+32;decide),au,ik,h];rfl
theorem ad7 {s:Bs} {v:fp} {l l':List UInt8} {a na:Option Addr} {c z nn nc:Nat} (h:l.length=32) (h':l'.length=32):over (kI s v a c l z na nn nc).toArray 5 (cv l')=(kI s v a c l' z na nn nc).toArray:=by
 apply dP;intro k;rw[J0 _ _ _ _ (by rw[ik,h',cK,rY h];decide),ik,h'];simp only[fZ];by_cases hk:5<=k/\k<5+32
 .rw[av hk];obtain⟨u,hu⟩: ∃ u,(cv l')[k-5]? =some u:=⟨_,aD (by rw[ik,h'];omega)⟩;have:=OJ (show kI s v a c l' z na nn nc=_ from rfl) (k-5) u hu;rw[show 5+(k-5)=k by omega]at this;rw[hu,this]
 .rw[ak hk];unfold kI;by_cases h5:k<5
  .rw[bV (by rw[au,ik,h];show k<5+32;omega),bV (by show k<5;omega),bV (by rw[au,ik,h'];show k<5+32;omega),bV (by show k<5;omega)]
  .rw[bA (by rw[au,ik,h];show 5+32<=k;omega),bA (by rw[au,ik,h'];show 5+32<=k;omega)];simp only[au,ik,h,h']
theorem Vy (x y:Int): ∃ b:UInt8,du .u8 .xor x y=(b.toNat:Int):=by
 refine⟨UInt8.ofNat (BitVec.ofInt 8 x ^^^ BitVec.ofInt 8 y).toNat,?_⟩;show IntKind.u8.wrap ((BitVec.ofInt 8 x ^^^ BitVec.ofInt 8 y).toNat:Int)=_;have h:=(BitVec.ofInt 8 x ^^^ BitVec.ofInt 8 y).isLt;rw[Go.Vc.wrap_small IntKind.u8 rfl (by omega) (by show((BitVec.ofInt 8 x ^^^ BitVec.ofInt 8 y).toNat:Int)<256;omega),fJ];omega
theorem of_nil (H:ae):az Tryz.prog 40 [.slice none 0 0] H fun v H'=>(∃ sm:List UInt8,sm.length=32/\v= .agg (cv sm).toArray)/\ax H H':=by
 refine(Fz [] none 0 0 _ (adR _ _) rfl (by decide) (by decide)).mono ?_;rintro _ H' ⟨rfl,hx⟩;exact⟨⟨_,vG _,rfl⟩,hx⟩
structure NdS where
 k:Nat
 a:Option Addr
 cap:Nat
structure ThS where
 j:Nat
 b:Bool
structure PkB where
 l:Bs
 a:Option Addr
 cap:Nat
end Go.Proofs.YtphkaogbcfdllaaGreatDoor
namespace Go.lb
open Go.cN Go.eg Go.cM Go.Run
open Go.ew (eK o7)
def tj:Nat->ap
 |1=>[119,114,105,116,101,32,111,117,116,32,34,98,117,105,108,116,32,36,110,97,109,101,32,36,118,101,114,115,105,111,110,34,10]
 |2=>[109,107,100,105,114,32,98,105,110,10,114,101,112,101,97,116,32,51,10,97,112,112,101,110,100,32,98,105,110,47,114,117,110,32,34,36,110,97,109,101,34,10,101,110,100,10,114,101,109,111,118,101,32,108,105,98,10]
 |3=>[105,102,32,101,120,105,115,116,115,32,108,105,98,10,114,101,110,97,109,101,32,108,105,98,32,115,114,99,10,101,108,115,101,10,102,97,105,108,32,34,110,111,34,10,101,110,100,10]
 |4=>[102,97,105,108,32,34,110,101,118,101,114,34,10]
 |5=>[119,114,105,116,101,32,46,46,47,111,117,116,32,34,120,34,10]
 |6=>[99,111,112,121,32,108,105,98,10]
 |7=>[114,101,112,101,97,116,32,49,48,48,48,10,114,101,112,101,97,116,32,49,48,48,48,10,101,110,100,10,101,110,100,10]
 |_=>[]
def Xr:ap:=(List.range 200).map UInt8.ofNat
def AL:ap:=[108,105,98]
def ob (k n v:Nat):Tr:=[(AL,(true,[])),(AL++47::eK n,(false,eK n++32::o7 v))]++(if k % 10=8 then [([98,105,103],(false,Xr))]else [])++(if tj (k % 10)=[]then []else [(iH,(false,tj (k % 10)))])
def mT (k n v:Nat):ap:=ej.jv (ob k n v)++(if k % 10=9 then [7]else [])
def Xs:ap:=[111,117,116]
theorem afM:jN true [97] [49,46,48,46,48] (mT 1 0 0)=([([97],(true,[])),([97,47]++AL,(true,[])),([97,47]++AL++[47,97],(false,[97,32,49,46,48,46,48])),([97,47]++Xs,(false,[98,117,105,108,116,32,97,32,49,46,48,46,48]))],0):=by decide+kernel
end Go.lb
namespace Go.Proofs.YtphkaogbcfdllaaGreatDoor
open Go Go.Vc Go.lb
theorem ahX:ix []≠ix (mT 1 0 0):=by decide+kernel
end Go.Proofs.YtphkaogbcfdllaaGreatDoor
namespace Go.Proofs.YtphkaogbcfdllaaGreatDoor
open Go Go.Vc Go.cN Go.eg Go.cM Go.ew Go.lb
set_option maxHeartbeats 4000000 in
theorem abk (x:jP) (c:List Value) (H0 H:ae) (hc:wy H0 x c):
  az Tryz.prog 84 [.agg c.toArray] H fun v H'=>(∃ a cap,v= .slice a (ob x.kind x.n x.v).length cap/\j4 H' a (ob x.kind x.n x.v))/\ax H H':=by
 obtain⟨na,nc,ec,oz,wR,Rb⟩:=(id hc);subst ec;obtain⟨Rf,hbv,_,qy,vr⟩:=id Rb;refine Vc.az.body Tryz.func84 Tryz.call84 rfl (by decide+kernel) rfl ?_;((conv=>whnf);repeat(any_goals((first|refine Vc.pe ?_|refine Vc.bz ?_ ?_)<;>(intros;(conv=>whnf)))))
 rename_i H1 z1 b1 x1;refine jO.cut (fun(_:Unit)=>[(3,.string (ag (eK x.n))),(4,.string (ag (o7 x.v)))]) (fun _ H'=>ax H1 H') ?_ ?_
 ·((conv=>whnf);repeat(any_goals((first|(refine(Dq x.n Rf _).mono ?_;rintro _ _ ⟨rfl,rfl⟩)|(refine(RR x.v hbv _).mono ?_;rintro _ Hv ⟨rfl,C1⟩;have Y9:=C1.size)|((with_reducible refine Vc.cy.held [0,1,3,4,2,5,6,7] [(2,[4])] mixed (by decide+kernel) ?_))|refine Vc.aq ?_)<;>(intros;(conv=>whnf)))))
  all_goals exact⟨(),⟨rfl,rfl,aF⟩,by exact Vc.xt⟩
 rintro _ H2 bh;have dT:=bh.size;have mM:=Ga x.n;have nH:=UM x.v;((conv=>whnf);repeat(any_goals((first|(show Go.Vc.da _ _ _;refine da.F5 _ abh ?_)|(show Go.Vc.da _ _ _;refine da.F5 _ MW ?_)|(refine kM.mk ⟨by(simp only[cO,Ay,yr,ay,cu];omega),?_⟩)|((fail_if_success (have:=eI));rw[afJ];refine aE.of_string rfl rfl rfl (by rw[yr];unfold maxLen sK;simp only[au,ay,cu];omega) ?_;intro c3 H3 eI bw;have eJ:=bw.size)|(rw[afI];refine aE.lit (vs:=[_,_]) rfl rfl rfl rfl rfl rfl (by kernel_rfl) ?_;intro H4 z4 b4 x4)|refine Vc.pe ?_|refine Vc.bz ?_ ?_)<;>(intros;(conv=>whnf)))))
 have nG:(ag (sK x)).size=(sK x).length:=rfl;have pj:(sK x).length<=100:=by unfold sK;simp only[au,ay,cu];omega
 have Rg:gp KT 3 H4 H3.size 71 (some ⟨H3.size,0,none⟩) [([108,105,98],true,[]),(B3 x,false,sK x)] 2:=
  Dx FO.ok b4 (gg.cons (c:=[.string (ag [108,105,98]),.bool true,.slice none 0 0]) ⟨none,0,rfl,mJ.nil _ _ _⟩ (gg.one (c:=[.string (ag (B3 x)),.bool false,.slice (some ⟨H2.size,0,none⟩) (ag (sK x)).size c3]) ⟨some ⟨H2.size,0,none⟩,c3,rfl,(eI.ql).ext x4⟩)) (aB _) (by simp)
 have fW:=dx trivial (x1.trans (bh.trans (bw.trans x4)));obtain⟨kk,EE⟩: ∃ kk,x.kind % 10=kk:=⟨_,rfl⟩;refine jO.cut (fun(s:FlS)=>[(6,.string s.s),(5,.slice s.a s.l.length s.cap)]) (fun s H'=>s.s=ag (tj kk)/\s.l=[([108,105,98],(true,[])),(B3 x,(false,sK x))]++(if kk=8 then [([98,105,103],(false,Xr))]else [])/\gp KT 3 H' H3.size 71 s.a s.l s.cap/\ax H3 H') ?_ ?_
 .by_cases h8:kk=8
  .subst h8;((conv=>whnf);repeat(any_goals((first|(refine D0 ?_;rw[EE])|refine Vc.aq ?_)<;>(intros;(conv=>whnf)))))
   refine dt.intro (fun(s:BgS)=>[(8,.int .i64 s.i),(7,.slice s.a s.l.length s.cap)]) (fun s H'=>s.i<=200/\s.l=(List.range s.i).map UInt8.ofNat/\cq H' H4.size 5 1 s.a s.l.length s.cap (cv s.l)/\ax H4 H') (fun s=>200-s.i) ⟨0,[],none,0⟩ ⟨rfl,rfl,aF⟩ ⟨aI _,rfl,cq.nil _ _ _ _,ax.refl _⟩ ?_;rintro⟨i,bl,ba,bc⟩ H5 ⟨hi,Lq,Jg,cE⟩;dsimp only at hi Lq Jg ⊢;have alh:bl.length=i:=by rw[Lq];simp
   have ij:=cE.size;by_cases ct:i<200
   ·((conv=>whnf);repeat(any_goals((first|refine Vc.aq ?_)<;>(intros;(conv=>whnf)))))
    rename_i Hl zl bl' xl a6 c6 H6 ei cV;have hlen:(bl++[UInt8.ofNat i]).length=bl.length+1:=by simp
    have mw:cv (bl++[UInt8.ofNat i])=cv bl++[Value.int .u8 i]:=by
     rw[rh];congr 1;unfold cv;simp only[dw,iA];rw[show(UInt8.ofNat i).toNat=i from by rw[fJ];omega]
    exact⟨⟨i+1,bl++[UInt8.ofNat i],a6,c6⟩,⟨rfl,by show Value.slice _ _ _=Value.slice _ _ _;rw[hlen],aF⟩,⟨by show i+1<=200;omega,by show bl++[UInt8.ofNat i]=(List.range (i+1)).map UInt8.ofNat;rw[List.range_succ,d9,<-Lq];rfl,by dsimp only;rw[mw,hlen];exact ei,cV⟩,by show 200-(i+1)<200-i;omega⟩
   .obtain rfl:i=200:=by omega
    ((conv=>whnf);repeat(any_goals((first|(show Go.Vc.da _ _ _;refine da.F5 _ MW ?_)|refine Vc.aq ?_)<;>(intros;(conv=>whnf)))))
    rename_i H6 z6 b6 x6;refine cP.yw FO rfl ⟨_,rfl,fun _ h=>by cases h⟩ rfl rfl rfl rfl (by decide) (by decide) (Rg.ext FO.ok (cE.trans x6)) rfl (bu.row b6) (gg.one (x:=(([98,105,103]:Bs),false,bl)) (c:=[.string (ag [98,105,103]),.bool false,.slice ba bl.length bc]) ⟨ba,bc,rfl,(Jg.ql).ext x6⟩) rfl (by decide) (by omega) ?_;intro a7 c7 H7 iY IV hf7;have jc:ax H3 H7:=BH (n:=H3.size+1) (x4.trans (cE.trans x6)) (fun p hp=>by cases hp;exact⟨aB _,Nat.lt_succ_self _⟩) IV;((conv=>whnf);repeat(any_goals((first|refine Vc.aq ?_)<;>(intros;(conv=>whnf)))))
    exact⟨⟨⟨#[]⟩,[(([108,105,98]:Bs),(true,([]:Bs))),(B3 x,false,sK x),([98,105,103],false,bl)],a7,c7⟩,⟨rfl,rfl,aF⟩,rfl,by dsimp only;rw[av rfl,Lq];rfl,iY,jc⟩
  .have EL:kk=0\/kk=1\/kk=2\/kk=3\/kk=4\/kk=5\/kk=6\/kk=7\/kk=9:=by omega
   rcases EL with rfl|rfl|rfl|rfl|rfl|rfl|rfl|rfl|rfl;all_goals((conv=>whnf);repeat(any_goals((first|(refine D0 ?_;rw[EE])|refine Vc.aq ?_)<;>(intros;(conv=>whnf)))))
   all_goals exact⟨⟨_,[([108,105,98],(true,[])),(B3 x,(false,sK x))],some ⟨H3.size,0,none⟩,2⟩,⟨rfl,rfl,aF⟩,rfl,rfl,Rg,x4⟩
 rintro⟨s,l,a,cap⟩ H5 ⟨LL,lx,eW,cE⟩;dsimp only at LL lx eW ⊢;have ij:=cE.size;have lQ:ob x.kind x.n x.v=l++(if tj kk=[]then []else [(iH,(false,tj kk))]):=by
  unfold ob;rw[EE,lx,show B3 x=AL++47::eK x.n from rfl,show sK x=eK x.n++32::o7 x.v from by unfold sK;simp];rfl
 have uc:l.length<=3:=by rw[lx];split<;>simp
 have ez:(tj kk).length<=100:=by
  have h: ∀ j<10,(tj j).length<=100:=by decide
  exact h kk (by rw[<-EE];exact eB _ (by decide))
 have sr:(ag (tj kk)).size=(tj kk).length:=rfl;subst LL;rw[lQ];((conv=>whnf);repeat(any_goals((first|(refine aE.of_string rfl rfl rfl (by unfold maxLen;omega) ?_;intro c6 H6 ei cV;have fS:=cV.size)|(show Go.Vc.da _ _ _;refine da.F5 _ MW ?_)|refine Vc.aq ?_|refine Vc.bz ?_ ?_)<;>(intros;(conv=>whnf)))))
 .rename_i he;have hk:tj kk=[]:=by
   have:=aZ ByteArray.size he;exact gI.1 (by rw[<-sr,this];rfl)
  rw[av hk,dD];exact⟨⟨a,cap,rfl,UL eW.row⟩,(x1.trans (bh.trans bw)).trans cE⟩
 .rename_i cz H7 z7 b7 x7;have hk:tj kk≠ []:=fun e=>cz (by rw[e]);rw[ak hk];have Az:ax H5 H7:=cV.trans x7;refine cP.yw FO rfl ⟨_,rfl,fun _ h=>by cases h⟩ rfl rfl rfl rfl (by decide) (by decide) (eW.ext FO.ok Az) rfl (bu.row b7) (gg.one (x:=(iH,(false,tj kk))) (c:=[.string (ag iH),.bool false,.slice (some ⟨H5.size,0,none⟩) (ag (tj kk)).size c6]) ⟨some ⟨H5.size,0,none⟩,c6,rfl,(ei.ql).ext x7⟩) rfl (by omega) (by omega) ?_;intro a8 c8 H8 iT mg CS;have Aw:ax H3 H8:=BH (n:=H5.size) (cE.trans Az) (fun p hp=>eW.block p hp) mg;((conv=>whnf);repeat(any_goals((first|refine Vc.aq ?_)<;>(intros;(conv=>whnf)))))
  exact⟨⟨a8,c8,by rw[au];rfl,UL iT.row⟩,(x1.trans (bh.trans bw)).trans Aw⟩
end Go.Proofs.YtphkaogbcfdllaaGreatDoor
