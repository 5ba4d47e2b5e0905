import Derived.Test.YtphkaogbcfdllaaGreatDoorKi
import Derived.WalkKit
import Derived.KernelRfl
import Derived.Test.YtphkaogbcfdllaaGreatDoorRows
import Derived.Test.YtphkaogbcfdllaaGreatDoorKc
set_option linter.unusedVariables false
set_option linter.unusedSimpArgs false
set_option maxRecDepth 100000
/- The reference's trees: parts, parents, what stands at a path and above it. -/
namespace Go.Proofs.YtphkaogbcfdllaaGreatDoor
open Go Go.Vc Go.cN Go.eg Go.cM
theorem aa4 (p d:Bs) (hl:p.length<=100000000) (hd:d.length<=100000000) (H:ae):az Tryz.prog 38 [.string (ag p),.string (ag d)] H fun v H'=>v= .bool (eL p d)/\H=H':=by
 have ez:(ag p).size=p.length:=rfl;have Qy:(ag d).size=d.length:=rfl;have e0:=eq_empty d;have e1:((ag p).toList==(ag d).toList)=decide (p=d):=by rw[p5];simp[p6]
 unfold eL;by_cases h0:d=[]
 .rw[bB h0]at e0;refine Vc.az.body Tryz.func38 Tryz.call38 rfl (by decide+kernel) rfl ?_;((conv=>whnf);repeat(any_goals((first|refine Vc.aq ?_|refine Vc.bz ?_ ?_)<;>(intros;(conv=>whnf)))))
  exact⟨by rw[h0];rfl,rfl⟩
 rw[aN h0]at e0;by_cases h1:p=d
 .rw[bB h1]at e1;refine Vc.az.body Tryz.func38 Tryz.call38 rfl (by decide+kernel) rfl ?_;((conv=>whnf);repeat(any_goals((first|refine Vc.aq ?_|refine Vc.bz ?_ ?_)<;>(intros;(conv=>whnf)))))
  exact⟨by rw[h1];simp;rfl,rfl⟩
 rw[aN h1]at e1;have er:(d== [] || p==d || (d++[47]).isPrefixOf p)=(d++[47]).isPrefixOf p:=by simp[h0,h1]
 rw[er];by_cases h2:d.length<p.length
 .have ex:(ag p).extract 0 d.length=ag (p.take d.length):=nM _ _;have e2:((ag (p.take d.length)).toList==(ag d).toList)=decide (p.take d.length=d):=by rw[p5];simp[p6]
  by_cases h3:p.take d.length=d
  .rw[bB h3]at e2;obtain⟨c,hc,pM⟩:=pX h2;have EJ:p=d++c::p.drop (d.length+1):=by
    rw[<-pM];conv=>lhs;rw[<-dF d.length p,h3]
   by_cases h4:c=47
   .have ep:(d++[47]).isPrefixOf p=true:=by rw[dH];exact⟨p.drop (d.length+1),by rw[bM,<-h4];exact EJ.symm⟩
    have YE:c.toNat=47:=by rw[h4];rfl
    rw[ep];refine Vc.az.body Tryz.func38 Tryz.call38 rfl (by decide+kernel) rfl ?_;((conv=>whnf);repeat(any_goals((first|(refine dk.nat d.length rfl (by omega) ?_;(conv=>whnf);rw[ex,e2])|(refine db.nat d.length rfl (by omega) ?_;(conv=>whnf);rw[hc])|refine Vc.aq ?_|refine Vc.bz ?_ ?_)<;>(intros;(conv=>whnf)))))
    exact⟨by rw[YE];rfl,rfl⟩
   .have ep:(d++[47]).isPrefixOf p=false:=by
     rw[gH,Ne,dH];rintro⟨t,e⟩;rw[bM]at e;have:=List.append_cancel_left (e.trans EJ);simp at this;exact h4 this.1.symm
    have YE:c.toNat≠47:=vT 47 (by decide) h4;rw[ep];refine Vc.az.body Tryz.func38 Tryz.call38 rfl (by decide+kernel) rfl ?_;((conv=>whnf);repeat(any_goals((first|(refine dk.nat d.length rfl (by omega) ?_;(conv=>whnf);rw[ex,e2])|(refine db.nat d.length rfl (by omega) ?_;(conv=>whnf);rw[hc])|refine Vc.aq ?_|refine Vc.bz ?_ ?_)<;>(intros;(conv=>whnf)))))
    exact⟨by(show Value.bool (decide _)=_);rw[aN (by omega)],rfl⟩
  .rw[aN h3]at e2;have ep:(d++[47]).isPrefixOf p=false:=by
    rw[gH,Ne,dH];rintro⟨t,e⟩;exact h3 (by rw[<-e];simp)
   rw[ep];refine Vc.az.body Tryz.func38 Tryz.call38 rfl (by decide+kernel) rfl ?_;((conv=>whnf);repeat(any_goals((first|(refine dk.nat d.length rfl (by omega) ?_;(conv=>whnf);rw[ex,e2])|refine Vc.aq ?_|refine Vc.bz ?_ ?_)<;>(intros;(conv=>whnf)))))
   exact⟨rfl,rfl⟩
 .have ep:(d++[47]).isPrefixOf p=false:=by
   rw[gH,Ne,dH];intro h;have:=h.length_le;rw[au]at this;simp at this;omega
  rw[ep];refine Vc.az.body Tryz.func38 Tryz.call38 rfl (by decide+kernel) rfl ?_;((conv=>whnf);repeat(any_goals((first|refine Vc.aq ?_|refine Vc.bz ?_ ?_)<;>(intros;(conv=>whnf)))))
  exact⟨rfl,rfl⟩
end Go.Proofs.YtphkaogbcfdllaaGreatDoor
namespace Go.Vc
end Go.Vc
namespace Go.cM
open Go.eg Go.cN
open Go.Vc (ck fk kX jX lf jy ka)
end Go.cM
namespace Go.Proofs.YtphkaogbcfdllaaGreatDoor
open Go Go.Vc Go.cN Go.eg Go.cM
theorem cP.W8 {H:ae} {u ty:TypeId} {a a2:Option Addr} {n m cap c2 base:Nat} {xs news:List Value} {cb:Array Bool} {K:Value->ae->Prop}
  (ho:cq H base 71 3 a n cap xs) (cT:Row H a2 news) (oF:news.length=m*3) (hp: ∀ u∈news,jt u=true) (hb:base<=H.size) (hn:n+m<=4000000) (hu: ∃ d,Tryz.prog.underlying u=some d/\(∀ k,d≠ .int k))
  (hk: ∀ a' cS H',cq H' base 71 3 a' (n+m) cS (xs++news)->Wr a H H'->K (.slice a' (n+m) cS) H'):
  cP Tryz.prog (builtin .append #[46,u] ty cb #[.slice a n cap,.slice a2 m c2]) H K:=by
 refine Go.Vc.cP.append (i:=Tryz.t71) (z:= .agg #[.string ⟨#[]⟩,.bool false,.slice none 0 0]) rfl hu rfl rfl rfl ho (Src.row cT oF hp) (by unfold maxLen;omega) ?_ hb fun a' cS H' h1 h2 _=>hk a' cS H' h1 h2;exact dh (fC (n+m) (show _<=64 from by decide)) (by omega)
theorem Sb (x:Bs×cM.Node) (a:Option Addr) (c:Nat): ∀ u∈kU x a c,jt u=true:=by simp[kU,jt]
end Go.Proofs.YtphkaogbcfdllaaGreatDoor
namespace Go.Proofs.YtphkaogbcfdllaaGreatDoor
open Go Go.Vc Go.cN Go.eg Go.cM Go.ej
theorem nO {H0:ae} {g:Nat} {l:Bs} {a:Option Addr} {cap n:Nat} {H:ae} {R:Value->ae->Prop} {X:kD} (hr:jW H0 H g l a cap) (hn:n<18446744073709551616) (hl:l.length<=1000000000) (h:n<=l.length)
  (hk: ∀ H',jW H0 H' g (l.drop n) (jM a cap n 1) (cap-n)->fw g H H'->R (.slice a n cap) H'):lj Tryz.prog 195 [.pointer (some ⟨g,0,none⟩),.int .u64 n] H R X:=
 (NF H0 g l a cap n H hr hn hl).mono (fun v H' ⟨_,e,h1,h2⟩=>e▸hk H' h1 h2) (fun c H' ⟨h',_⟩=>absurd h h')
theorem OE {H0:ae} {g:Nat} {l:Bs} {a:Option Addr} {cap n:Nat} {H:ae} {R:Value->ae->Prop} {X:kD} (hr:jW H0 H g l a cap) (hn:n<18446744073709551616) (hl:l.length<=1000000000) (h: ¬n<=l.length)
  (hk:X (vU 64) H):lj Tryz.prog 195 [.pointer (some ⟨g,0,none⟩),.int .u64 n] H R X:=
 (NF H0 g l a cap n H hr hn hl).mono (fun v H' ⟨h',_⟩=>absurd h' h) (fun c H' ⟨_,e1,e2⟩=>by rw[e1,<-e2];exact hk)
theorem vL {H0:ae} {g:Nat} {l:Bs} {a:Option Addr} {cap k:Nat} {H:ae} {R:Value->ae->Prop} {X:kD} (hr:jW H0 H g l a cap) (uu:k<=8) (hl:l.length<=1000000000) (h:k<=l.length)
  (hk: ∀ H' a' cS,jW H0 H' g (l.drop k) a' cS->fw g H H'->R (.int .u64 (fj (l.take k))) H'):lj Tryz.prog 196 [.pointer (some ⟨g,0,none⟩),.int .u64 k] H R X:=
 (R9 H0 g l a cap k H hr uu hl).mono (fun v H' ⟨_,e,⟨a',c',h1⟩,h2⟩=>e▸hk H' a' c' h1 h2) (fun c H' ⟨h',_⟩=>absurd h h')
theorem TE {H0:ae} {g:Nat} {l:Bs} {a:Option Addr} {cap k:Nat} {H:ae} {R:Value->ae->Prop} {X:kD} (hr:jW H0 H g l a cap) (uu:k<=8) (hl:l.length<=1000000000) (h: ¬k<=l.length)
  (hk:X (vU 64) H):lj Tryz.prog 196 [.pointer (some ⟨g,0,none⟩),.int .u64 k] H R X:=
 (R9 H0 g l a cap k H hr uu hl).mono (fun v H' ⟨h',_⟩=>absurd h' h) (fun c H' ⟨_,e1,e2⟩=>by rw[e1,<-e2];exact hk)
structure ArS where
 l:Bs
 a:Option Addr
 cap:Nat
 L:Tr
 vs:List Value
 oa:Option Addr
 oc:Nat
theorem ahM (b:Bs):fj (b.take 2)<65536:=by
 have:=OY (b.take 2);refine dG this ?_
 calc 256 ^ (b.take 2).length<=256 ^ 2:=gZ (by decide) (by rw[aJ];omega)
  _<=_:=by decide
theorem ahN (b:Bs):fj (b.take 8)<18446744073709551616:=by
 have:=OY (b.take 8);refine dG this ?_
 calc 256 ^ (b.take 8).length<=256 ^ 8:=gZ (by decide) (by rw[aJ];omega)
  _<=_:=by decide
theorem tC {K:Value->Prop} {o1 o2:Operand} {s:ByteArray} {x:Bool} (h:K (.agg #[.string s,.bool x,.slice none 0 0])):da Tryz.prog (Instr.build 71 ((List.map (fun x:Nat×Operand=>x.1) (#[(0,o1),(1,o2)]:Array (Nat×Operand)).toList).zip [.string s,.bool x]).toArray) K:=da.build _ (by kernel_rfl) h
theorem zY {H0 H:ae} {g:Nat} {l:Bs} {a:Option Addr} {cap:Nat} (h:jW H0 H g l a cap) (n:Nat):Row H0 a (cv (l.take n)):=by have:=h.row.take n;rwa[zi]at this
set_option maxHeartbeats 4000000 in
theorem agH (H0:ae) (g:Nat) (l0:Bs) (a0:Option Addr) (W9:Nat) (H:ae) (wY:jW H0 H g l0 a0 W9) (rP:l0.length<=1000000):
  lj Tryz.prog 152 [.pointer (some ⟨g,0,none⟩)] H
   (fun v H'=>(iU l0 []).2=0/\(∃ a cap vs,v= .slice a (iU l0 []).1.length cap/\(iU l0 []).1.length<=500/\Row H' a vs/\kg H0 (iU l0 []).1 vs)/\ax H0 H')
   (fun c H'=>(iU l0 []).2≠0/\c=vU (iU l0 []).2/\ax H0 H'):=by
 have qz:=wY.cL.lt;refine Vc.lj.body Tryz.func152 Tryz.call152 rfl (by decide+kernel) rfl ?_;((conv=>whnf);repeat(any_goals((first|refine Vc.aq ?_)<;>(intros;(conv=>whnf)))))
 refine dt.intro (fun(s:ArS)=>[(3,.slice s.oa s.L.length s.oc)]) (fun s H'=>jW H0 H' g s.l s.a s.cap/\iU l0 []=iU s.l s.L/\kg H0 s.L s.vs/\cq H' H.size 71 3 s.oa s.L.length s.oc s.vs/\s.L.length<=500/\s.l.length<=l0.length/\H.size<=H'.size) (fun s=>s.l.length) ⟨l0,a0,W9,[],[],none,0⟩ ⟨rfl,aF⟩ ⟨wY,rfl,.nil,cq.nil _ _ _ _,aI _,aB _,aB _⟩ ?_;rintro⟨l,a,cap,L,vs,oa,oc⟩ H1 ⟨hr,hp,ER,ho,hL,lx,eR⟩;dsimp only at hr hp ER ho hL lx ⊢;rw[NC l L]at hp;rw[hp];have ke: ∀ p,oa=some p-> ¬p.block=g:=fun p hp e=>by have:=(ho.block p hp).1;omega
 cases l with
 |nil=>
  have cW:jE [] L.length= .inl 64:=rfl;rw[cW];((conv=>whnf);repeat(any_goals((first|(refine OE (n:=1) hr (by decide) (by decide) (by decide) ?_)|refine Vc.aq ?_)<;>(intros;(conv=>whnf)))))
  exact⟨by simp,rfl,hr.ext⟩
 |cons k b1=>
  have hlen:(k::b1).length=b1.length+1:=rfl;have uu:=k.toNat_lt;have pu:Row H0 a (cv [k]):=by have:=hr.row.take 1;rw[zi]at this;exact this
  by_cases hk:k=255
  .have oH:k.toNat=255:=by rw[hk];rfl
   by_cases hb:b1=[]
   .have cW:jE (k::b1) L.length= .inr none:=by unfold jE;rw[hb];simp[hk]
    have hb0:b1.length=0:=by rw[hb];rfl
    rw[cW];((conv=>whnf);repeat(any_goals((first|(refine nO (n:=1) hr (by decide) (by(show(k::b1).length<=1000000000);omega) (by(show 1<=(k::b1).length);simp) ?_;intro H2 cT bh;replace cT:jW H0 H2 g b1 (jM a cap 1 1) (cap-1):=cT;have gn:=cT.ext;have dy:=ho.keep bh ke;have dT:=bh.size;have di:=cT.cL)|(refine cm.bytes (l:=[k]) pu rfl (fM 0) (by simp) ?_;intro bk ok qy fY;replace fY:hcell H0 ⟨bk,ok+Int.toNat 0,none⟩=some (.int .u8 k.toNat):=fY)|((with_reducible apply aE.load);rfl;(exact jj fY gn id))|(refine sD (by first|rfl|(rw[bU];omega)|(rw[dM];omega)|(rw[aK];omega)) ?_)|refine Vc.aq ?_)<;>(intros;(conv=>whnf)))))
    exact⟨rfl,⟨oa,oc,vs,rfl,hL,dy.row,ER⟩,gn⟩
   .have cW:jE (k::b1) L.length= .inl 64:=by unfold jE;simp[hk,hb]
    have hb0:b1.length≠0:=fun h=>hb (bF h);rw[cW];((conv=>whnf);repeat(any_goals((first|(refine nO (n:=1) hr (by decide) (by(show(k::b1).length<=1000000000);omega) (by(show 1<=(k::b1).length);simp) ?_;intro H2 cT bh;replace cT:jW H0 H2 g b1 (jM a cap 1 1) (cap-1):=cT;have gn:=cT.ext;have dy:=ho.keep bh ke;have dT:=bh.size;have di:=cT.cL)|(refine cm.bytes (l:=[k]) pu rfl (fM 0) (by simp) ?_;intro bk ok qy fY;replace fY:hcell H0 ⟨bk,ok+Int.toNat 0,none⟩=some (.int .u8 k.toNat):=fY)|((with_reducible apply aE.load);rfl;(exact jj fY gn id))|(refine vM (by first|rfl|(rw[bK];omega)|(rw[dA];omega)|(rw[aY];omega)) ?_)|refine Vc.aq ?_)<;>(intros;(conv=>whnf)))))
    exact⟨by simp,rfl,gn⟩
  have oH: ¬k.toNat=255:=fun h=>hk (dJ.1 (by rw[h];rfl));have kO:jE (k::b1) L.length=jE (k::b1) L.length:=rfl;conv at kO=>rhs;unfold jE;dsimp only
  rw[ak hk]at kO;by_cases h1: ¬(k.toNat<=1/\L.length<500)
  .rw[av h1]at kO;rw[kO];by_cases YF:k.toNat<=1
   .have h1b: ¬L.length<500:=fun h=>h1 ⟨YF,h⟩;((conv=>whnf);repeat(any_goals((first|(refine nO (n:=1) hr (by decide) (by(show(k::b1).length<=1000000000);omega) (by(show 1<=(k::b1).length);simp) ?_;intro H2 cT bh;replace cT:jW H0 H2 g b1 (jM a cap 1 1) (cap-1):=cT;have gn:=cT.ext;have dy:=ho.keep bh ke;have dT:=bh.size;have di:=cT.cL)|(refine cm.bytes (l:=[k]) pu rfl (fM 0) (by simp) ?_;intro bk ok qy fY;replace fY:hcell H0 ⟨bk,ok+Int.toNat 0,none⟩=some (.int .u8 k.toNat):=fY)|((with_reducible apply aE.load);rfl;(exact jj fY gn id))|(refine vM (by first|rfl|(rw[bK];omega)|(rw[dA];omega)|(rw[aY];omega)) ?_)|refine Vc.aq ?_)<;>(intros;(conv=>whnf)))))
    exact⟨by simp,rfl,gn⟩
   ·((conv=>whnf);repeat(any_goals((first|(refine nO (n:=1) hr (by decide) (by(show(k::b1).length<=1000000000);omega) (by(show 1<=(k::b1).length);simp) ?_;intro H2 cT bh;replace cT:jW H0 H2 g b1 (jM a cap 1 1) (cap-1):=cT;have gn:=cT.ext;have dy:=ho.keep bh ke;have dT:=bh.size;have di:=cT.cL)|(refine cm.bytes (l:=[k]) pu rfl (fM 0) (by simp) ?_;intro bk ok qy fY;replace fY:hcell H0 ⟨bk,ok+Int.toNat 0,none⟩=some (.int .u8 k.toNat):=fY)|((with_reducible apply aE.load);rfl;(exact jj fY gn id))|(refine vM (by first|rfl|(rw[bK];omega)|(rw[dA];omega)|(rw[aY];omega)) ?_)|refine Vc.aq ?_)<;>(intros;(conv=>whnf)))))
    exact⟨by simp,rfl,gn⟩
  rw[ak h1]at kO;have h1:k.toNat<=1/\L.length<500:=Classical.not_not.1 h1;obtain⟨YF,h1b⟩:=h1;have Ae: ¬b1.length<2↔2<=b1.length:=by omega
  by_cases h2:b1.length<2
  .rw[av h2]at kO;rw[kO];((conv=>whnf);repeat(any_goals((first|(refine nO (n:=1) hr (by decide) (by(show(k::b1).length<=1000000000);omega) (by(show 1<=(k::b1).length);simp) ?_;intro H2 cT bh;replace cT:jW H0 H2 g b1 (jM a cap 1 1) (cap-1):=cT;have gn:=cT.ext;have dy:=ho.keep bh ke;have dT:=bh.size;have di:=cT.cL)|(refine cm.bytes (l:=[k]) pu rfl (fM 0) (by simp) ?_;intro bk ok qy fY;replace fY:hcell H0 ⟨bk,ok+Int.toNat 0,none⟩=some (.int .u8 k.toNat):=fY)|((with_reducible apply aE.load);rfl;(exact jj fY gn id))|(refine sD (by first|rfl|(rw[bU];omega)|(rw[dM];omega)|(rw[aK];omega)) ?_)|(refine TE (k:=2) cT (by decide) (by omega) (by omega) ?_)|refine Vc.aq ?_)<;>(intros;(conv=>whnf)))))
   exact⟨by simp,rfl,gn⟩
  rw[ak h2]at kO;have h2:2<=b1.length:=by omega
  have hn2:=ahM b1;have rV:(b1.drop 2).length=b1.length-2:=aO;by_cases h3:(b1.drop 2).length<fj (b1.take 2)
  .rw[av h3]at kO;rw[kO];((conv=>whnf);repeat(any_goals((first|(refine nO (n:=1) hr (by decide) (by(show(k::b1).length<=1000000000);omega) (by(show 1<=(k::b1).length);simp) ?_;intro H2 cT bh;replace cT:jW H0 H2 g b1 (jM a cap 1 1) (cap-1):=cT;have gn:=cT.ext;have dy:=ho.keep bh ke;have dT:=bh.size;have di:=cT.cL)|(refine cm.bytes (l:=[k]) pu rfl (fM 0) (by simp) ?_;intro bk ok qy fY;replace fY:hcell H0 ⟨bk,ok+Int.toNat 0,none⟩=some (.int .u8 k.toNat):=fY)|((with_reducible apply aE.load);rfl;(exact jj fY gn id))|(refine sD (by first|rfl|(rw[bU];omega)|(rw[dM];omega)|(rw[aK];omega)) ?_)|(refine vL (k:=2) cT (by decide) (by omega) h2 ?_;intro H3 a3 c3 jh bw;have j3:=jh.ext;have eI:=dy.keep bw ke;have eJ:=bw.size)|(refine OE (n:=fj (b1.take 2)) jh (by omega) (by omega) (by omega) ?_)|refine Vc.aq ?_)<;>(intros;(conv=>whnf)))))
   exact⟨by simp,rfl,j3⟩
  rw[ak h3]at kO;have h3:fj (b1.take 2)<=(b1.drop 2).length:=by omega
  have cU:=fun H=>vK ((b1.drop 2).take (fj (b1.take 2))) H;obtain⟨P,hP⟩: ∃ P,(b1.drop 2).take (fj (b1.take 2))=P:=⟨_,rfl⟩;have wZ:P.length=fj (b1.take 2):=by rw[<-hP,aJ];omega
  obtain⟨c,hc⟩: ∃ c,cF P=c:=⟨_,rfl⟩;rw[hP,hc]at kO cU;by_cases h4:c.2=51
  .rw[av h4]at kO;rw[kO];by_cases qV:k.toNat=1
   ·((conv=>whnf);repeat(any_goals((first|(refine nO (n:=1) hr (by decide) (by(show(k::b1).length<=1000000000);omega) (by(show 1<=(k::b1).length);simp) ?_;intro H2 cT bh;replace cT:jW H0 H2 g b1 (jM a cap 1 1) (cap-1):=cT;have gn:=cT.ext;have dy:=ho.keep bh ke;have dT:=bh.size;have di:=cT.cL)|(refine cm.bytes (l:=[k]) pu rfl (fM 0) (by simp) ?_;intro bk ok qy fY;replace fY:hcell H0 ⟨bk,ok+Int.toNat 0,none⟩=some (.int .u8 k.toNat):=fY)|((with_reducible apply aE.load);rfl;(exact jj fY gn id))|(refine sD (by first|rfl|(rw[bU];omega)|(rw[dM];omega)|(rw[aK];omega)) ?_)|(refine vL (k:=2) cT (by decide) (by omega) h2 ?_;intro H3 a3 c3 jh bw;have j3:=jh.ext;have eI:=dy.keep bw ke;have eJ:=bw.size)|(refine nO (n:=fj (b1.take 2)) jh (by omega) (by omega) h3 ?_;intro H4 mO cH;have fW:=mO.ext;have dE:=eI.keep cH ke;have gA:=cH.size;have oO:=(zY jh (fj (b1.take 2))).ext fW;rw[hP]at oO)|(refine ml (l:=P) rfl rfl rfl oO wZ ?_)|((with_reducible apply tC);(conv=>whnf))|(rename_i Ha za ba xa Hx zx bx xx;have s6:ax H4 Hx:=xa.but xx (by omega);refine(cU Hx).mono ?_;rintro _ H5 ⟨rfl,cE⟩;have lT:=s6.trans cE;have ij:=lT.size;have ur:=bx.ext cE;have kR:=mO.up lT;have iR:=kR.ext;have eW:=dE.ext lT)|(refine vM (by first|rfl|(rw[bK];omega)|(rw[dA];omega)|(rw[aY];omega)) ?_)|refine Vc.aq ?_)<;>(intros;(conv=>whnf)))))
    exact⟨by simp,rfl,iR⟩
   ·((conv=>whnf);repeat(any_goals((first|(refine nO (n:=1) hr (by decide) (by(show(k::b1).length<=1000000000);omega) (by(show 1<=(k::b1).length);simp) ?_;intro H2 cT bh;replace cT:jW H0 H2 g b1 (jM a cap 1 1) (cap-1):=cT;have gn:=cT.ext;have dy:=ho.keep bh ke;have dT:=bh.size;have di:=cT.cL)|(refine cm.bytes (l:=[k]) pu rfl (fM 0) (by simp) ?_;intro bk ok qy fY;replace fY:hcell H0 ⟨bk,ok+Int.toNat 0,none⟩=some (.int .u8 k.toNat):=fY)|((with_reducible apply aE.load);rfl;(exact jj fY gn id))|(refine sD (by first|rfl|(rw[bU];omega)|(rw[dM];omega)|(rw[aK];omega)) ?_)|(refine vL (k:=2) cT (by decide) (by omega) h2 ?_;intro H3 a3 c3 jh bw;have j3:=jh.ext;have eI:=dy.keep bw ke;have eJ:=bw.size)|(refine nO (n:=fj (b1.take 2)) jh (by omega) (by omega) h3 ?_;intro H4 mO cH;have fW:=mO.ext;have dE:=eI.keep cH ke;have gA:=cH.size;have oO:=(zY jh (fj (b1.take 2))).ext fW;rw[hP]at oO)|(refine ml (l:=P) rfl rfl rfl oO wZ ?_)|((with_reducible apply tC);(conv=>whnf))|(rename_i Ha za ba xa Hx zx bx xx;have s6:ax H4 Hx:=xa.but xx (by omega);refine(cU Hx).mono ?_;rintro _ H5 ⟨rfl,cE⟩;have lT:=s6.trans cE;have ij:=lT.size;have ur:=bx.ext cE;have kR:=mO.up lT;have iR:=kR.ext;have eW:=dE.ext lT)|(refine vM (by first|rfl|(rw[bK];omega)|(rw[dA];omega)|(rw[aY];omega)) ?_)|refine Vc.aq ?_)<;>(intros;(conv=>whnf)))))
    exact⟨by simp,rfl,iR⟩
  rw[ak h4]at kO;by_cases h5:c.2≠0
  .rw[av h5]at kO;rw[kO];((conv=>whnf);repeat(any_goals((first|(refine nO (n:=1) hr (by decide) (by(show(k::b1).length<=1000000000);omega) (by(show 1<=(k::b1).length);simp) ?_;intro H2 cT bh;replace cT:jW H0 H2 g b1 (jM a cap 1 1) (cap-1):=cT;have gn:=cT.ext;have dy:=ho.keep bh ke;have dT:=bh.size;have di:=cT.cL)|(refine cm.bytes (l:=[k]) pu rfl (fM 0) (by simp) ?_;intro bk ok qy fY;replace fY:hcell H0 ⟨bk,ok+Int.toNat 0,none⟩=some (.int .u8 k.toNat):=fY)|((with_reducible apply aE.load);rfl;(exact jj fY gn id))|(refine sD (by first|rfl|(rw[bU];omega)|(rw[dM];omega)|(rw[aK];omega)) ?_)|(refine vL (k:=2) cT (by decide) (by omega) h2 ?_;intro H3 a3 c3 jh bw;have j3:=jh.ext;have eI:=dy.keep bw ke;have eJ:=bw.size)|(refine nO (n:=fj (b1.take 2)) jh (by omega) (by omega) h3 ?_;intro H4 mO cH;have fW:=mO.ext;have dE:=eI.keep cH ke;have gA:=cH.size;have oO:=(zY jh (fj (b1.take 2))).ext fW;rw[hP]at oO)|(refine ml (l:=P) rfl rfl rfl oO wZ ?_)|((with_reducible apply tC);(conv=>whnf))|(rename_i Ha za ba xa Hx zx bx xx;have s6:ax H4 Hx:=xa.but xx (by omega);refine(cU Hx).mono ?_;rintro _ H5 ⟨rfl,cE⟩;have lT:=s6.trans cE;have ij:=lT.size;have ur:=bx.ext cE;have kR:=mO.up lT;have iR:=kR.ext;have eW:=dE.ext lT)|(refine vM (by first|rfl|(rw[bK];omega)|(rw[dA];omega)|(rw[aY];omega)) ?_)|refine Vc.aq ?_)<;>(intros;(conv=>whnf)))))
   exact⟨by simp,rfl,iR⟩
  rw[ak h5]at kO;have h5:c.2=0:=by omega
  by_cases qV:k=1
  .have akT:k.toNat=1:=by rw[qV];rfl
   rw[av qV]at kO;rw[kO];have Iz:((k.toNat:Int)==1)=true:=by rw[bU];omega
   ((conv=>whnf);repeat(any_goals((first|(refine nO (n:=1) hr (by decide) (by(show(k::b1).length<=1000000000);omega) (by(show 1<=(k::b1).length);simp) ?_;intro H2 cT bh;replace cT:jW H0 H2 g b1 (jM a cap 1 1) (cap-1):=cT;have gn:=cT.ext;have dy:=ho.keep bh ke;have dT:=bh.size;have di:=cT.cL)|(refine cm.bytes (l:=[k]) pu rfl (fM 0) (by simp) ?_;intro bk ok qy fY;replace fY:hcell H0 ⟨bk,ok+Int.toNat 0,none⟩=some (.int .u8 k.toNat):=fY)|((with_reducible apply aE.load);rfl;(exact jj fY gn id))|(refine sD (by first|rfl|(rw[bU];omega)|(rw[dM];omega)|(rw[aK];omega)) ?_)|(refine vL (k:=2) cT (by decide) (by omega) h2 ?_;intro H3 a3 c3 jh bw;have j3:=jh.ext;have eI:=dy.keep bw ke;have eJ:=bw.size)|(rw[Iz];(with_reducible apply tC))|(refine nO (n:=fj (b1.take 2)) jh (by omega) (by omega) h3 ?_;intro H4 mO cH;have fW:=mO.ext;have dE:=eI.keep cH ke;have gA:=cH.size;have oO:=(zY jh (fj (b1.take 2))).ext fW;rw[hP]at oO)|(refine ml (l:=P) rfl rfl rfl oO wZ ?_)|((with_reducible apply tC);(conv=>whnf))|(rename_i Ha za ba xa Hx zx bx xx;have s6:ax H4 Hx:=xa.but xx (by omega);refine(cU Hx).mono ?_;rintro _ H5 ⟨rfl,cE⟩;have lT:=s6.trans cE;have ij:=lT.size;have ur:=bx.ext cE;have kR:=mO.up lT;have iR:=kR.ext;have eW:=dE.ext lT)|(rename_i Hl zl bl xl;have QZ:bu Hl H5.size (kU (P,true,[]) none 0).toArray 71:=bl;refine cP.W8 (news:=kU (P,true,[]) none 0) (eW.ext xl) (bu.row (c:=kU (P,true,[]) none 0) QZ) rfl (Sb _ _ _) (by omega) (by omega) ⟨_,rfl,fun _ h=>by cases h⟩ ?_;intro a6 c6 H6 ei j6;have fS:=j6.size)|refine Vc.aq ?_)<;>(intros;(conv=>whnf)))))
   have ajz:ax H0 H6:=(iR.trans xl).wr (eW.ext xl) wY.ext.size j6;have w5:jW H0 H6 g ((b1.drop 2).drop (fj (b1.take 2))) _ _:=(kR.up xl).keep j6 (fun⟨p,hp,e⟩=>ke p hp e) ajz;have Xa:=ER.append (kg.cons (x:=(P,true,[])) (a:=none) (cap:=0) (Row.nil _ _) .nil);rw[dD]at Xa;refine⟨⟨(b1.drop 2).drop (fj (b1.take 2)),_,_,L++[(P,true,[])],vs++kU (P,true,[]) none 0,a6,c6⟩,⟨by rw[au];rfl,aF⟩,⟨w5,?_,Xa,by rw[au];exact ei,by rw[au];simp;omega,by show((b1.drop 2).drop _).length<=_;rw[aO];omega,by omega⟩,by show((b1.drop 2).drop _).length<(k::b1).length;rw[aO];omega⟩;rfl
  have akU:k.toNat=0:=by have:k.toNat≠1:=fun h=>qV (dJ.1 (by rw[h];rfl));omega
  rw[ak qV]at kO;have Iz:((k.toNat:Int)==1)=false:=by rw[bK];omega
  obtain⟨b3,fR⟩: ∃ b3,(b1.drop 2).drop (fj (b1.take 2))=b3:=⟨_,rfl⟩;have akV:b3.length=(b1.drop 2).length-fj (b1.take 2):=by rw[<-fR];exact aO
  rw[fR]at kO;by_cases h6:b3.length<8
  .rw[av h6]at kO;rw[kO];((conv=>whnf);repeat(any_goals((first|(refine nO (n:=1) hr (by decide) (by(show(k::b1).length<=1000000000);omega) (by(show 1<=(k::b1).length);simp) ?_;intro H2 cT bh;replace cT:jW H0 H2 g b1 (jM a cap 1 1) (cap-1):=cT;have gn:=cT.ext;have dy:=ho.keep bh ke;have dT:=bh.size;have di:=cT.cL)|(refine cm.bytes (l:=[k]) pu rfl (fM 0) (by simp) ?_;intro bk ok qy fY;replace fY:hcell H0 ⟨bk,ok+Int.toNat 0,none⟩=some (.int .u8 k.toNat):=fY)|((with_reducible apply aE.load);rfl;(exact jj fY gn id))|(refine sD (by first|rfl|(rw[bU];omega)|(rw[dM];omega)|(rw[aK];omega)) ?_)|(refine vL (k:=2) cT (by decide) (by omega) h2 ?_;intro H3 a3 c3 jh bw;have j3:=jh.ext;have eI:=dy.keep bw ke;have eJ:=bw.size)|(rw[Iz];(with_reducible apply tC))|(refine nO (n:=fj (b1.take 2)) jh (by omega) (by omega) h3 ?_;intro H4 mO cH;have fW:=mO.ext;have dE:=eI.keep cH ke;have gA:=cH.size;have oO:=(zY jh (fj (b1.take 2))).ext fW;rw[hP]at oO)|(refine ml (l:=P) rfl rfl rfl oO wZ ?_)|((with_reducible apply tC);(conv=>whnf))|(rename_i Ha za ba xa Hx zx bx xx;have s6:ax H4 Hx:=xa.but xx (by omega);refine(cU Hx).mono ?_;rintro _ H5 ⟨rfl,cE⟩;have lT:=s6.trans cE;have ij:=lT.size;have ur:=bx.ext cE;have kR:=mO.up lT;rw[fR]at kR;have iR:=kR.ext;have eW:=dE.ext lT)|(refine TE (k:=8) kR (by decide) (by omega) (by omega) ?_)|refine Vc.aq ?_)<;>(intros;(conv=>whnf)))))
   exact⟨by simp,rfl,iR⟩
  rw[ak h6]at kO;have h6:8<=b3.length:=by omega
  have IA:=ahN b3;have hd8:(b3.drop 8).length=b3.length-8:=aO;by_cases h7:(b3.drop 8).length<fj (b3.take 8)
  .rw[av h7]at kO;rw[kO];((conv=>whnf);repeat(any_goals((first|(refine nO (n:=1) hr (by decide) (by(show(k::b1).length<=1000000000);omega) (by(show 1<=(k::b1).length);simp) ?_;intro H2 cT bh;replace cT:jW H0 H2 g b1 (jM a cap 1 1) (cap-1):=cT;have gn:=cT.ext;have dy:=ho.keep bh ke;have dT:=bh.size;have di:=cT.cL)|(refine cm.bytes (l:=[k]) pu rfl (fM 0) (by simp) ?_;intro bk ok qy fY;replace fY:hcell H0 ⟨bk,ok+Int.toNat 0,none⟩=some (.int .u8 k.toNat):=fY)|((with_reducible apply aE.load);rfl;(exact jj fY gn id))|(refine sD (by first|rfl|(rw[bU];omega)|(rw[dM];omega)|(rw[aK];omega)) ?_)|(refine vL (k:=2) cT (by decide) (by omega) h2 ?_;intro H3 a3 c3 jh bw;have j3:=jh.ext;have eI:=dy.keep bw ke;have eJ:=bw.size)|(rw[Iz];(with_reducible apply tC))|(refine nO (n:=fj (b1.take 2)) jh (by omega) (by omega) h3 ?_;intro H4 mO cH;have fW:=mO.ext;have dE:=eI.keep cH ke;have gA:=cH.size;have oO:=(zY jh (fj (b1.take 2))).ext fW;rw[hP]at oO)|(refine ml (l:=P) rfl rfl rfl oO wZ ?_)|((with_reducible apply tC);(conv=>whnf))|(rename_i Ha za ba xa Hx zx bx xx;have s6:ax H4 Hx:=xa.but xx (by omega);refine(cU Hx).mono ?_;rintro _ H5 ⟨rfl,cE⟩;have lT:=s6.trans cE;have ij:=lT.size;have ur:=bx.ext cE;have kR:=mO.up lT;rw[fR]at kR;have iR:=kR.ext;have eW:=dE.ext lT)|(refine vL (k:=8) kR (by decide) (by omega) h6 ?_;intro H6 a6 c6 w5 cV;have kj:=w5.ext;have ei:=eW.keep cV ke;have fS:=cV.size;have Iy:=ur.but cV (by omega))|(refine OE (n:=fj (b3.take 8)) w5 (by omega) (by omega) (by omega) ?_)|refine Vc.aq ?_)<;>(intros;(conv=>whnf)))))
   exact⟨by simp,rfl,kj⟩
  rw[ak h7]at kO;have h7:fj (b3.take 8)<=(b3.drop 8).length:=by omega
  obtain⟨B,hB⟩: ∃ B,(b3.drop 8).take (fj (b3.take 8))=B:=⟨_,rfl⟩;have IB:B.length=fj (b3.take 8):=by rw[<-hB,aJ];omega
  rw[hB]at kO;((conv=>whnf);repeat(any_goals((first|(refine nO (n:=1) hr (by decide) (by(show(k::b1).length<=1000000000);omega) (by(show 1<=(k::b1).length);simp) ?_;intro H2 cT bh;replace cT:jW H0 H2 g b1 (jM a cap 1 1) (cap-1):=cT;have gn:=cT.ext;have dy:=ho.keep bh ke;have dT:=bh.size;have di:=cT.cL)|(refine cm.bytes (l:=[k]) pu rfl (fM 0) (by simp) ?_;intro bk ok qy fY;replace fY:hcell H0 ⟨bk,ok+Int.toNat 0,none⟩=some (.int .u8 k.toNat):=fY)|((with_reducible apply aE.load);rfl;(exact jj fY gn id))|(refine sD (by first|rfl|(rw[bU];omega)|(rw[dM];omega)|(rw[aK];omega)) ?_)|(refine vL (k:=2) cT (by decide) (by omega) h2 ?_;intro H3 a3 c3 jh bw;have j3:=jh.ext;have eI:=dy.keep bw ke;have eJ:=bw.size)|(rw[Iz];(with_reducible apply tC))|(refine nO (n:=fj (b1.take 2)) jh (by omega) (by omega) h3 ?_;intro H4 mO cH;have fW:=mO.ext;have dE:=eI.keep cH ke;have gA:=cH.size;have oO:=(zY jh (fj (b1.take 2))).ext fW;rw[hP]at oO)|(refine ml (l:=P) rfl rfl rfl oO wZ ?_)|((with_reducible apply tC);(conv=>whnf))|(rename_i Ha za ba xa Hx zx bx xx;have s6:ax H4 Hx:=xa.but xx (by omega);refine(cU Hx).mono ?_;rintro _ H5 ⟨rfl,cE⟩;have lT:=s6.trans cE;have ij:=lT.size;have ur:=bx.ext cE;have kR:=mO.up lT;rw[fR]at kR;have iR:=kR.ext;have eW:=dE.ext lT)|(refine vL (k:=8) kR (by decide) (by omega) h6 ?_;intro H6 a6 c6 w5 cV;have kj:=w5.ext;have ei:=eW.keep cV ke;have fS:=cV.size;have Iy:=ur.but cV (by omega))|(refine nO (n:=fj (b3.take 8)) w5 (by omega) (by omega) h7 ?_;intro H7 ES dq;have mq:=ES.ext;have iY:=ei.keep dq ke;have jK:=dq.size;have bf7:=Iy.but dq (by omega);have YG:=zY w5 (fj (b3.take 8)))|(rename_i Hk zk bk8 xk Hl zl bl xl;have QZ:bu Hl Hk.size (kU (P,false,B) a6 c6).toArray 71:=(by unfold kU;rw[IB];exact bl);have kZ:cq Hl H.size 71 3 oa L.length oc vs:=(iY.keep xk (fun p hp e=>by have:=(iY.block p hp).1;have:=(dE.block p hp).2;omega)).ext xl;refine cP.W8 (news:=kU (P,false,B) a6 c6) kZ (bu.row (c:=kU (P,false,B) a6 c6) QZ) rfl (Sb _ _ _) (by omega) (by omega) ⟨_,rfl,fun _ h=>by cases h⟩ ?_;intro a9 c9 H9 kv lz;have ly:=lz.size)|refine Vc.aq ?_)<;>(intros;(conv=>whnf)))))
  have ajA:ax H0 Hl:=(mq.but xk (by have:=mO.ext.size;omega)).trans xl;have ajB:ax H0 H9:=ajA.wr kZ wY.ext.size lz;have ajC:g≠H4.size:=by omega
  have L8:jW H0 H9 g ((b3.drop 8).drop (fj (b3.take 8))) _ _:=((ES.keep xk ajC (mq.but xk (by have:=mO.ext.size;omega))).up xl).keep lz (fun⟨p,hp,e⟩=>ke p hp e) ajB;rw[hB]at YG;have Xb:=ER.append (kg.cons (x:=(P,false,B)) (a:=a6) (cap:=c6) YG .nil);rw[dD]at Xb;rw[kO];refine⟨⟨(b3.drop 8).drop (fj (b3.take 8)),_,_,L++[(P,false,B)],vs++kU (P,false,B) a6 c6,a9,c9⟩,⟨by rw[au];rfl,aF⟩,⟨L8,rfl,Xb,by rw[au];exact kv,by rw[au];simp;omega,by show((b3.drop 8).drop _).length<=_;rw[aO];omega,by omega⟩,by show((b3.drop 8).drop _).length<(k::b1).length;rw[aO];omega⟩
end Go.Proofs.YtphkaogbcfdllaaGreatDoor
namespace Go.Proofs.YtphkaogbcfdllaaGreatDoor
open Go Go.Vc Go.cN Go.eg Go.cM
def YH (H':ae) (base:Nat) (v:Value) (r:Option Tr×Nat):Prop:=match r.1 with
 |none=>v= .tuple #[.pointer none,.int .i64 r.2]
 |some A=>∃ b mb,v= .tuple #[.pointer (some ⟨b,0,none⟩),.int .i64 r.2]/\iQ no H' b mb A/\dr A/\base<=b/\base<=mb
structure OfS where
 i:Nat
 A:Tr
 seen:List Bs
 ls:List (Bs×Value)
set_option maxHeartbeats 4000000 in
theorem OZ (L:Tr) (a:Option Addr) (n cap:Nat) (H:ae) (hr:j4 H a L) (hn:L.length=n) (wO:n<=1000000000) (hb: ∀ f∈L,f.2.2.length<=1000000000):az Tryz.prog 90 [.slice a n cap] H fun v H'=>YH H' H.size v (pR L)/\ax H H':=by
 refine Vc.az.body Tryz.func90 Tryz.call90 rfl (by decide+kernel) rfl ?_;((conv=>whnf);repeat(any_goals((first|(refine(agl _).mono ?_;rintro _ H1 ⟨⟨b,mb,rfl,pj,eC,wM⟩,cd⟩;have eR:=cd.size)|((with_reducible apply aE.N0);(intro H2 z2 m2 x2;(conv=>whnf)))|refine Vc.aq ?_|refine Vc.bz ?_ ?_)<;>(intros;(conv=>whnf)))))
 have akW:=pj.cL.lt;have akX:=pj.map.lt;refine dt.intro (fun(x:OfS)=>[(15,.int .i64 x.i)])
  (fun x H'=>x.i<=n/\pR L=pE x.A x.seen (L.drop x.i)/\iQ no H' b mb x.A/\dr x.A/\jb H' H1.size x.ls/\(∀ k,ck x.ls k=if k∈x.seen then some (.int .i64 1)else none)/\ax H H') (fun x=>n-x.i) ⟨0,[],[],[]⟩ ⟨rfl,aF⟩ ⟨aI _,rfl,pj.ext x2,dr.nil,m2,fun k=>rfl,cd.trans x2⟩ ?_
 rintro⟨i,A,seen,ls⟩ H3 ⟨hi,iM,pk,hA,iG,s5,bw⟩;dsimp only at hi iM pk hA iG s5 ⊢;have eJ:=bw.size;have PK:=pk.cL;have akY:=iG.lt;have jz:=hr.ext bw;have cz:=pk.map.ne PK;have akZ:mb≠H1.size:=by omega
 by_cases ct:i<n
 .obtain⟨f,hf⟩: ∃ f,L[i]? =some f:=⟨_,aD (by omega)⟩;have lQ:=hb f (aU hf);have pM:L.drop i=f::L.drop (i+1):=by
   rw[bP (by omega)];rw[aD (by omega)]at hf;rw[bW hf]
  rw[pM,pE]at iM;have cU:=fun H=>vK f.1 H;by_cases h0: ¬(cF f.1).2=0
  .rw[av h0]at iM;have rS: ¬((cF f.1).2:Int)=0:=by omega
   rw[iM];generalize cF f.1=c at*
   ((conv=>whnf);repeat(any_goals((first|(refine cm.file jz hn i f (by omega) hf ?_;intro bi oi ai ci ic dp)|((with_reducible apply aE.nr);(exact dp);(exact ax.refl _);(conv=>whnf))|(refine(cU _).mono ?_;rintro _ H6 ⟨rfl,cV⟩;have fS:=cV.size)|refine Vc.aq ?_|refine Vc.bz ?_ ?_)<;>(intros;(conv=>whnf)))))
   exact⟨rfl,bw.trans (by exact Vc.xt)⟩
  have h0:(cF f.1).2=0:=by omega
  have hq:=oR h0;rw[ak (by omega)]at iM;obtain⟨q,lE⟩: ∃ q,(cF f.1).1=q:=⟨_,rfl⟩;rw[h0,lE]at cU;rw[lE]at hq iM;have fy:=fun H' (k:ax H3 H')=>BL (pk.ext k) q;have w6:=s5 q;by_cases hs:q∈seen
  .rw[av (.inl hs)]at iM;rw[av hs]at w6;rw[iM];((conv=>whnf);repeat(any_goals((first|(refine cm.file jz hn i f (by omega) hf ?_;intro bi oi ai ci ic dp)|((with_reducible apply aE.nr);(exact dp);(exact ax.refl _);(conv=>whnf))|(refine(cU _).mono ?_;rintro _ H6 ⟨rfl,cV⟩;have fS:=cV.size)|((with_reducible apply aE.n9 m8);rfl;rfl;rfl;rfl;(rw[jX,av rfl];(conv=>whnf)))|((with_reducible apply aE.n9 (iG.ext (by exact Vc.xt)));rfl;rfl;rfl;rfl;(rw[w6];(conv=>whnf)))|((with_reducible apply dc.p9 (iG.ext (by exact Vc.xt)));rfl;rfl;(focus((intro H8 z8 m8 x8;have jc:=dx trivial (show ax H3 H7 by exact Vc.xt);have me:=iG.ext jc.2;have lH:=(pk.ext jc.2).keep x8 (fun e=>by omega) (fun e=>by omega) (fun x e _=>by subst e;exact .inl (.map me));have sM:=(ic.ext jc.2).bytes x8 (fun x e _=>by subst e;exact .map me);(conv=>whnf)))))|(refine(fy _ (by exact Vc.xt)).mono ?_;rintro v2 H7 ⟨fb,dq⟩;have jK:=dq.size)|refine Vc.aq ?_|refine Vc.bz ?_ ?_)<;>(intros;(conv=>whnf)))))
   exact⟨rfl,(bw.trans jc.2).but x8 (by omega)⟩
  rw[ak hs]at w6;have PU: ∀ k,ck (fk ls q (.int .i64 1)) k=if k∈seen++[q]then some (.int .i64 1)else none:=fun k=>by
   rw[jX];by_cases hk:k=q
   .rw[av hk,av (by simp[hk])]
   .rw[ak hk,s5];by_cases uf:k∈seen
    .rw[av uf,av (by simp[uf])]
    .rw[ak uf,ak (by simp[uf,hk])]
  have qZ:dr (ov A q f).1:=hA.step hq f;by_cases IC:f.2.1=true
  .have cW:ov A q f=oU A q:=by unfold ov;rw[av IC,adC A hq]
   by_cases hd:mV A q=true
   .rw[av (.inr ⟨IC,hd⟩)]at iM;obtain⟨t,ht⟩:=(xw A q).1 hd;rw[ht]at fy;rw[iM];((conv=>whnf);repeat(any_goals((first|(refine cm.file jz hn i f (by omega) hf ?_;intro bi oi ai ci ic dp)|((with_reducible apply aE.nr);(exact dp);(exact ax.refl _);(conv=>whnf))|(refine(cU _).mono ?_;rintro _ H6 ⟨rfl,cV⟩;have fS:=cV.size)|((with_reducible apply aE.n9 m8);rfl;rfl;rfl;rfl;(rw[jX,av rfl];(conv=>whnf)))|((with_reducible apply aE.n9 (iG.ext (by exact Vc.xt)));rfl;rfl;rfl;rfl;(rw[w6];(conv=>whnf)))|((with_reducible apply dc.p9 (iG.ext (by exact Vc.xt)));rfl;rfl;(focus((intro H8 z8 m8 x8;have jc:=dx trivial (show ax H3 H7 by exact Vc.xt);have me:=iG.ext jc.2;have lH:=(pk.ext jc.2).keep x8 (fun e=>by omega) (fun e=>by omega) (fun x e _=>by subst e;exact .inl (.map me));have sM:=(ic.ext jc.2).bytes x8 (fun x e _=>by subst e;exact .map me);(conv=>whnf)))))|(refine(fy _ (by exact Vc.xt)).mono ?_;rintro v2 H7 ⟨fb,dq⟩;have jK:=dq.size;obtain⟨g2,a2,c2,rfl,di,cT⟩:=iJ.out fb;dsimp only at di;have Xc:=(iG.ext (show ax H3 H7 by exact Vc.xt)).ne di)|refine Vc.aq ?_|refine Vc.bz ?_ ?_)<;>(intros;(conv=>whnf)))))
    exact⟨rfl,(bw.trans jc.2).but x8 (by omega)⟩
   rw[ak (by rw[fT];exact⟨hs,fun e=>hd e.2⟩)]at iM;by_cases hc: ¬(ov A q f).2=0
   .rw[av hc]at iM;rw[iM];rw[cW]at hc ⊢;have Cv: ¬((oU A q).2:Int)=0:=by omega
    cases ph:nodeAt A q with
    |none=>
     rw[ph]at fy;((conv=>whnf);repeat(any_goals((first|(refine cm.file jz hn i f (by omega) hf ?_;intro bi oi ai ci ic dp)|((with_reducible apply aE.nr);(exact dp);(exact ax.refl _);(conv=>whnf))|(refine(cU _).mono ?_;rintro _ H6 ⟨rfl,cV⟩;have fS:=cV.size)|((with_reducible apply aE.n9 m8);rfl;rfl;rfl;rfl;(rw[jX,av rfl];(conv=>whnf)))|((with_reducible apply aE.n9 (iG.ext (by exact Vc.xt)));rfl;rfl;rfl;rfl;(rw[w6];(conv=>whnf)))|((with_reducible apply dc.p9 (iG.ext (by exact Vc.xt)));rfl;rfl;(focus((intro H8 z8 m8 x8;have jc:=dx trivial (show ax H3 H7 by exact Vc.xt);have me:=iG.ext jc.2;have lH:=(pk.ext jc.2).keep x8 (fun e=>by omega) (fun e=>by omega) (fun x e _=>by subst e;exact .inl (.map me));have sM:=(ic.ext jc.2).bytes x8 (fun x e _=>by subst e;exact .map me);(conv=>whnf)))))|(refine(fy _ (by exact Vc.xt)).mono ?_;rintro v2 H7 ⟨fb,dq⟩;have jK:=dq.size;obtain rfl:=fb)|(refine(Bu (lH.ext (by exact Vc.xt)) hA q).mono ?_;rintro _ H9 io;obtain rfl:=io.code;have ly:=io.only.size)|(refine(Bt (lH.ext (by exact Vc.xt)) hA q f.2.2 ai _ ci (sM.ext (by exact Vc.xt)) rfl (by omega)).mono ?_;rintro _ H9 io;obtain rfl:=io.code;have ly:=io.only.size)|refine Vc.aq ?_|refine Vc.bz ?_ ?_)<;>(intros;(conv=>whnf)))))
     exact⟨rfl,(cD.trans ((bw.trans jc.2).but x8 (by omega)) io.only fun x hx e=>by rcases e with rfl|rfl<;>omega)⟩
    |some nd=>
     obtain⟨dd,t⟩:=nd;have:dd=false:=by cases dd with|false=>rfl|true=>exact absurd ((xw A q).2 ⟨t,ph⟩) hd
     subst this;rw[ph]at fy;((conv=>whnf);repeat(any_goals((first|(refine cm.file jz hn i f (by omega) hf ?_;intro bi oi ai ci ic dp)|((with_reducible apply aE.nr);(exact dp);(exact ax.refl _);(conv=>whnf))|(refine(cU _).mono ?_;rintro _ H6 ⟨rfl,cV⟩;have fS:=cV.size)|((with_reducible apply aE.n9 m8);rfl;rfl;rfl;rfl;(rw[jX,av rfl];(conv=>whnf)))|((with_reducible apply aE.n9 (iG.ext (by exact Vc.xt)));rfl;rfl;rfl;rfl;(rw[w6];(conv=>whnf)))|((with_reducible apply dc.p9 (iG.ext (by exact Vc.xt)));rfl;rfl;(focus((intro H8 z8 m8 x8;have jc:=dx trivial (show ax H3 H7 by exact Vc.xt);have me:=iG.ext jc.2;have lH:=(pk.ext jc.2).keep x8 (fun e=>by omega) (fun e=>by omega) (fun x e _=>by subst e;exact .inl (.map me));have sM:=(ic.ext jc.2).bytes x8 (fun x e _=>by subst e;exact .map me);(conv=>whnf)))))|(refine(fy _ (by exact Vc.xt)).mono ?_;rintro v2 H7 ⟨fb,dq⟩;have jK:=dq.size;obtain⟨g2,a2,c2,rfl,di,cT⟩:=iJ.out fb;dsimp only at di;have Xc:=(iG.ext (show ax H3 H7 by exact Vc.xt)).ne di)|(refine(Bu (lH.ext (by exact Vc.xt)) hA q).mono ?_;rintro _ H9 io;obtain rfl:=io.code;have ly:=io.only.size)|(refine(Bt (lH.ext (by exact Vc.xt)) hA q f.2.2 ai _ ci (sM.ext (by exact Vc.xt)) rfl (by omega)).mono ?_;rintro _ H9 io;obtain rfl:=io.code;have ly:=io.only.size)|refine Vc.aq ?_|refine Vc.bz ?_ ?_)<;>(intros;(conv=>whnf)))))
     exact⟨rfl,(cD.trans ((bw.trans jc.2).but x8 (by omega)) io.only fun x hx e=>by rcases e with rfl|rfl<;>omega)⟩
   have hc:(ov A q f).2=0:=by omega
   rw[ak (by omega)]at iM;rw[cW]at hc iM qZ;cases ph:nodeAt A q with
   |none=>
    rw[ph]at fy;((conv=>whnf);repeat(any_goals((first|(refine cm.file jz hn i f (by omega) hf ?_;intro bi oi ai ci ic dp)|((with_reducible apply aE.nr);(exact dp);(exact ax.refl _);(conv=>whnf))|(refine(cU _).mono ?_;rintro _ H6 ⟨rfl,cV⟩;have fS:=cV.size)|((with_reducible apply aE.n9 m8);rfl;rfl;rfl;rfl;(rw[jX,av rfl];(conv=>whnf)))|((with_reducible apply aE.n9 (iG.ext (by exact Vc.xt)));rfl;rfl;rfl;rfl;(rw[w6];(conv=>whnf)))|((with_reducible apply dc.p9 (iG.ext (by exact Vc.xt)));rfl;rfl;(focus((intro H8 z8 m8 x8;have jc:=dx trivial (show ax H3 H7 by exact Vc.xt);have me:=iG.ext jc.2;have lH:=(pk.ext jc.2).keep x8 (fun e=>by omega) (fun e=>by omega) (fun x e _=>by subst e;exact .inl (.map me));have sM:=(ic.ext jc.2).bytes x8 (fun x e _=>by subst e;exact .map me);(conv=>whnf)))))|(refine(fy _ (by exact Vc.xt)).mono ?_;rintro v2 H7 ⟨fb,dq⟩;have jK:=dq.size;obtain rfl:=fb)|(refine(Bu (lH.ext (by exact Vc.xt)) hA q).mono ?_;rintro _ H9 io;obtain rfl:=io.code;have ly:=io.only.size)|(refine(Bt (lH.ext (by exact Vc.xt)) hA q f.2.2 ai _ ci (sM.ext (by exact Vc.xt)) rfl (by omega)).mono ?_;rintro _ H9 io;obtain rfl:=io.code;have ly:=io.only.size)|refine Vc.aq ?_|refine Vc.bz ?_ ?_)<;>(intros;(conv=>whnf)))))
    (exact⟨⟨i+1,(oU A q).1,seen++[q],fk ls q (.int .i64 1)⟩,⟨rfl,aF⟩,⟨by show i+1<=n;omega,iM,io.tree,qZ,jb.keep m8 io.only (fun e=>by rcases e with e|e<;>omega),PU,(cD.trans ((bw.trans jc.2).but x8 (by omega)) io.only fun x hx e=>by rcases e with rfl|rfl<;>omega)⟩,by show n-(i+1)<n-i;omega⟩)
   |some nd=>
    obtain⟨dd,t⟩:=nd;have:dd=false:=by cases dd with|false=>rfl|true=>exact absurd ((xw A q).2 ⟨t,ph⟩) hd
    subst this;rw[ph]at fy;((conv=>whnf);repeat(any_goals((first|(refine cm.file jz hn i f (by omega) hf ?_;intro bi oi ai ci ic dp)|((with_reducible apply aE.nr);(exact dp);(exact ax.refl _);(conv=>whnf))|(refine(cU _).mono ?_;rintro _ H6 ⟨rfl,cV⟩;have fS:=cV.size)|((with_reducible apply aE.n9 m8);rfl;rfl;rfl;rfl;(rw[jX,av rfl];(conv=>whnf)))|((with_reducible apply aE.n9 (iG.ext (by exact Vc.xt)));rfl;rfl;rfl;rfl;(rw[w6];(conv=>whnf)))|((with_reducible apply dc.p9 (iG.ext (by exact Vc.xt)));rfl;rfl;(focus((intro H8 z8 m8 x8;have jc:=dx trivial (show ax H3 H7 by exact Vc.xt);have me:=iG.ext jc.2;have lH:=(pk.ext jc.2).keep x8 (fun e=>by omega) (fun e=>by omega) (fun x e _=>by subst e;exact .inl (.map me));have sM:=(ic.ext jc.2).bytes x8 (fun x e _=>by subst e;exact .map me);(conv=>whnf)))))|(refine(fy _ (by exact Vc.xt)).mono ?_;rintro v2 H7 ⟨fb,dq⟩;have jK:=dq.size;obtain⟨g2,a2,c2,rfl,di,cT⟩:=iJ.out fb;dsimp only at di;have Xc:=(iG.ext (show ax H3 H7 by exact Vc.xt)).ne di)|(refine(Bu (lH.ext (by exact Vc.xt)) hA q).mono ?_;rintro _ H9 io;obtain rfl:=io.code;have ly:=io.only.size)|(refine(Bt (lH.ext (by exact Vc.xt)) hA q f.2.2 ai _ ci (sM.ext (by exact Vc.xt)) rfl (by omega)).mono ?_;rintro _ H9 io;obtain rfl:=io.code;have ly:=io.only.size)|refine Vc.aq ?_|refine Vc.bz ?_ ?_)<;>(intros;(conv=>whnf)))))
    (exact⟨⟨i+1,(oU A q).1,seen++[q],fk ls q (.int .i64 1)⟩,⟨rfl,aF⟩,⟨by show i+1<=n;omega,iM,io.tree,qZ,jb.keep m8 io.only (fun e=>by rcases e with e|e<;>omega),PU,(cD.trans ((bw.trans jc.2).but x8 (by omega)) io.only fun x hx e=>by rcases e with rfl|rfl<;>omega)⟩,by show n-(i+1)<n-i;omega⟩)
  .have cW:ov A q f=nP A q f.2.2:=by unfold ov;rw[ak IC,adD A hq]
   have ak0:f.2.1=false:=by simpa using IC
   rw[ak (by rw[fT];exact⟨hs,fun e=>IC e.1⟩)]at iM;by_cases hc: ¬(ov A q f).2=0
   .rw[av hc]at iM;rw[iM];rw[cW]at hc ⊢;have Cv: ¬((nP A q f.2.2).2:Int)=0:=by omega
    ((conv=>whnf);repeat(any_goals((first|(refine cm.file jz hn i f (by omega) hf ?_;intro bi oi ai ci ic dp)|((with_reducible apply aE.nr);(exact dp);(exact ax.refl _);(conv=>whnf))|(refine(cU _).mono ?_;rintro _ H6 ⟨rfl,cV⟩;have fS:=cV.size)|((with_reducible apply aE.n9 m8);rfl;rfl;rfl;rfl;(rw[jX,av rfl];(conv=>whnf)))|((with_reducible apply aE.n9 (iG.ext (by exact Vc.xt)));rfl;rfl;rfl;rfl;(rw[w6];(conv=>whnf)))|((with_reducible apply dc.p9 (iG.ext (by exact Vc.xt)));rfl;rfl;(focus((intro H8 z8 m8 x8;have jc:=dx trivial (show ax H3 H7 by exact Vc.xt);have me:=iG.ext jc.2;have lH:=(pk.ext jc.2).keep x8 (fun e=>by omega) (fun e=>by omega) (fun x e _=>by subst e;exact .inl (.map me));have sM:=(ic.ext jc.2).bytes x8 (fun x e _=>by subst e;exact .map me);(conv=>whnf)))))|(refine(fy _ (by exact Vc.xt)).mono ?_;rintro v2 H7 ⟨fb,dq⟩;have jK:=dq.size)|(refine(Bu (lH.ext (by exact Vc.xt)) hA q).mono ?_;rintro _ H9 io;obtain rfl:=io.code;have ly:=io.only.size)|(refine(Bt (lH.ext (by exact Vc.xt)) hA q f.2.2 ai _ ci (sM.ext (by exact Vc.xt)) rfl (by omega)).mono ?_;rintro _ H9 io;obtain rfl:=io.code;have ly:=io.only.size)|refine Vc.aq ?_|refine Vc.bz ?_ ?_)<;>(intros;(conv=>whnf)))))
    exact⟨rfl,(cD.trans ((bw.trans jc.2).but x8 (by omega)) io.only fun x hx e=>by rcases e with rfl|rfl<;>omega)⟩
   have hc:(ov A q f).2=0:=by omega
   rw[ak (by omega)]at iM;rw[cW]at hc iM qZ;((conv=>whnf);repeat(any_goals((first|(refine cm.file jz hn i f (by omega) hf ?_;intro bi oi ai ci ic dp)|((with_reducible apply aE.nr);(exact dp);(exact ax.refl _);(conv=>whnf))|(refine(cU _).mono ?_;rintro _ H6 ⟨rfl,cV⟩;have fS:=cV.size)|((with_reducible apply aE.n9 m8);rfl;rfl;rfl;rfl;(rw[jX,av rfl];(conv=>whnf)))|((with_reducible apply aE.n9 (iG.ext (by exact Vc.xt)));rfl;rfl;rfl;rfl;(rw[w6];(conv=>whnf)))|((with_reducible apply dc.p9 (iG.ext (by exact Vc.xt)));rfl;rfl;(focus((intro H8 z8 m8 x8;have jc:=dx trivial (show ax H3 H7 by exact Vc.xt);have me:=iG.ext jc.2;have lH:=(pk.ext jc.2).keep x8 (fun e=>by omega) (fun e=>by omega) (fun x e _=>by subst e;exact .inl (.map me));have sM:=(ic.ext jc.2).bytes x8 (fun x e _=>by subst e;exact .map me);(conv=>whnf)))))|(refine(fy _ (by exact Vc.xt)).mono ?_;rintro v2 H7 ⟨fb,dq⟩;have jK:=dq.size)|(refine(Bu (lH.ext (by exact Vc.xt)) hA q).mono ?_;rintro _ H9 io;obtain rfl:=io.code;have ly:=io.only.size)|(refine(Bt (lH.ext (by exact Vc.xt)) hA q f.2.2 ai _ ci (sM.ext (by exact Vc.xt)) rfl (by omega)).mono ?_;rintro _ H9 io;obtain rfl:=io.code;have ly:=io.only.size)|refine Vc.aq ?_|refine Vc.bz ?_ ?_)<;>(intros;(conv=>whnf)))))
   (exact⟨⟨i+1,(nP A q f.2.2).1,seen++[q],fk ls q (.int .i64 1)⟩,⟨rfl,aF⟩,⟨by show i+1<=n;omega,iM,io.tree,qZ,jb.keep m8 io.only (fun e=>by rcases e with e|e<;>omega),PU,(cD.trans ((bw.trans jc.2).but x8 (by omega)) io.only fun x hx e=>by rcases e with rfl|rfl<;>omega)⟩,by show n-(i+1)<n-i;omega⟩)
 .obtain rfl:i=n:=by omega
  rw[aV (by omega),pE]at iM;rw[iM];((conv=>whnf);repeat(any_goals((first|refine Vc.aq ?_|refine Vc.bz ?_ ?_)<;>(intros;(conv=>whnf)))))
  exact⟨⟨b,mb,rfl,pk,hA,eC,wM⟩,bw⟩
end Go.Proofs.YtphkaogbcfdllaaGreatDoor
namespace Go.Proofs.YtphkaogbcfdllaaGreatDoor
open Go Go.Vc Go.cN Go.eg Go.cM Go.ej
theorem Fk (a:Act):iI [] a:=fun i v h=>by cases h
theorem JY {P:Program} {n:Nat} {c:Code} {env:Env} {Q:ow} {a:Act} {w:World} (hf:lk n c=true) (ha:iI env a) (hn:a.tmps.size=n) (h:qI P n c env w.heap Q):c.wp P (tF w n a (mods c) Q) a w:=
 (sx c env w.heap Q hf h).out w a w ha rfl hn (dC.refl w) rfl
theorem aah {P:Program} {ops:Array Oper} {Q:Exit->Act->List Frame->World->Prop} {i:Nat} {rest:List Nat} {a:Act} {cs cs':List Frame} {w:World} {o:Oper} {d:Nat} {v:Value} (ho:ops[i]? =some o) (mL:o.op= .call {callee:= .builtin .recover,args:= #[],argTypes:= #[]}) (hg:o.guard=none) (hd:o.dst=some d)
  (hr:(recoverD cs=some (v,cs'))\/(recoverD cs=none/\v= .nilIface/\cs'=cs)) (h:wpOpsS P ops Q rest (a.put (some d) v) cs' w):wpOpsS P ops Q (i::rest) a cs w:=by
 unfold wpOpsS;have he:(execOp a.eval o).run P w= .ok .recover w:=by unfold execOp;rw[mL];rfl
 have hw:Region.wanted o (yielded ops a.tmps)=true:=by unfold Region.wanted;rw[hg]
 rw[ho];dsimp only;rw[av hw,he];dsimp only;rcases hr with hr|⟨hr,rfl,rfl⟩
 .rw[hr,hd];exact h
 .rw[hr,hd];exact h
theorem aaj {P:Program} {ops:Array Oper} {Q:Exit->Act->List Frame->World->Prop} {i:Nat} {rest:List Nat} {a:Act} {cs:List Frame} {w:World} {o:Oper} {d:Nat} {x:Operand} {v:Value} (ho:ops[i]? =some o) (mL:o.op= .assign x) (hg:o.guard=none) (hd:o.dst=some d) (hv:a.eval x=v)
  (h:wpOpsS P ops Q rest (a.put (some d) v) cs w):wpOpsS P ops Q (i::rest) a cs w:=by
 unfold wpOpsS;have he:(execOp a.eval o).run P w= .ok (.value v) w:=by unfold execOp;rw[mL,<-hv];rfl
 have hw:Region.wanted o (yielded ops a.tmps)=true:=by unfold Region.wanted;rw[hg]
 rw[ho];dsimp only;rw[av hw,he];dsimp only[Oper.upon];rw[hd];exact h
theorem Us {P:Program} {id:Nat} {o0 o1:Oper} {Q:Exit->Act->List Frame->World->Prop} {a:Act} {cs cs':List Frame} {w:World} {d0 d1:Nat} {v:Value} (h0:o0.op= .call {callee:= .builtin .recover,args:= #[],argTypes:= #[]}) (g0:o0.guard=none) (e0:o0.dst=some d0)
  (h1:o1.op= .assign (.tmp d0)) (g1:o1.guard=none) (e1:o1.dst=some d1) (hd:d0<a.tmps.size) (hr:(recoverD cs=some (v,cs'))\/(recoverD cs=none/\v= .nilIface/\cs'=cs)) (h:Q .normal ((a.put (some d0) v).put (some d1) v) cs' w):(Code.region id #[o0,o1] false).wpS P Q a cs w:=by
 refine wpS_region ?_;show wpOpsS P #[o0,o1] Q [0,1] a cs w;refine aah (o:=o0) rfl h0 g0 e0 hr (aaj (o:=o1) rfl h1 g1 e1 ?_ h);simp[Act.eval,Act.put,dV,hd]
theorem aa5 {P:Program} {fn:Func} {env:Env} {a:Act} {w:World} {v:Value} (ha:iI env a) (h:uS P env w.heap fn.results.toList fun vs=>Vc.one vs=v):(results fn a.tmps).run P w= .ok v w:=by
 obtain⟨vs,hr,hv⟩:=Fe ha _ _ h;rw[MY,Array.mapM_eq_mapM_toList];simp only[bind_assoc,map_eq_pure_bind,pure_bind,Sem.run_bind];rw[hr,<-hv];simp only[Result.andThen_ok,Sem.run_pure];rcases vs with _|⟨x,_|⟨y,l⟩⟩<;>simp[Vc.one]
theorem aaF {P:Program} {ops:Array Oper} {Q:Exit->Act->World->Prop} {i:Nat} {rest:List Nat} {a:Act} {w:World} {o:Oper} {v:Value} (ho:ops[i]? =some o) (hg:o.guard=none) (he:(execOp a.eval o).run P w= .ok (.value v) w) (h:wpOps P ops Q rest (a.put o.dst v) w):wpOps P ops Q (i::rest) a w:=by
 unfold wpOps;have hw:Region.wanted o (yielded ops a.tmps)=true:=by unfold Region.wanted;rw[hg]
 rw[ho];dsimp only;rw[av hw];refine .inl ?_;unfold Oper.wp;rw[he];exact h
theorem aaG {P:Program} {ops:Array Oper} {Q:Exit->Act->World->Prop} {i:Nat} {rest:List Nat} {a:Act} {w:World} {o:Oper} {d:Deferred} (ho:ops[i]? =some o) (hg:o.guard=none) (he:(execOp a.eval o).run P w= .ok (.defer d) w) (h:wpOps P ops Q rest ({a with defers:=d::a.defers}.put o.dst undef) w):wpOps P ops Q (i::rest) a w:=by
 unfold wpOps;have hw:Region.wanted o (yielded ops a.tmps)=true:=by unfold Region.wanted;rw[hg]
 rw[ho];dsimp only;rw[av hw];refine .inl ?_;unfold Oper.wp;rw[he];exact h
theorem adF {P:Program} {id:Nat} {o0 o1:Oper} {Q:Exit->Act->World->Prop} {a:Act} {w:World} {d0:Nat} {f:FuncId} {x y:Operand} (h0:o0.op= .makeFunc (.func f) #[] #[x,y]) (g0:o0.guard=none) (e0:o0.dst=some d0)
  (h1:o1.op= .defer {callee:= .value (.tmp d0),args:= #[],argTypes:= #[]}) (g1:o1.guard=none) (e1:o1.dst=none) (hd:d0<a.tmps.size)
  (h:Q .normal {tmps:=(a.put (some d0) (.func (.func f) #[] #[a.eval x,a.eval y])).tmps,defers:={target:= .fn (.func f) #[a.eval x,a.eval y],args:= #[]}::a.defers} w):(Code.region id #[o0,o1] false).wp P Q a w:=by
 refine wp_region ?_;show wpOps P #[o0,o1] Q [0,1] a w;refine aaF (o:=o0) (v:= .func (.func f) #[] #[a.eval x,a.eval y]) rfl g0 (by simp[execOp,h0,Instr.makeFunc]) ?_;have hv:(a.put o0.dst (.func (.func f) #[] #[a.eval x,a.eval y])).eval (.tmp d0)= .func (.func f) #[] #[a.eval x,a.eval y]:=by
  rw[e0];simp[Act.eval,Act.put,dV,hd]
 refine aaG (o:=o1) (d:={target:= .fn (.func f) #[a.eval x,a.eval y],args:= #[]}) rfl g1 (by simp[execOp,h1,resolve,hv,Deferred.ofValue]) ?_;rw[e1,e0];exact h
def aiy (c:Nat):List PanicEntry:=[{v:=Gl c,recovered:=true}]
set_option maxHeartbeats 2000000 in
theorem aa6 (c b0 b1:Nat) (sl o:Value) (w:World) (h0:bu w.heap b0 #[sl] 46) (h1:bu w.heap b1 #[o] 34) (cz:b0≠b1):
  CallsD Tryz.prog 149 #[.pointer (some ⟨b0,0,none⟩),.pointer (some ⟨b1,0,none⟩)] (.panicking (vU c)) w fun e u' w'=>(∃ v,e= .returned v)/\settle u'= .returning/\dC w w'/\bu w'.heap b0 #[.slice none 0 0] 46/\bu w'.heap b1 #[.int .i64 c] 34/\cD (fun x=>x=b0\/x=b1) w.heap w'.heap:=by
 refine callsD_of_wpS Tryz.func149 rfl ?_;intro PV cs hu;obtain⟨fn,tm,todo,df,md,kd,ro⟩:=PV;dsimp only at hu;subst hu;refine wpS_seq (Us (v:=Gl c) (cs':={fn:=fn,tmps:=tm,todo:=todo,defers:=df,mode:= .panicking (aiy c),kind:=kd,roundOf:=ro}::cs) rfl rfl rfl rfl rfl rfl (by simp) (.inl rfl) ?_);unfold Exit.thenS;refine wpS_of_wp ?_;refine wp_mono (JY (n:=18) (env:=[(2,Gl c),(0,.pointer (some ⟨b0,0,none⟩)),(1,.pointer (some ⟨b1,0,none⟩))]) (Q:=fun e env H'=>e= .normal/\bu H' b0 #[.slice none 0 0] 46/\bu H' b1 #[.int .i64 c] 34/\cD (fun x=>x=b0\/x=b1) w.heap H') rfl ?_ (by simp[Act.put]) ?_) ?_
 .exact(((Fk _).drop (by simp[Act.put])).drop (by simp[Act.put])).drop (by simp[Act.put])
 .unfold Gl;((conv=>whnf);repeat(any_goals(first|((refine eN.pos rfl ?_);(conv=>whnf))|(refine Vc.cJ ?_;(conv=>whnf)))))
  refine⟨⟨.tuple #[.agg #[.int .i64 c],.bool true],fun w=>by kernel_rfl,?_⟩⟩;((conv=>whnf);repeat(any_goals((first|((with_reducible refine Vc.cy.held [0,1,2,3] [(2,[1])] mixed (by decide+kernel) ?_))|refine Vc.aq ?_)<;>(intros;(conv=>whnf)))))
  rename_i Ha za ba xa Hx zx bx xx;have ak1:=h0.lt;have ak2:=h1.lt;have Q0:ax w.heap Hx:=xa.but xx (aB _);refine dc.jB (o:=0) (h0.ext Q0) rfl rfl rfl (by show 0<1;omega) ?_;intro H3 nG fR bw;have bx3:=bx.but bw (by omega);((conv=>whnf);repeat(any_goals((first|(refine dc.jB (o:=0) ((h1.ext Q0).but bw cz.symm) rfl rfl rfl (by show 0<1;omega) ?_;intro H4 rN iX cH)|((with_reducible refine Vc.cy.held [0,1,2,3] [(2,[1])] mixed (by decide+kernel) ?_))|refine Vc.aq ?_)<;>(intros;(conv=>whnf)))))
  exact⟨rfl,fR.but cH cz,iX,((Q0.only (F:=fun x=>x=b0\/x=b1)).trans bw fun _ _ e=> .inl e).trans cH fun _ _ e=> .inr e⟩
 .rintro e a' w' ⟨hd,hn,hs,eA,env,hA,he,k1,k2,k3⟩;subst he;exact⟨hd,_,rfl,.tuple #[],by kernel_rfl,⟨_,rfl⟩,rfl,hs,k1,k2,k3⟩
theorem adG (b0 b1:Nat) (w:World):CallsD Tryz.prog 149 #[.pointer (some ⟨b0,0,none⟩),.pointer (some ⟨b1,0,none⟩)] .returning w fun e u' w'=>(∃ v,e= .returned v)/\settle u'= .returning/\dC w w'/\w'.heap=w.heap:=by
 refine callsD_of_wpS Tryz.func149 rfl ?_;intro PV cs hu;obtain⟨fn,tm,todo,df,md,kd,ro⟩:=PV;dsimp only at hu;subst hu;refine wpS_seq (Us (v:= .nilIface) (cs':={fn:=fn,tmps:=tm,todo:=todo,defers:=df,mode:= .returning,kind:=kd,roundOf:=ro}::cs) rfl rfl rfl rfl rfl rfl (by simp) (.inr ⟨rfl,rfl,rfl⟩) ?_);unfold Exit.thenS;refine wpS_of_wp ?_;refine wp_mono (JY (n:=18) (env:=[(2,.nilIface),(0,.pointer (some ⟨b0,0,none⟩)),(1,.pointer (some ⟨b1,0,none⟩))]) (Q:=fun e env H'=>e= .normal/\H'=w.heap) rfl ?_ (by simp[Act.put]) ?_) ?_
 .exact(((Fk _).drop (by simp[Act.put])).drop (by simp[Act.put])).drop (by simp[Act.put])
 ·((conv=>whnf);repeat(any_goals(first|((refine eN.neg rfl ?_);(conv=>whnf))|(refine Vc.cJ ?_;(conv=>whnf)))))
  exact⟨rfl,rfl⟩
 .rintro e a' w' ⟨hd,hn,hs,eA,env,hA,he,k1⟩;subst he;exact⟨hd,_,rfl,.tuple #[],by kernel_rfl,⟨_,rfl⟩,rfl,hs,k1⟩
def Q5 (H':ae) (v:Value) (r:List Fi×Nat):Prop:=∃ a cap,v= .tuple #[.slice a r.1.length cap,.int .i64 r.2]/\j4 H' a r.1/\r.1.length<=500
theorem SL {b:Bs} (h: ¬(b.length<=262144/\b.take 4=[80,65,75,49])):kh b=([],64):=by unfold kh;rw[ak h]
set_option maxHeartbeats 4000000 in
theorem adH (b:Bs) (a:Option Addr) (n cap:Nat) (H:ae) (hr:Row H a (cv b)) (hn:b.length=n) (hc:n<=cap) (hm:cap<=maxLen) (eC:n<=1000000):
  az Tryz.prog 89 [.slice a n cap] H fun v H'=>Q5 H' v (kh b)/\ax H H':=by
 refine⟨fun w hw=> ?_⟩;rw[Tryz.call89];refine⟨dC.refl w,?_⟩;refine calls_of_wp_defers Tryz.func89 rfl ?_;subst hw;refine wp_seq (wp_mono (JY (n:=35) (env:=[(0,.slice a n cap)])
  (Q:=fun e env H'=>e= .normal/\get env 2=some (.pointer (some ⟨w.heap.size,0,none⟩))/\get env 3=some (.pointer (some ⟨w.heap.size+1,0,none⟩))/\bu H' w.heap.size #[.slice none 0 0] 46/\bu H' (w.heap.size+1) #[.int .i64 0] 34/\ax w.heap H'/\H'.size=w.heap.size+2) rfl ?_ (by simp) ?_) ?_)
 .exact(Fk _).drop (by simp)
 ·((conv=>whnf);repeat(any_goals(first|(refine Vc.cJ ?_;(conv=>whnf)))))
  refine aE.alloc rfl rfl ?_;intro H1 jr eC cd;((conv=>whnf);repeat(any_goals(first|(refine Vc.cJ ?_;(conv=>whnf)))))
  refine aE.alloc rfl rfl ?_;intro H2 sr di bh;((conv=>whnf);repeat(any_goals(first|(refine Vc.cJ ?_;(conv=>whnf)))))
  rw[jr]at di ⊢;exact⟨rfl,rfl,rfl,eC.ext bh,di,cd.trans bh,by omega⟩
 rintro e a1 w1 ⟨lZ,wO,jr,ajD,rz,YI,he,h2,h3,k2,k3,kx,ksz⟩;subst he;have t0:a1.tmps[0]? =some (.slice a n cap):=by rw[ajD 0 (by decide)];simp
 have t2:=YI _ _ h2;have t3:=YI _ _ h3;have res: ∀ (a':Act) (w':World) (x y:Value),a'.tmps[2]? =some (.pointer (some ⟨w.heap.size,0,none⟩))->a'.tmps[3]? =some (.pointer (some ⟨w.heap.size+1,0,none⟩))->bu w'.heap w.heap.size #[x] 46->bu w'.heap (w.heap.size+1) #[y] 34->(results Tryz.f89 a'.tmps).run Tryz.prog w'= .ok (.tuple #[x,y]) w':=by
  intro a' w' x y LC h3' ajE ajF;refine aa5 (env:=[(2,.pointer (some ⟨w.heap.size,0,none⟩)),(3,.pointer (some ⟨w.heap.size+1,0,none⟩))]) (((Fk _).drop h3').drop LC) ?_;refine aE.mC ajE rfl rfl ?_;refine⟨rfl,?_⟩
  (conv=>whnf)
  refine aE.mC (o:=0) (v:=y) ajF rfl rfl ?_;exact⟨rfl,rfl⟩
 show Code.wp _ _ _ a1 w1;refine wp_seq (adF rfl rfl rfl rfl rfl rfl (by omega) ?_);have ev2:a1.eval (.tmp 2)= .pointer (some ⟨w.heap.size,0,none⟩):=by simp[Act.eval,t2,dV]
 have ev3:a1.eval (.tmp 3)= .pointer (some ⟨w.heap.size+1,0,none⟩):=by simp[Act.eval,t3,dV]
 rw[ev2,ev3,show a1.defers=[]from lZ];obtain⟨tm,ET⟩: ∃ tm,tm=(a1.put (some 6) (.func (.func 149) #[] #[.pointer (some ⟨w.heap.size,0,none⟩),.pointer (some ⟨w.heap.size+1,0,none⟩)])).tmps:=⟨_,rfl⟩;rw[<-ET];have p0:tm[0]? =some (.slice a n cap):=by rw[ET,JK (by simp)];exact t0
 have p2:tm[2]? =some (.pointer (some ⟨w.heap.size,0,none⟩)):=by rw[ET,JK (by simp)];exact t2
 have p3:tm[3]? =some (.pointer (some ⟨w.heap.size+1,0,none⟩)):=by rw[ET,JK (by simp)];exact t3
 have pn:tm.size=35:=by rw[ET,xo];exact wO
 refine wp_mono (JY (n:=35) (env:=[(0,.slice a n cap),(2,.pointer (some ⟨w.heap.size,0,none⟩)),(3,.pointer (some ⟨w.heap.size+1,0,none⟩))])
  (Q:=fun e env H'=>(e= .ret/\(∃ x y,Q5 H' (.tuple #[x,y]) (kh b)/\bu H' w.heap.size #[x] 46/\bu H' (w.heap.size+1) #[y] 34)/\ax w.heap H')\/(∃ c,e= .panic (vU c)/\kh b=([],c)/\(∃ x y,bu H' w.heap.size #[x] 46/\bu H' (w.heap.size+1) #[y] 34)/\ax w.heap H')) rfl ?_ pn ?_) ?_
 .exact(((Fk _).drop p3).drop p2).drop p0
 .have GK:=kx;have sZ:Row w1.heap a (cv b):=hr.ext kx;generalize w1.heap=Hw at*
  by_cases hlen:n<=262144
  rotate_left
  .have mL:kh b=([],64):=SL (fun h=>hlen (by omega));((conv=>whnf);repeat(any_goals((first|(refine vM (by first|rfl|(rw[bK];omega)|(rw[dA];omega)|(rw[aY];omega)) ?_)|refine Vc.aq ?_)<;>(intros;(conv=>whnf)))))
   exact .inr ⟨64,rfl,mL,⟨_,_,k2,k3⟩,GK⟩
  have Ar:min (n:Int) 4=((min n 4:Nat):Int):=by omega
  obtain⟨m,wF⟩: ∃ m,m=min n 4:=⟨_,rfl⟩;have wG:min (n:Int) 4=(m:Int):=by omega
  have yQ:b.take m=b.take 4:=by
   rcases Nat.le_total n 4 with h|h
   .rw[show m=n by omega,aL (by omega),aL (by omega)]
   .rw[show m=4 by omega]
  have CH:Row Hw a (cv (b.take 4)):=by rw[<-yQ];have:=sZ.take m;rwa[zi]at this
  have mK:(b.take 4).length=m:=by rw[aJ];omega
  have ru:=fun H=>Kg (b.take 4) [80,65,75,49] (by omega) (by decide) H;by_cases Ee:b.take 4=[80,65,75,49]
  rotate_left
  .have mL:kh b=([],64):=SL (fun h=>Ee h.2);have sV:List.isPrefixOf [80,65,75,49] (b.take 4)=false:=by
    rw[gH];intro h;have h:=dH.1 h;exact Ee (h.eq_of_length_le (by rw[aJ];exact Nat.min_le_left _ _)).symm
   rw[sV]at ru;((conv=>whnf);repeat(any_goals((first|(refine dk.nat m wG (by omega) ?_)|(refine ml (l:=b.take 4) rfl rfl rfl CH mK ?_)|(refine(ru _).mono ?_;rintro _ _ ⟨rfl,rfl⟩)|(refine vM (by first|rfl|(rw[bK];omega)|(rw[dA];omega)|(rw[aY];omega)) ?_)|refine Vc.aq ?_)<;>(intros;(conv=>whnf)))))
   exact .inr ⟨64,rfl,mL,⟨_,_,k2,k3⟩,GK⟩
  have sV:List.isPrefixOf [80,65,75,49] (b.take 4)=true:=by rw[Ee];rfl
  rw[sV]at ru;have wS: ∀ Hb,bu Hb Hw.size #[.slice (jM a cap 4 1) (n-4) (cap-4)] 249->ax Hw Hb->jW Hw Hb Hw.size (b.drop 4) (jM a cap 4 1) (cap-4):=fun Hb bb xb=>⟨by rw[aO,hn];exact bb,by(have:=sZ.drop cap 4 1 (by rw[ik];omega));rwa[bQ,JL]at this,by rw[aO];omega,by unfold maxLen at hm ⊢;omega,aB _,xb⟩;have sq:(b.drop 4).length=n-4:=by rw[aO,hn]
  have h4:4<=n:=by have:=aZ List.length Ee;rw[aJ]at this;simp at this;omega
  ((conv=>whnf);repeat(any_goals((first|(refine dk.nat m wG (by omega) ?_)|(refine ml (l:=b.take 4) rfl rfl rfl CH mK ?_)|(refine(ru _).mono ?_;rintro _ _ ⟨rfl,rfl⟩)|(refine sD (by first|rfl|(rw[bU];omega)|(rw[dM];omega)|(rw[aK];omega)) ?_)|(refine dk.nat 4 rfl h4 ?_)|(refine da.build #[.slice (jM a cap 4 1) (n-4) (cap-4)] (by kernel_rfl) ?_)|(rename_i Hb zb bb xb;refine(agH Hw Hw.size (b.drop 4) (jM a cap 4 1) (cap-4) Hb (wS Hb bb xb) (by omega)).mono (fun v H2 h2=> ?_) (fun c H2 h2=> ?_))|refine Vc.aq ?_)<;>(intros;(conv=>whnf)))))
  .obtain⟨wV,⟨oa,oc,vs,rfl,Xd,jz,ER⟩,bh⟩:=h2;have jd:=R8 ((b.drop 4).length+1) (b.drop 4) [] n (by omega) (fun f hf=>by cases hf);have jd: ∀ f∈(ej.iU (b.drop 4) []).1,f.1.length<=n/\f.2.2.length<=n:=jd;have GL:kh b=match pR (ej.iU (b.drop 4) []).1 with|(some A,_)=>(A,0)|(none,_)=>([],64):=by
    unfold kh;exact(av ⟨by omega,Ee⟩).trans (av wV)
   generalize (ej.iU (b.drop 4) []).1=L at*
   have IE:j4 H2 oa L:=⟨vs,jz,ER.ext bh⟩;have iM:=OZ L oa L.length oc H2 IE rfl (by omega) (fun f hf=>by have:=(jd f hf).2;omega);have rL:=afa L;have YJ:=k2.ext bh;have Q6:=k3.ext bh;unfold YH at iM;cases iz:pR L with
   |mk o c=>
    rw[iz]at iM rL GL;cases o with
    |none=>
     dsimp only at iM rL GL;have iL: ¬(c:Int)=0:=by have:=rL.1 rfl;omega
     ((conv=>whnf);repeat(any_goals((first|(refine iM.mono ?_;rintro _ H3 ⟨rfl,bw⟩)|(refine dc.jB (o:=0) (Q6.ext bw) rfl rfl rfl (by show 0<1;omega) ?_;intro H4 gA iX cH;have yy:ax w.heap H4:=((GK.trans bh).trans bw).but cH (by omega))|(refine vM (by first|rfl|(rw[bK];omega)|(rw[dA];omega)|(rw[aY];omega)) ?_)|refine Vc.aq ?_)<;>(intros;(conv=>whnf)))))
     exact .inr ⟨64,rfl,GL,⟨_,_,(YJ.ext bw).but cH (by omega),iX⟩,yy⟩
    |some A=>
     dsimp only at iM rL GL;have iL:c=0:=eH fun h=>by have:=rL.2 h;cases this
     subst iL;((conv=>whnf);repeat(any_goals((first|(refine iM.mono ?_;rintro _ H3 ⟨⟨tb,tm',rfl,pk,ok,fR,iG⟩,bw⟩;have okc:=ok.count;have okf: ∀ k n,ck A k=some n->n.2.length<=1000000000:=(fun k n h=>dh (ok.file k n h).1 (by decide)))|(refine dc.jB (o:=0) (Q6.ext bw) rfl rfl rfl (by show 0<1;omega) ?_;intro H4 gA iX cH;have ak3:=bw.size;have A6:=pk.keep cH (fun e=>by have:=bh.size;omega) (fun e=>by have:=bh.size;omega) (fun x e _=>by subst e;exact .inl (.cL (Q6.ext bw) (by simp[rm]) (by decide)));have YK:=(YJ.ext bw).but cH (by omega);have fW:ax w.heap H4:=((GK.trans bh).trans bw).but cH (by omega))|(refine sD (by first|rfl|(rw[bU];omega)|(rw[dM];omega)|(rw[aK];omega)) ?_)|(refine(adB A6 ok.sorted (by omega) okf).mono ?_;rintro _ H5 ⟨⟨a5,c5,rfl,Qv,kR,_⟩,cE⟩)|(refine dc.jB (o:=0) (YK.ext cE) rfl rfl rfl (by show 0<1;omega) ?_;intro H6 fS oP cV;have w5:=kR.keep cV (fun x e _=>by subst e;exact .cL (YK.ext cE) (by simp[rm]));have YL:=(iX.ext cE).but cV (by omega))|(refine dc.jB (o:=0) YL rfl rfl rfl (by show 0<1;omega) ?_;intro H7 jK uj dq;have ES:=w5.keep dq (fun x e _=>by subst e;exact .cL YL (by simp[rm]));have ajG:=oP.but dq (by omega))|refine Vc.aq ?_)<;>(intros;(conv=>whnf)))))
     have mq:ax w.heap H7:=((fW.trans cE).but cV (aB _)).but dq (by omega);exact .inl ⟨rfl,⟨_,_,by rw[GL];exact⟨a5,c5,rfl,ES,okc⟩,ajG,uj⟩,mq⟩
  .obtain⟨wV,rfl,bh⟩:=h2;have mL:kh b=([],(ej.iU (b.drop 4) []).2):=by unfold kh;rw[av ⟨by omega,Ee⟩,ak wV]
   exact .inr ⟨_,rfl,mL,⟨_,_,k2.ext bh,k3.ext bh⟩,GK.trans bh⟩
 rintro e a4 w4 ⟨hd4,QS,rN,Xe,ak4,hA4,aiz⟩;have q2:a4.tmps[2]? =some (.pointer (some ⟨w.heap.size,0,none⟩)):=by rw[Xe 2 (by decide)];exact p2
 have q3:a4.tmps[3]? =some (.pointer (some ⟨w.heap.size+1,0,none⟩)):=by rw[Xe 3 (by decide)];exact p3
 have Xf:a4.defers=[{target:= .fn (.func 149) #[.pointer (some ⟨w.heap.size,0,none⟩),.pointer (some ⟨w.heap.size+1,0,none⟩)],args:= #[]}]:=hd4;have hinv: ∀ w',(invoke (.fn (.func 149) #[.pointer (some ⟨w.heap.size,0,none⟩),.pointer (some ⟨w.heap.size+1,0,none⟩)]) #[]).run Tryz.prog w'= .ok (.enter 149 #[.pointer (some ⟨w.heap.size,0,none⟩),.pointer (some ⟨w.heap.size+1,0,none⟩)]) w':=fun w'=>Tryz.call149 _ w';have Xg:=jr.trans rN;rcases aiz with ⟨he,⟨x,y,mL,yR,mw⟩,hx⟩|⟨c,he,mL,⟨x,y,yR,mw⟩,hx⟩
 .subst he;show Leaves _ _ _ _ a4.defers .returning w4;rw[Xf];refine leaves_cons (by simp) (hinv w4) (CallsD.mono (adG _ _ w4) ?_);rintro e u' w' ⟨⟨v,rfl⟩,uX,qD,L9⟩;show Leaves _ _ _ _ [] (settle u') w';rw[uX];exact⟨_,res a4 w' x y q2 q3 (by rw[L9];exact yR) (by rw[L9];exact mw),Xg.trans qD,_,rfl,by rw[L9];exact mL,by rw[L9];exact hx⟩
 .subst he;show Leaves _ _ _ _ a4.defers (.panicking (vU c)) w4;rw[Xf];refine leaves_cons (by simp) (hinv w4) (CallsD.mono (aa6 c _ _ _ _ w4 yR mw (by omega)) ?_);rintro e u' w' ⟨⟨v,rfl⟩,uX,qD,hg5,im,cE⟩;show Leaves _ _ _ _ [] (settle u') w';rw[uX];refine⟨_,res a4 w' _ _ q2 q3 hg5 im,Xg.trans qD,_,rfl,?_,cD.trans hx cE fun z hz e=>by rcases e with e|e<;>omega⟩;rw[mL];exact⟨none,0,rfl,j4.nil _ _,aI _⟩
end Go.Proofs.YtphkaogbcfdllaaGreatDoor
namespace Go.uv
def H0:List Int:=[1779033703,3144134277,1013904242,2773480762,1359893119,2600822924,528734635,1541459225]
def RC:List Int:=[1116352408,1899447441,3049323471,3921009573,961987163,1508970993,2453635748,2870763221,3624381080,310598401,607225278,1426881987,1925078388,2162078206,2614888103,3248222580,3835390401,4022224774,264347078,604807628,770255983,1249150122,1555081692,1996064986,2554220882,2821834349,2952996808,3210313671,3336571891,3584528711,113926993,338241895,666307205,773529912,1294757372,1396182291,1695183700,1986661051,2177026350,2456956037,2730485921,2820302411,3259730800,3345764771,3516065817,3600352804,4094571909,275423344,430227734,506948616,659060556,883997877,958139571,1322822218,1537002063,1747873779,1955562222,2024104815,2227730452,2361852424,2428436474,2756734187,3204031479,3329325298]
def PW (l:List Int):Array Value:=(l.map (Value.int .u32)).toArray
def b8:Array Value:=PW H0
def w7:Array Value:=PW RC
def rr (k:Nat) (x:Int):Int:=bits .or .u32 (x / 2 ^ k) (x*2 ^ (32-k) % 4294967296)
def In (x:Int):Prop:=0<=x/\x<=4294967295
theorem aaH (a b:Int):bits .or .u32 a b=bits .or .u32 b a:=by
 simp only[bits,BitVec.or_comm]
theorem agI (op:BinOp) (a b:Int):In (bits op .u32 a b):=by
 have hw: ∀ n:Int,In (IntKind.u32.wrap n):=fun n=>by
  simp only[IntKind.wrap,IntKind.bits,IntKind.signed,In];simp;omega
 unfold bits;cases op<;>first|exact hw _|(simp[In])
theorem aiA: ∀ k:Fin 32,0<k.val->bits .and .u64 (IntKind.u64.wrap (-(k.val:Int))) 31=32-k.val:=by decide+kernel
def s9 (f:Nat->Int) (i:Nat):Value:= .int .u32 (f i)
def z32:Value:= .int .u32 0
def word (B:Nat->Int) (k:Nat):Int:=bits .or .u32 (bits .or .u32 (bits .or .u32 (B (4*k)*16777216) (B (4*k+1)*65536)) (B (4*k+2)*256)) (B (4*k+3))
def YM (x:Int):Int:=bits .xor .u32 (bits .xor .u32 (rr 7 x) (rr 18 x)) (x / 8)
def YN (y:Int):Int:=bits .xor .u32 (bits .xor .u32 (rr 17 y) (rr 19 y)) (y / 1024)
def grow (yS sw a7 a2:Int):Int:=(yS+YM sw+a7+YN a2) % 4294967296
structure Words (B W:Nat->Int):Prop where
 lo: ∀ k,k<16->W k=word B k
 hi: ∀ k,16<=k->k<64->W k=grow (W (k-16)) (W (k-15)) (W (k-7)) (W (k-2))
 wU: ∀ k,0<=W k/\W k<=4294967295
def s8 (f:Nat->Int):Array Value:= #[.int .u32 (f 0),.int .u32 (f 1),.int .u32 (f 2),.int .u32 (f 3),.int .u32 (f 4),.int .u32 (f 5),.int .u32 (f 6),.int .u32 (f 7)]
def z8:Array Value:= #[z32,z32,z32,z32,z32,z32,z32,z32]
def rc (k:Nat):Int:=RC.getD k 0
def kK (f:Nat->Int):Array Value:=s8 f++w7
theorem DM (f:Nat->Int) (i:Nat) (h:i<8):(s8 f)[i]? =some (.int .u32 (f i)):=by
 match i,h with
 |0,_=>rfl
 |1,_=>rfl
 |2,_=>rfl
 |3,_=>rfl
 |4,_=>rfl
 |5,_=>rfl
 |6,_=>rfl
 |7,_=>rfl
theorem F7 (f:Nat->Int) (i:Nat) (h:i<8):(kK f)[i]? =some (.int .u32 (f i)):=by
 unfold kK;rw[eu (show i<(s8 f).size from h),DM f i h]
theorem VL (f:Nat->Int) (k:Nat) (h:k<64):(kK f)[8+k]? =some (.int .u32 (rc k)):=by
 unfold kK;rw[gP (by simp[s8])];have:(s8 f).size=8:=rfl;rw[this,show 8+k-8=k by omega];have hl:RC.length=64:=by decide+kernel
 have hk:k<RC.length:=by omega
 simp[w7,PW,rc,hk]
theorem Wn (k:Nat):0<=rc k/\rc k<=4294967295:=by
 unfold rc;by_cases hk:k<RC.length
 .have: ∀ x∈RC,0<=x/\x<=4294967295:=by decide+kernel
  have:=this RC[k] (List.getElem_mem hk);simpa [hk]using this
 .have:RC[k]? =none:=by simp;omega
  simp[this]
def sh (f:Nat->Int):Nat->Int
 |0=>f 0
 |i+1=>f i
def s7 (f:Nat->Int):List Value:=[.int .u32 (f 0),.int .u32 (f 1),.int .u32 (f 2),.int .u32 (f 3),.int .u32 (f 4),.int .u32 (f 5),.int .u32 (f 6)]
def t1 (f:Nat->Int) (r x:Int):Int:=
 f 7+bits .xor .u32 (bits .xor .u32 (rr 6 (f 4)) (rr 11 (f 4))) (rr 25 (f 4))+bits .xor .u32 (bits .and .u32 (f 4) (f 5)) (bits .and .u32 (bits .xor .u32 IntKind.u32.max (f 4)) (f 6))+r+x
def t2 (f:Nat->Int):Int:=
 bits .xor .u32 (bits .xor .u32 (rr 2 (f 0)) (rr 13 (f 0))) (rr 22 (f 0))+bits .xor .u32 (bits .xor .u32 (bits .and .u32 (f 0) (f 1)) (bits .and .u32 (f 0) (f 2))) (bits .and .u32 (f 1) (f 2))
def nx (f:Nat->Int) (r x:Int):Nat->Int
 |0=>(t1 f r x+t2 f) % 4294967296
 |1=>f 0
 |2=>f 1
 |3=>f 2
 |4=>(f 3+t1 f r x) % 4294967296
 |5=>f 4
 |6=>f 5
 |7=>f 6
 |_=>0
def fin (H R:Nat->Int) (k i:Nat):Int:=if i<k then(H i+R i) % 4294967296 else H i
theorem VM (H R:Nat->Int) (k i:Nat) (h:i<k):fin H R k i=(H i+R i) % 4294967296:=by unfold fin;rw[av h]
theorem O1 (H R:Nat->Int) (k i:Nat) (h:k<=i):fin H R k i=H i:=by unfold fin;rw[ak (by omega)]
theorem afe (H R:Nat->Int):fin H R 0=H:=by funext i;exact O1 H R 0 i (by omega)
theorem agJ (f g:Nat->Int) (k:Nat) (hk:k<8) (h: ∀ i,i≠k->f i=g i):(kK f).setIfInBounds k (.int .u32 (g k))=kK g:=by
 apply dP;intro i;have ez: ∀ f,(kK f).size=8+w7.size:=fun f=>by simp[kK,s8]
 by_cases hi:k=i
 .subst hi;rw[bO (by rw[ez];omega),F7 g k hk]
 .rw[eX hi];by_cases h8:i<8
  .rw[F7 f i h8,F7 g i h8,h i (Ne.symm hi)]
  .unfold kK;rw[gP (show(s8 f).size<=i by show 8<=i;omega),gP (show(s8 g).size<=i by show 8<=i;omega)];rfl
theorem agK (H R:Nat->Int) (k:Nat) (hk:k<8):(kK (fin H R k)).setIfInBounds k (.int .u32 ((H k+R k) % 4294967296))=kK (fin H R (k+1)):=by
 have:=agJ (fin H R k) (fin H R (k+1)) k hk (fun i hi=>by
  unfold fin;by_cases h:i<k
  .rw[av h,av (by omega)]
  .rw[ak h,ak (by omega)])
 rw[VM _ _ _ _ (by omega)]at this;exact this
def PX (H R:Nat->Int) (i:Nat):Int:=(H i+R i) % 4294967296
theorem adI (f g:Nat->Int) (h: ∀ i,i<8->f i=g i):kK f=kK g:=by
 unfold kK s8;rw[h 0 (by omega),h 1 (by omega),h 2 (by omega),h 3 (by omega),h 4 (by omega),h 5 (by omega),h 6 (by omega),h 7 (by omega)]
def wd (B:Nat->Int):Nat->Nat->Int
 |0,_=>0
 |n+1,i=>if i=n then(if n<16 then word B n else grow (wd B n (n-16)) (wd B n (n-15)) (wd B n (n-7)) (wd B n (n-2)))else wd B n i
theorem Kn (B:Nat->Int) (i:Nat): ∀ n,i<n->wd B n i=wd B (i+1) i
 |0,h=>by omega
 |n+1,h=>by
  by_cases hi:i=n
  .rw[hi]
  .have:wd B (n+1) i=wd B n i:=by show(if i=n then _ else wd B n i)=_;rw[ak hi]
   rw[this,Kn B i n (by omega)]
theorem VN (B:Nat->Int) (i:Nat): ∀ n,n<=i->wd B n i=0
 |0,_=>rfl
 |n+1,h=>by
  show(if i=n then _ else wd B n i)=0;rw[ak (by omega),VN B i n (by omega)]
theorem Ut (B:Nat->Int):Words B (wd B 64):=by
 have step: ∀ k,k<64->wd B 64 k=if k<16 then word B k else grow (wd B k (k-16)) (wd B k (k-15)) (wd B k (k-7)) (wd B k (k-2)):=fun k hk=>by
  rw[Kn B k 64 hk];show(if k=k then _ else _)=_;rw[av rfl]
 refine⟨fun k hk=>by rw[step k (by omega),av hk],fun k yO uw=> ?_,fun k=> ?_⟩
 .rw[step k uw,ak (by omega)];have e: ∀ j,0<j->j<=16->wd B k (k-j)=wd B 64 (k-j):=fun j h0 hj=>by rw[Kn B (k-j) k (by omega),Kn B (k-j) 64 (by omega)]
  rw[e 16 (by omega) (by omega),e 15 (by omega) (by omega),e 7 (by omega) (by omega),e 2 (by omega) (by omega)]
 .by_cases hk:k<64
  .rw[step k hk];split
   .exact agI _ _ _
   .unfold grow;omega
  .rw[VN B k 64 (by omega)];omega
def rounds (H W:Nat->Int):Nat->Nat->Int
 |0=>H
 |k+1=>nx (rounds H W k) (rc k) (W k)
def cL (H:Nat->Int) (l:List Int):Nat->Int:=PX H (rounds H (wd (fun i=>l.getD i 0) 64) 64)
def jD:Nat->(Nat->Int)->List Int->(Nat->Int)
 |0,H,_=>H
 |k+1,H,l=>jD k (cL H (l.take 64)) (l.drop 64)
theorem SM (a:Nat): ∀ (b:Nat) (H:Nat->Int) (l:List Int),jD (a+b) H l=jD b (jD a H l) (l.drop (64*a)):=by
 induction a with
 |zero=>intro b H l;simp[jD]
 |succ a ih=>
  intro b H l;rw[show a+1+b=(a+b)+1 by omega];simp only[jD];rw[ih,List.drop_drop,show 64+64*a=64*(a+1)by omega]
theorem ab8 (H:Nat->Int) (l:List Int):jD 1 H l=cL H (l.take 64):=rfl
theorem MV (k:Nat) (H:Nat->Int) (l:List Int):jD (k+1) H l=cL (jD k H l) ((l.drop (64*k)).take 64):=by
 rw[SM k 1,ab8]
theorem RF (k:Nat): ∀ (H:Nat->Int) (l m:List Int),64*k<=l.length->jD k H (l++m)=jD k H l:=by
 induction k with
 |zero=>intros;rfl
 |succ k ih=>
  intro H l m h;simp only[jD];rw[List.take_append_of_le_length (by omega),List.drop_append_of_le_length (by omega),ih _ _ _ (by rw[aO];omega)]
theorem ab9 (q e:Nat) (H:Nat->Int) (l m:List Int) (h:l.length=64*q):jD (q+e) H (l++m)=jD e (jD q H l) m:=by
 rw[SM,RF q H l m (by omega)];congr 1;rw[<-h];simp
def h0 (i:Nat):Int:=H0.getD i 0
def zc (n:Nat):Nat:=(119-n % 64) % 64
theorem VO (n:Nat):(n+1+zc n) % 64=56:=by unfold zc;omega
theorem aff (n k:Nat) (h:k<zc n):(n+1+k) % 64≠56:=by unfold zc at h;omega
theorem Wo (n:Nat):zc n<64:=by unfold zc;omega
def len8 (n:Int):List Int:=[n / 72057594037927936 % 256,n / 281474976710656 % 256,n / 1099511627776 % 256,n / 4294967296 % 256,n / 16777216 % 256,n / 65536 % 256,n / 256 % 256,n % 256]
def pad (l:List Int):List Int:=l++[128]++List.replicate (zc l.length) 0++len8 ((l.length:Int)*8)
theorem Vi (n:Int) (k:Nat) (h:k<8):(len8 n)[k]? =some (n / 2 ^ (8*(7-k)) % 256):=by
 match k,h with
 |0,_=>rfl
 |1,_=>rfl
 |2,_=>rfl
 |3,_=>rfl
 |4,_=>rfl
 |5,_=>rfl
 |6,_=>rfl
 |7,_=>simp[len8]
theorem Sc (n:Int):(len8 n).length=8:=rfl
def qo (l:List Int):Nat->Int:=jD ((pad l).length / 64) h0 (pad l)
def pB (rest:List Int) (total:Nat):List Int:=rest++[128]++List.replicate (zc rest.length) 0++len8 ((total:Int)*8)
theorem RO (rest:List Int) (total:Nat) (h:rest.length<64):(pB rest total).length=if rest.length+9<=64 then 64 else 128:=by
 unfold pB;simp only[au,ay,cu,eT,Sc];unfold zc;split<;>omega
theorem aca (X rest:List Int) (q:Nat) (hX:X.length=64*q) (hr:rest.length<64):
  qo (X++rest)=jD ((pB rest (X++rest).length).length / 64) (jD q h0 X) (pB rest (X++rest).length):=by
 have hz:zc (X++rest).length=zc rest.length:=by unfold zc;rw[au,hX];omega
 have hp:pad (X++rest)=X++pB rest (X++rest).length:=by
  unfold pad pB;rw[hz];simp[bM]
 unfold qo;rw[hp,au,hX,show(64*q+(pB rest (X++rest).length).length) / 64=q+(pB rest (X++rest).length).length / 64 by omega,ab9 q _ h0 X _ hX]
end Go.uv
namespace Go.Proofs.YtphkaogbcfdllaaGreatDoor
open Go Go.Vc Go.uv
theorem adJ (H:ae):az Tryz.prog 146 [] H fun v H'=>v= .agg b8/\ax H H':=by
 refine Vc.az.body Tryz.func146 Tryz.call146 rfl (by decide+kernel) rfl ?_;((conv=>whnf);repeat(any_goals(first|(refine Vc.cJ ?_;(conv=>whnf)))))
 refine aE.alloc rfl rfl ?_;intro H1 jr eC cd;((conv=>whnf);repeat(any_goals(first|(refine Vc.cJ ?_;(conv=>whnf)))))
 refine⟨⟨.agg b8,fun w=>by kernel_rfl,?_⟩⟩;((conv=>whnf);repeat(any_goals(first|(refine Vc.cJ ?_;(conv=>whnf)))))
 refine dc.pW eC rfl rfl rfl (by decide+kernel) ?_;intro H2 sr di bh;((conv=>whnf);repeat(any_goals(first|(refine Vc.cJ ?_;(conv=>whnf)))))
 refine aE.rX di rfl rfl rfl ?_;((conv=>whnf);repeat(any_goals(first|(refine Vc.cJ ?_;(conv=>whnf)))))
 exact⟨rfl,rfl,cd.but bh (aB _)⟩
theorem adK (H:ae):az Tryz.prog 147 [] H fun v H'=>v= .agg w7/\ax H H':=by
 refine Vc.az.body Tryz.func147 Tryz.call147 rfl (by decide+kernel) rfl ?_;((conv=>whnf);repeat(any_goals(first|(refine Vc.cJ ?_;(conv=>whnf)))))
 refine aE.alloc rfl rfl ?_;intro H1 jr eC cd;((conv=>whnf);repeat(any_goals(first|(refine Vc.cJ ?_;(conv=>whnf)))))
 refine⟨⟨.agg w7,fun w=>by kernel_rfl,?_⟩⟩;((conv=>whnf);repeat(any_goals(first|(refine Vc.cJ ?_;(conv=>whnf)))))
 refine dc.pW eC rfl rfl rfl (by decide+kernel) ?_;intro H2 sr di bh;((conv=>whnf);repeat(any_goals(first|(refine Vc.cJ ?_;(conv=>whnf)))))
 refine aE.rX di rfl rfl rfl ?_;((conv=>whnf);repeat(any_goals(first|(refine Vc.cJ ?_;(conv=>whnf)))))
 exact⟨rfl,rfl,cd.but bh (aB _)⟩
theorem adL (H:ae):az Tryz.prog 155 [] H fun v H'=>v= .agg w7/\ax H H':=by
 refine Vc.az.body Tryz.func155 Tryz.call155 rfl (by decide+kernel) rfl ?_;((conv=>whnf);repeat(any_goals(first|(refine Vc.cJ ?_;(conv=>whnf)))))
 refine aE.alloc rfl rfl ?_;intro H1 jr eC cd;((conv=>whnf);repeat(any_goals(first|(refine Vc.cJ ?_;(conv=>whnf)))))
 refine⟨⟨.agg w7,fun w=>by kernel_rfl,?_⟩⟩;((conv=>whnf);repeat(any_goals(first|(refine Vc.cJ ?_;(conv=>whnf)))))
 refine dc.pW eC rfl rfl rfl (by decide+kernel) ?_;intro H2 sr di bh;((conv=>whnf);repeat(any_goals(first|(refine Vc.cJ ?_;(conv=>whnf)))))
 refine aE.rX di rfl rfl rfl ?_;((conv=>whnf);repeat(any_goals(first|(refine Vc.cJ ?_;(conv=>whnf)))))
 exact⟨rfl,rfl,cd.but bh (aB _)⟩
theorem DH (k:Nat) (hk:k<=32) (x:Int):nA .u32 x k=x / 2 ^ k:=by
 unfold nA;rw[eU,gL (by simpa [IntKind.bits]using hk)];exact Int.fdiv_eq_ediv_of_nonneg _ (Int.pow_nonneg (by decide))
theorem wrap32 (x:Int):IntKind.u32.wrap x=x % 4294967296:=by
 simp[IntKind.wrap,IntKind.bits,IntKind.signed]
theorem FX (k:Nat) (hk:k<=32) (x:Int):rv .u32 x k=x*2 ^ k % 4294967296:=by
 unfold rv;rw[eU,gL (by simpa [IntKind.bits]using hk),wrap32]
theorem Ko (a b:Int):du .u32 .or a b=bits .or .u32 a b:=rfl
theorem Uu (x:Int) (m:Int) (h0:0<=m) (h1:m<=32) (H:ae):az Tryz.prog 157 [.int .u32 x,.int .i64 m] H fun v H'=>v= .int .u32 (rr m.toNat x)/\H=H':=by
 refine Vc.az.body Tryz.func157 Tryz.call157 rfl (by decide+kernel) rfl ?_;((conv=>whnf);repeat(any_goals(first|(refine Vc.cJ ?_;(conv=>whnf)))))
 refine⟨?_,rfl⟩;obtain⟨k,rfl⟩:=Int.eq_ofNat_of_zero_le h0;show Vc.one [.int .u32 _]=_;simp only[one,Ko];rw[DH k (by omega),show(32:Int)-(k:Int)=((32-k:Nat):Int)by omega,FX _ (by omega)];rfl
theorem Uv (x:Int) (m:Int) (h0:m<0) (h1: -32<m) (H:ae):az Tryz.prog 193 [.int .u32 x,.int .i64 m] H fun v H'=>v= .int .u32 (rr (-m).toNat x)/\H=H':=by
 obtain⟨k,iK⟩:=Int.eq_ofNat_of_zero_le (show 0<= -m by omega);obtain rfl:m= -(k:Int):=by omega
 have e1:du .u64 .and (IntKind.u64.wrap (-(k:Int))) 31=((32-k:Nat):Int):=(aiA ⟨k,by omega⟩ (by show 0<k;omega)).trans (by show(32:Int)-(k:Int)=_;omega);refine Vc.az.body Tryz.func193 Tryz.call193 rfl (by decide+kernel) rfl ?_;((conv=>whnf);repeat(any_goals(first|(refine Vc.cJ ?_;(conv=>whnf)))))
 refine⟨?_⟩
 (conv=>whnf)
 rw[e1];((conv=>whnf);repeat(any_goals(first|(refine Vc.cJ ?_;(conv=>whnf)))))
 refine⟨?_,rfl⟩;simp only[one,Ko];rw[show(32:Int)-((32-k:Nat):Int)=(k:Int)by omega,DH k (by omega),FX _ (by omega),aaH];rw[show(- -(k:Int)).toNat=k by omega];rfl
theorem Dz (x:UInt8):rv .u32 x.toNat 24=x.toNat*16777216/\rv .u32 x.toNat 16=x.toNat*65536/\rv .u32 x.toNat 8=x.toNat*256:=by
 have:=x.toNat_lt;refine⟨?_,?_,?_⟩
 .have:=FX 24 (by omega) (x.toNat:Int);rw[show((24:Nat):Int)=24 from rfl]at this;rw[this];omega
 .have:=FX 16 (by omega) (x.toNat:Int);rw[show((16:Nat):Int)=16 from rfl]at this;rw[this];omega
 .have:=FX 8 (by omega) (x.toNat:Int);rw[show((8:Nat):Int)=8 from rfl]at this;rw[this];omega
theorem Vj (x:Int):nA .u32 x 3=x / 8/\nA .u32 x 10=x / 1024:=by
 refine⟨?_,?_⟩
 .have:=DH 3 (by omega) x;exact this
 .have:=DH 10 (by omega) x;exact this
def ints (l:List UInt8):List Int:=l.map fun b=>(b.toNat:Int)
theorem J6 (l:List UInt8) (i:Nat):(ints l).getD i 0=((l.getD i 0).toNat:Int):=by
 unfold ints;rw[aT,aT,dK];cases l[i]?<;>simp
theorem nL (l:List UInt8):(ints l).length=l.length:=by simp[ints]
theorem Vk (yS sw a7 a2:Int):(((yS+du .u32 .xor (du .u32 .xor (rr (- -7:Int).toNat sw) (rr (- -18:Int).toNat sw)) (nA .u32 sw 3)) % 4294967296+a7) % 4294967296+
  du .u32 .xor (du .u32 .xor (rr (- -17:Int).toNat a2) (rr (- -19:Int).toNat a2)) (nA .u32 a2 10)) % 4294967296=grow yS sw a7 a2:=by
 rw[(Vj sw).1,(Vj a2).2];show(((yS+YM sw) % 4294967296+a7) % 4294967296+YN a2) % 4294967296=_;unfold grow;omega
theorem afg (f:Nat->Int): ∀ u∈s7 f,jt u=true:=by
 intro v hv;simp[s7]at hv;rcases hv with h|h|h|h|h|h|h<;>subst h<;>rfl
theorem agL (f:Nat->Int):over (s8 f) (0+1*1) (s7 f)=s8 (sh f):=by kernel_rfl
theorem ahO (f g:Nat->Int) (x y:Int) (h0:x=g 0) (h1:sh f 1=g 1) (h2:sh f 2=g 2) (h3:sh f 3=g 3) (h4:y=g 4) (h5:sh f 5=g 5) (h6:sh f 6=g 6) (h7:sh f 7=g 7):
  ((s8 (sh f)).setIfInBounds 0 (.int .u32 x)).setIfInBounds 4 (.int .u32 y)=s8 g:=by
 unfold s8;rw[<-h0,<-h1,<-h2,<-h3,<-h4,<-h5,<-h6,<-h7];rfl
theorem Pl (f:Nat->Int) (r x:Int):
  ((s8 (sh f)).setIfInBounds 0 (.int .u32 (((((((f 7+du .u32 .xor (du .u32 .xor (rr (- -6:Int).toNat (f 4)) (rr (- -11:Int).toNat (f 4))) (rr (- -25:Int).toNat (f 4))) % 4294967296+
   du .u32 .xor (du .u32 .and (f 4) (f 5)) (du .u32 .and (du .u32 .xor (if IntKind.u32.signed then-1 else IntKind.u32.max) (f 4)) (f 6))) % 4294967296+r) % 4294967296+x) % 4294967296)+
   ((du .u32 .xor (du .u32 .xor (rr (- -2:Int).toNat (f 0)) (rr (- -13:Int).toNat (f 0))) (rr (- -22:Int).toNat (f 0))+
    du .u32 .xor (du .u32 .xor (du .u32 .and (f 0) (f 1)) (du .u32 .and (f 0) (f 2))) (du .u32 .and (f 1) (f 2))) % 4294967296)) % 4294967296))).setIfInBounds 4
   (.int .u32 ((f 3+(((((f 7+du .u32 .xor (du .u32 .xor (rr (- -6:Int).toNat (f 4)) (rr (- -11:Int).toNat (f 4))) (rr (- -25:Int).toNat (f 4))) % 4294967296+
   du .u32 .xor (du .u32 .and (f 4) (f 5)) (du .u32 .and (du .u32 .xor (if IntKind.u32.signed then-1 else IntKind.u32.max) (f 4)) (f 6))) % 4294967296+r) % 4294967296+x) % 4294967296)) % 4294967296))=s8 (nx f r x):=by
 refine ahO f (nx f r x) _ _ ?_ rfl rfl rfl ?_ rfl rfl rfl
 .show _=(t1 f r x+t2 f) % 4294967296;unfold t1 t2;show _=(f 7+du .u32 .xor (du .u32 .xor (rr (- -6:Int).toNat (f 4)) (rr (- -11:Int).toNat (f 4))) (rr (- -25:Int).toNat (f 4))+du .u32 .xor (du .u32 .and (f 4) (f 5)) (du .u32 .and (du .u32 .xor (if IntKind.u32.signed then-1 else IntKind.u32.max) (f 4)) (f 6))+r+x+(du .u32 .xor (du .u32 .xor (rr (- -2:Int).toNat (f 0)) (rr (- -13:Int).toNat (f 0))) (rr (- -22:Int).toNat (f 0))+
    du .u32 .xor (du .u32 .xor (du .u32 .and (f 0) (f 1)) (du .u32 .and (f 0) (f 2))) (du .u32 .and (f 1) (f 2)))) % 4294967296
  generalize du .u32 .xor (du .u32 .xor (rr (- -6:Int).toNat (f 4)) (rr (- -11:Int).toNat (f 4))) (rr (- -25:Int).toNat (f 4))=A
  generalize du .u32 .xor (du .u32 .and (f 4) (f 5)) (du .u32 .and (du .u32 .xor (if IntKind.u32.signed then-1 else IntKind.u32.max) (f 4)) (f 6))=B
  generalize du .u32 .xor (du .u32 .xor (rr (- -2:Int).toNat (f 0)) (rr (- -13:Int).toNat (f 0))) (rr (- -22:Int).toNat (f 0))=C
  generalize du .u32 .xor (du .u32 .xor (du .u32 .and (f 0) (f 1)) (du .u32 .and (f 0) (f 2))) (du .u32 .and (f 1) (f 2))=D
  omega
 .show _=(f 3+t1 f r x) % 4294967296;unfold t1;show _=(f 3+(f 7+du .u32 .xor (du .u32 .xor (rr (- -6:Int).toNat (f 4)) (rr (- -11:Int).toNat (f 4))) (rr (- -25:Int).toNat (f 4))+du .u32 .xor (du .u32 .and (f 4) (f 5)) (du .u32 .and (du .u32 .xor (if IntKind.u32.signed then-1 else IntKind.u32.max) (f 4)) (f 6))+r+x)) % 4294967296;generalize du .u32 .xor (du .u32 .xor (rr (- -6:Int).toNat (f 4)) (rr (- -11:Int).toNat (f 4))) (rr (- -25:Int).toNat (f 4))=A
  generalize du .u32 .xor (du .u32 .and (f 4) (f 5)) (du .u32 .and (du .u32 .xor (if IntKind.u32.signed then-1 else IntKind.u32.max) (f 4)) (f 6))=B
  omega
theorem Vl (f:Nat->Int) (i:Nat) (h:i<8):(kK f)[0+0+i]? =some (.int .u32 (f i)):=by rw[aQ];exact F7 f i h
theorem agM (f:Nat->Int) (i:Nat) (h:i<64):(kK f)[0+8+i]? =some (.int .u32 (rc i)):=by rw[aQ];exact VL f i h
theorem Vm (f:Nat->Int) (i:Nat) (h:i<8):(s8 f)[0+i]? =some (.int .u32 (f i)):=by rw[aQ];exact DM f i h
theorem TF (n:Nat) (f:Nat->Value) (z:Value) (k i:Nat) (h:i<n) (hk:i<k):(Vc.qM n f z k)[0+i]? =some (f i):=by rw[aQ];exact Vc.NV n f z k i h hk
theorem afh (f:Nat->Int):(kK f).size=72:=by
 unfold kK;rw[Array.size_append];have:w7.size=64:=by decide+kernel
 rw[this];rfl
theorem adM (f:Nat->Int): ∀ u∈(s8 f).toList,jt u=true:=by
 intro v hv;simp[s8]at hv;rcases hv with h|h|h|h|h|h|h|h<;>subst h<;>rfl
set_option maxHeartbeats 2000000 in
theorem NG (F:Nat->Int) (l:List UInt8) (hl:64<=l.length) (H:ae) (bt:Nat) (cW:bu H bt (kK F) 240) (a:Option Addr) (n cap:Nat) (hn:l.length=n) (hr:Row H a (cv l)) (yC:n<=140737488355328):
  az Tryz.prog 148 [.pointer (some ⟨bt,0,none⟩),.slice a n cap] H fun v H'=>v= .tuple #[]/\bu H' bt (kK (cL F (ints l))) 240/\fw bt H H':=by
 obtain⟨W,hW⟩: ∃ W,W=wd (fun i=>(ints l).getD i 0) 64:=⟨_,rfl⟩;have sT:Words (fun i=>(ints l).getD i 0) W:=hW▸Ut _;obtain⟨rM,EB,Ma⟩:=sT;have yQ:=cW.lt;refine Vc.az.body Tryz.func148 Tryz.call148 rfl (by decide+kernel) rfl ?_;((conv=>whnf);repeat(any_goals(first|(refine Vc.cJ ?_;(conv=>whnf)))))
 refine aE.alloc rfl rfl ?_;intro H1 jr eC cd;((conv=>whnf);repeat(any_goals(first|(refine Vc.cJ ?_;(conv=>whnf)))))
 refine dt.intro (fun(k:Nat)=>[(16,.int .i64 k)]) (fun k H'=>k<=64/\bu H' H.size (Vc.qM 64 (s9 W) z32 k) 237/\ax H H') (fun k=>64-k) 0 ⟨rfl,aF⟩ ⟨by omega,by rw[Vc.Sn];exact eC,cd⟩ ?_;intro k H2 ⟨hk,di,bh⟩;by_cases yO:k<16
 .have cT:=hr.ext bh;((conv=>whnf);repeat(any_goals(first|((refine cm.bytes cT hn (by omega) (by omega) ?_;intro _ _ _ hc);(conv=>whnf))|((refine aE.load rfl (by assumption) ?_);(conv=>whnf))|((refine fm.Vw ?_);(conv=>whnf))|((refine db.nat k rfl (by omega) ?_);(conv=>whnf))|(refine Vc.cJ ?_;(conv=>whnf)))))
  refine dc.jB di rfl rfl rfl (by rw[Vc.yZ];omega) ?_;intro H3 nG fR bw;((conv=>whnf);repeat(any_goals(first|(refine Vc.cJ ?_;(conv=>whnf)))))
  refine⟨k+1,⟨rfl,aF⟩,⟨by omega,?_,bh.but bw (aB _)⟩,by omega⟩;have e:du .u32 .or (du .u32 .or (du .u32 .or (rv .u32 (l.getD (4*(k:Int)).toNat 0).toNat 24) (rv .u32 (l.getD (4*(k:Int)+1).toNat 0).toNat 16)) (rv .u32 (l.getD (4*(k:Int)+2).toNat 0).toNat 8)) (l.getD (4*(k:Int)+3).toNat 0).toNat=W k:=by
   rw[(Dz _).1,(Dz _).2.1,(Dz _).2.2,rM k yO];simp only[word,J6,Ko];rw[show(4*(k:Int)).toNat=4*k by omega,show(4*(k:Int)+1).toNat=4*k+1 by omega,show(4*(k:Int)+2).toNat=4*k+2 by omega,show(4*(k:Int)+3).toNat=4*k+3 by omega]
  rw[aQ]at fR;have:=Vc.JN 64 (s9 W) z32 k (by omega);rw[<-this];rw[e]at fR;exact fR
 .by_cases uw:k<64
  .have hc: ∀ j,j<k->(Vc.qM 64 (s9 W) z32 k)[0+j]? =some (.int .u32 (W j)):=fun j hj=>by rw[aQ,Vc.NV _ _ _ _ _ (by omega) hj];rfl
   have q:=fun j=>Ma j;((conv=>whnf);repeat(any_goals(first|((refine fm.B5 ?_);(conv=>whnf))|((refine db.nat (k-15) (by omega) (by omega) ?_);(conv=>whnf))|((refine db.nat (k-2) (by omega) (by omega) ?_);(conv=>whnf))|((refine db.nat (k-16) (by omega) (by omega) ?_);(conv=>whnf))|((refine db.nat (k-7) (by omega) (by omega) ?_);(conv=>whnf))|((refine db.nat k rfl (by omega) ?_);(conv=>whnf))|(((with_reducible apply aE.mC di);rfl;(focus(exact hc _ (by omega))));(conv=>whnf))|((refine(Uv _ _ (by omega) (by omega) _).mono ?_;rintro _ _ ⟨rfl,rfl⟩);(conv=>whnf))|(refine Vc.cJ ?_;(conv=>whnf)))))
   refine dc.jB di rfl rfl rfl (by rw[Vc.yZ];omega) ?_;intro H3 nG fR bw;((conv=>whnf);repeat(any_goals(first|(refine Vc.cJ ?_;(conv=>whnf)))))
   refine⟨k+1,⟨rfl,aF⟩,⟨by omega,?_,bh.but bw (aB _)⟩,by omega⟩;rw[aQ]at fR;have:=Vc.JN 64 (s9 W) z32 k (by omega);rw[<-this];have e:W k=_:=EB k (by omega) uw;rw[show s9 W k= .int .u32 (W k)from rfl,e];rw[Vk]at fR;exact fR
  .obtain rfl:k=64:=by omega
   clear eC cd;have Li:=cW.ext bh;((conv=>whnf);repeat(any_goals(first|(refine Vc.cJ ?_;(conv=>whnf)))))
   refine aE.aek (cs:=s8 F) Li rfl rfl rfl (fun j v hv=> ?_) ?_
   .have hj:j<8:=(aP.1 hv).1;rw[show 0+0+j=j by omega,F7 F j hj,<-hv,DM F j hj]
   ((conv=>whnf);repeat(any_goals(first|(refine Vc.cJ ?_;(conv=>whnf)))))
   refine aE.alloc rfl rfl ?_;intro H3 nG fR bw;((conv=>whnf);repeat(any_goals(first|(refine Vc.cJ ?_;(conv=>whnf)))))
   refine dc.pW fR rfl rfl rfl (adM F) ?_;intro H4 rN iX cH;((conv=>whnf);repeat(any_goals(first|(refine Vc.cJ ?_;(conv=>whnf)))))
   have qz:=di.lt;have cz:H.size≠H2.size:=by omega
   have oN:=(di.ext bw).but cH cz;have Xh:=(Li.ext bw).but cH (by omega);refine dt.intro (fun(k:Nat)=>[(100,.int .i64 k)]) (fun k H'=>k<=64/\bu H' H2.size (s8 (rounds F W k)) 235/\fw H2.size H4 H') (fun k=>64-k) 0 ⟨rfl,aF⟩ ⟨by omega,iX,cD.refl _ _⟩ ?_;intro k H5 ⟨hk,im,cE⟩;by_cases uw:k<64
   .have EU:=oN.but cE cz;have Ef:=Xh.but cE (by omega);generalize hR:rounds F W k=R at im
    have YO:=Wn k;have YP:=Ma k;((conv=>whnf);repeat(any_goals(first|((refine fm.B5 ?_);(conv=>whnf))|((refine db.nat _ rfl (by decide) ?_);(conv=>whnf))|((refine db.nat k rfl (by omega) ?_);(conv=>whnf))|(((with_reducible apply aE.mC im);rfl;rfl);(conv=>whnf))|((refine(Uv _ _ (by omega) (by omega) _).mono ?_;rintro _ _ ⟨rfl,rfl⟩);(conv=>whnf))|(((with_reducible apply aE.mC Ef);rfl;(focus(exact agM F k uw)));(conv=>whnf))|(((with_reducible apply aE.mC EU);rfl;(focus(exact TF _ _ _ _ _ uw uw)));(conv=>whnf))|((refine dk.nat 1 rfl (by decide) ?_);(conv=>whnf))|((refine dk.nat 7 rfl (by decide) ?_);(conv=>whnf))|(refine Vc.cJ ?_;(conv=>whnf)))))
    have jz:Row H5 (some ⟨Array.size H2,0,none⟩) (s7 R):=⟨.inr ⟨_,_,rfl,fun j v hj=>by
     have h7:j<7:=(aH.1 hj).1;rw[aQ,im.cell,DM R j (by omega),<-hj]
     match j,h7 with
     |0,_=>rfl
     |1,_=>rfl
     |2,_=>rfl
     |3,_=>rfl
     |4,_=>rfl
     |5,_=>rfl
     |6,_=>rfl⟩⟩
    refine cP.copy (i:=Tryz.t234) (k:=7) (cs:=s7 R) rfl rfl (fun w=>rfl) rfl rfl (fun w hw=>C8 jz rfl w hw) (fun _=>rfl) im (by show 0+1*1+7<=8;omega) (afg R) ?_;intro H6 Mb oP cV;rw[agL]at oP;((conv=>whnf);repeat(any_goals(first|((refine fm.B5 ?_);(conv=>whnf))|((refine db.nat _ rfl (by decide) ?_);(conv=>whnf))|(((with_reducible apply aE.mC oP);rfl;rfl);(conv=>whnf))|(refine Vc.cJ ?_;(conv=>whnf)))))
    refine dc.jB oP rfl rfl rfl (by show 0+0<8;omega) ?_;intro H7 EO uj dq;((conv=>whnf);repeat(any_goals(first|((refine db.nat _ rfl (by decide) ?_);(conv=>whnf))|(refine Vc.cJ ?_;(conv=>whnf)))))
    refine dc.jB uj rfl rfl rfl (by rw[cZ];show 0+4<8;omega) ?_;intro H8 L2 qC gx;((conv=>whnf);repeat(any_goals(first|(refine Vc.cJ ?_;(conv=>whnf)))))
    refine⟨k+1,⟨rfl,aF⟩,⟨by omega,?_,((cE.trans cV fun _ _=>id).trans dq fun _ _=>id).trans gx fun _ _=>id⟩,by omega⟩;have:=Pl R (rc k) (W k);show bu H8 _ (s8 (nx (rounds F W k) (rc k) (W k))) _;rw[hR,<-this];exact qC
   .obtain rfl:k=64:=by omega
    have Ef:=Xh.but cE (by omega);((conv=>whnf);repeat(any_goals(first|(refine Vc.cJ ?_;(conv=>whnf)))))
    refine dt.intro (fun(k:Nat)=>[(179,.int .i64 k)]) (fun k H'=>k<=8/\bu H' bt (kK (fin F (rounds F W 64) k)) 240/\fw bt H5 H') (fun k=>8-k) 0 ⟨rfl,aF⟩ ⟨by omega,by rw[afe];exact Ef,cD.refl _ _⟩ ?_;intro j H6 ⟨hj,yz,cV⟩;by_cases h8:j<8
    .have oP:=im.but cV (by omega);((conv=>whnf);repeat(any_goals(first|((refine fm.B5 ?_);(conv=>whnf))|((refine db.nat j rfl (by omega) ?_);(conv=>whnf))|(((with_reducible apply aE.mC yz);rfl;(focus(exact Vl _ _ h8)));(conv=>whnf))|(((with_reducible apply aE.mC oP);rfl;(focus(exact Vm _ _ h8)));(conv=>whnf))|(refine Vc.cJ ?_;(conv=>whnf)))))
     refine dc.jB (o:=0+0+j) yz rfl rfl rfl (by rw[afh];omega) ?_;intro H7 EO Eg dq;((conv=>whnf);repeat(any_goals(first|(refine Vc.cJ ?_;(conv=>whnf)))))
     refine⟨j+1,⟨rfl,aF⟩,⟨by omega,?_,cV.trans dq fun _ _=>id⟩,by omega⟩;rw[<-agK F _ j h8,<-O1 F (rounds F W 64) j j (aB _)];rw[aQ]at Eg;rw[O1 F (rounds F W 64) j j (aB _)]at Eg ⊢;exact Eg
    .obtain rfl:j=8:=by omega
     ((conv=>whnf);repeat(any_goals(first|(refine Vc.cJ ?_;(conv=>whnf)))))
     refine⟨rfl,?_,?_⟩
     .have:kK (cL F (ints l))=kK (fin F (rounds F W 64) 8):=adI _ _ fun i hi=>by rw[VM _ _ _ _ hi,hW];rfl
      rw[this];exact yz
     .have e4:ax H H4:=(bh.trans bw).but cH (by omega);have e5:ax H H5:=e4.but cE (by omega);exact e5.only.trans cV fun _ _=>id
end Go.Proofs.YtphkaogbcfdllaaGreatDoor
namespace Go.Proofs.YtphkaogbcfdllaaGreatDoor
open Go Go.Vc
structure Part where
 a:Option Addr
 n:Nat
 cap:Nat
 l:List UInt8
def Part.val (p:Part):Value:= .slice p.a p.n p.cap
structure BN (H:ae) (p:Part):Prop where
 len:p.l.length=p.n
 cap:p.n<=p.cap
 row:Row H p.a (cv p.l)
theorem BN.ext {H H':ae} {p:Part} (h:BN H p) (k:ax H H'):BN H' p:=⟨h.len,h.cap,h.row.ext k⟩
structure v8 (H:ae) (pa:Option Addr) (ps:List Part):Prop where
 row:Row H pa (ps.map Part.val)
 each: ∀ p∈ps,BN H p
theorem v8.ext {H H':ae} {pa:Option Addr} {ps:List Part} (h:v8 H pa ps) (k:ax H H'):v8 H' pa ps:=⟨h.row.ext k,fun p hp=>(h.each p hp).ext k⟩
theorem cm.part {H:ae} {pa:Option Addr} {ps:List Part} {n:Nat} {i:Int} {K:Addr->Prop} (h:v8 H pa ps) (hn:ps.length=n) (k:Nat) (hi:i=k) (hk:k<ps.length)
  (hK: ∀ b o,pa=some ⟨b,o,none⟩->hcell H ⟨b,o+k,none⟩=some ps[k].val->K ⟨b,o+k,none⟩):cm pa n 1 i K:=by
 obtain⟨b,o,ha,_,hc⟩:=h.row.at (by rw[dn];omega);subst hi;refine⟨by omega,by omega,⟨b,o,none⟩,ha,?_⟩;rw[rA,eU,bQ];exact hK b o ha (hc _ _ (by simp[hk]))
end Go.Proofs.YtphkaogbcfdllaaGreatDoor
namespace Go.Proofs.YtphkaogbcfdllaaGreatDoor
open Go Go.Vc Go.uv
def ix (l:List UInt8):List UInt8:=(List.range 32).map fun i=>UInt8.ofNat (qo (ints l) (i / 4) / 2 ^ (24-8*(i % 4)) % 256).toNat
theorem vG (l:List UInt8):(ix l).length=32:=by simp[ix]
theorem Fl (a b:List UInt8):ints (a++b)=ints a++ints b:=by simp[ints]
theorem adN (a:List UInt8) (k:Nat):(ints a).take k=ints (a.take k):=by simp[ints]
theorem adO (a:List UInt8) (k:Nat):(ints a).drop k=ints (a.drop k):=by simp[ints]
theorem acb {B B':Nat->Int} (h: ∀ i,i<64->B i=B' i) {k:Nat} (hk:k<16):word B k=word B' k:=by
 unfold word;rw[h _ (by omega),h _ (by omega),h _ (by omega),h _ (by omega)]
theorem Uw {B B':Nat->Int} (h: ∀ i,i<64->B i=B' i): ∀ n,wd B n=wd B' n
 |0=>rfl
 |n+1=>by
  have ih:=Uw h n;funext i
  show(if i=n then(if n<16 then word B n else grow (wd B n (n-16)) (wd B n (n-15)) (wd B n (n-7)) (wd B n (n-2)))else wd B n i)=(if i=n then(if n<16 then word B' n else grow (wd B' n (n-16)) (wd B' n (n-15)) (wd B' n (n-7)) (wd B' n (n-2)))else wd B' n i);rw[ih];by_cases hn:n<16
  .rw[acb h hn]
  .simp only[ak hn]
theorem TG (F:Nat->Int) {l m:List Int} (h: ∀ i,i<64->l.getD i 0=m.getD i 0):cL F l=cL F m:=by
 unfold cL;rw[Uw h]
theorem Og (F:Nat->Int) (l:List Int):cL F (l.take 64)=cL F l:=by
 refine TG F fun i hi=> ?_;rw[aT,aT,dU,av hi]
def gw (ps:List Part):List UInt8:=ps.flatMap (·.l)
theorem TI (ps:List Part) (k:Nat) (h:k<ps.length):gw (ps.take (k+1))=gw (ps.take k)++ps[k].l:=by
 rw[List.take_succ_eq_append_getElem h];unfold gw;rw[dZ,eG,List.flatMap_nil,dD]
theorem RP (ps:List Part) (k:Nat):(gw (ps.take k)).length<=(gw ps).length:=by
 have:gw ps=gw (ps.take k)++gw (ps.drop k):=by
  unfold gw;rw[<-dZ,dF]
 rw[this,au];omega
def r8 (rest:List UInt8) (n:Int) (e j i:Nat):UInt8:=
 if e-8<=i/\i<e-8+j then UInt8.ofNat (n / 2 ^ (8*(7-(i-(e-8)))) % 256).toNat
 else if i<rest.length then rest.getD i 0 else if i=rest.length then 128 else 0
def lX (r:Nat):Nat:=if r+9 > 64 then 128 else 64
theorem afi (rest:List UInt8) (total:Nat) (hr:rest.length<64) (i:Nat) (hi:i<lX rest.length):
  ((r8 rest ((total:Int)*8) (lX rest.length) 8 i).toNat:Int)=(pB (ints rest) total).getD i 0:=by
 have hl:(pB (ints rest) total).length=lX rest.length:=by
  rw[RO _ _ (by rw[nL];exact hr),nL];unfold lX;split<;>split<;>omega
 have he:lX rest.length=rest.length+1+zc rest.length+8:=by
  have:(pB (ints rest) total).length=rest.length+1+zc rest.length+8:=by
   unfold pB;simp only[au,ay,cu,eT,Sc,nL]
  omega
 rw[aT];unfold r8 pB;rw[nL];by_cases h1:lX rest.length-8<=i
 .rw[av (by omega),bA (by simp[nL];omega)];have e1:i-(ints rest++[128]++List.replicate (zc rest.length) 0).length=i-(lX rest.length-8):=by simp[nL];omega
  rw[e1,Vi _ _ (by omega),Option.getD_some];generalize ((total:Int)*8 / 2 ^ (8*(7-(i-(lX rest.length-8)))))=y
  have h1:0<=y % 256:=by omega
  have h2:y % 256<256:=by omega
  generalize y % 256=z at h1 h2 ⊢
  have:=gQ (show z.toNat<256 by omega);simp only[fJ];omega
 .rw[ak (by omega),bV (by simp[nL];omega)];by_cases h2:i<rest.length
  .rw[av h2,bM,bV (by rw[nL];exact h2),<-aT,J6]
  .rw[ak h2];by_cases h3:i=rest.length
   .rw[av h3,bM,bA (by rw[nL];omega),nL,h3,Nat.sub_self];rfl
   .rw[ak h3,bA (by simp[nL];omega)];have:i-(ints rest++[128]).length<zc rest.length:=by simp[nL];omega
    rw[List.getElem?_replicate,av this];rfl
theorem Sd (rest:List UInt8) (n:Int) (e i:Nat):r8 rest n e 0 i=if i<rest.length then rest.getD i 0 else if i=rest.length then 128 else 0:=by
 unfold r8;rw[ak (by omega)]
theorem acd (rest:List UInt8) (n:Int) (e j i:Nat) (h:i≠e-8+j):r8 rest n e j i=r8 rest n e (j+1) i:=by
 unfold r8;by_cases h1:e-8<=i/\i<e-8+j
 .rw[av h1,av (by omega)]
 .rw[ak h1,ak (show ¬(e-8<=i/\i<e-8+(j+1))by omega)]
theorem adP (rest:List UInt8) (n:Int) (e j:Nat):r8 rest n e (j+1) (e-8+j)=UInt8.ofNat (n / 2 ^ (8*(7-j)) % 256).toNat:=by
 unfold r8;rw[av (by omega),show e-8+j-(e-8)=j by omega]
theorem J7 (z:Int):(((UInt8.ofNat (z % 256).toNat).toNat:Nat):Int)=z % 256:=by
 have h1:0<=z % 256:=by omega
 have h2:z % 256<256:=by omega
 generalize z % 256=z at h1 h2 ⊢
 have:=gQ (show z.toNat<256 by omega);simp only[fJ];omega
theorem aa7 (rest:List UInt8) (total:Nat) (hr:rest.length<64) (F:Nat->Int) (G:List UInt8) (b:Nat) (hG: ∀ i,i<64->G.getD i 0=r8 rest ((total:Int)*8) (lX rest.length) 8 (64*b+i)) (hb:b<lX rest.length / 64):
  jD (b+1) F (pB (ints rest) total)=cL (jD b F (pB (ints rest) total)) (ints G):=by
 rw[MV,Og];refine TG _ fun i hi=> ?_;have uw:64*b+i<lX rest.length:=by unfold lX at*;split at hb<;>(rename_i h;first|rw[av h]|rw[ak h])<;>omega
 have e:=afi rest total hr (64*b+i) uw;rw[J6,hG i hi,e,aT,aT,List.getElem?_drop]
theorem afj (X rest:List UInt8) (q:Nat) (hX:X.length=64*q) (hr:rest.length<64):
  jD (lX rest.length / 64) (jD q h0 (ints X)) (pB (ints rest) (X++rest).length)=qo (ints (X++rest)):=by
 rw[Fl,aca (ints X) (ints rest) q (by rw[nL];exact hX) (by rw[nL];exact hr)];have hlen:(ints X++ints rest).length=(X++rest).length:=by simp[ints]
 have hl:(pB (ints rest) (X++rest).length).length=lX rest.length:=by
  rw[RO _ _ (by rw[nL];exact hr),nL];unfold lX;split<;>split<;>omega
 rw[hlen,hl]
def DY (rest:List UInt8) (n:Int) (e j:Nat):Nat->Value:=fun i=> .int .u8 (r8 rest n e j i).toNat
theorem ace (rest:List UInt8) (n:Int) (e:Nat) (hr:rest.length<64):
  (over (Array.replicate 128 (.int .u8 0)) 0 (cv rest)).setIfInBounds (0+rest.length) (.int .u8 128)=tab 128 (DY rest n e 0):=by
 have e0:over (Array.replicate 128 (.int .u8 0)) 0 (cv rest)=tab 128 (fun i=> .int .u8 (if i<rest.length then rest.getD i 0 else 0).toNat):=by
  apply dP;intro i;rw[J0 _ _ _ _ (by rw[ik];simp;omega),ik];by_cases hi:i<128
  .rw[xy _ _ _ hi];by_cases h:i<rest.length
   .rw[av (by omega),av h,Nat.sub_zero,xu h]
   .rw[ak (by omega),ak h];simp[hi]
  .rw[ak (by omega),bN (by simp;omega),bN (by rw[nX];omega)]
 rw[e0,aQ];refine FQ 128 _ _ _ _ ?_ ?_
 .show Value.int _ _=_;rw[Sd,ak (by omega),av rfl];rfl
 .intro i _ cz;show Value.int _ _=Value.int _ _;rw[Sd];by_cases h:i<rest.length
  .rw[av h,av h]
  .rw[ak h,ak h,ak cz]
theorem afk (rest:List UInt8) (n:Int) (e j:Nat) (x:Int) (hx:x=n / 2 ^ (8*(7-j)) % 256):(tab 128 (DY rest n e j)).setIfInBounds (e-8+j) (.int .u8 x)=tab 128 (DY rest n e (j+1)):=by
 refine FQ 128 _ _ _ _ ?_ ?_
 .show Value.int _ _=_;rw[adP,J7,hx]
 .intro i _ cz;show Value.int _ _=Value.int _ _;rw[acd _ _ _ _ _ cz]
theorem agN {H:ae} {g n:Nat} {f:Nat->Value} {t:TypeId} (h:bu H g (tab n f) t) (o:Nat) (cs:List Value) (hc: ∀ j,j<cs.length->o+j<n/\cs[j]? =some (f (o+j))):Row H (some ⟨g,o,none⟩) cs:=
 ⟨.inr ⟨g,o,rfl,fun j v hv=>by
  have hj:j<cs.length:=(aH.1 hv).1;obtain⟨h1,h2⟩:=hc j hj;rw[h.cell,xy _ _ _ h1,<-h2,hv]⟩⟩
def tQ (F:Nat->Int) (k:Nat):Nat->Value:=fun i=>if i<k then .int .u8 (F (i / 4) / 2 ^ (24-8*(i % 4)) % 256)else .int .u8 0
theorem Ux (F:Nat->Int) (k:Nat):(tab 32 (tQ F k)).setIfInBounds k (.int .u8 (F (k / 4) / 2 ^ (24-8*(k % 4)) % 256))=tab 32 (tQ F (k+1)):=by
 refine FQ 32 _ _ _ _ ?_ ?_
 .unfold tQ;rw[av (by omega)]
 .intro i _ cz;unfold tQ;by_cases h:i<k
  .rw[av h,av (by omega)]
  .rw[ak h,ak (by omega)]
theorem TJ (F:Nat->Int):tab 32 (tQ F 0)=Array.replicate 32 (.int .u8 0):=by
 rw[<-aaq];exact S7 _ _ _ fun i _=>by unfold tQ;rw[ak (by omega)]
theorem TK (l:List UInt8):tab 32 (tQ (qo (ints l)) 32)=(cv (ix l)).toArray:=by
 unfold ix;rw[<-ael];refine S7 _ _ _ fun i hi=> ?_;unfold tQ;rw[av hi,J7]
theorem SN (F:Nat->Int) (k:Nat): ∀ u∈(tab 32 (tQ F k)).toList,jt u=true:=S8 _ _ fun i=>by unfold tQ;split<;>rfl
end Go.Proofs.YtphkaogbcfdllaaGreatDoor
