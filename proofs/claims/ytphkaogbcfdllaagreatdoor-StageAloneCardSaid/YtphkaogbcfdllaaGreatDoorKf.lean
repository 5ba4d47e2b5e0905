import Derived.Test.YtphkaogbcfdllaaGreatDoorKe
import Derived.Test.YtphkaogbcfdllaaGreatDoorKc
import Derived.Shelf.Sort.Plain
import Derived.Test.YtphkaogbcfdllaaGreatDoorProg
import Derived.Test.YtphkaogbcfdllaaGreatDoorKd
set_option linter.unusedVariables false
set_option linter.unusedSimpArgs false
set_option maxRecDepth 100000
/- Bytes, cloned and put one behind another. -/
namespace Go.Vc
theorem cP.WN {P:Program} {H:ae} {t e:TypeId} {ty:TypeId} {cb:Array Bool} {a:Option Addr} {n cap:Nat} {K:Value->ae->Prop} (ht:P.underlying t=some (.slice e)) (h:K (.int .i64 cap) H):cP P (builtin .cap #[t] ty cb #[.slice a n cap]) H K:=by
 refine⟨fun w hw=> ?_⟩;have hr:(builtin .cap #[t] ty cb #[.slice a n cap]).run P w= .ok (.value (.int .i64 cap)) w:=by simp[builtin,Builtin.cap_,Sem.run_bind,ft ht,goInt]
 rw[hr];exact⟨dC.refl w,by rw[hw];exact h⟩
theorem cP.agm {P:Program} {H:ae} {t u e ty:TypeId} {k:IntKind} {i:TypeInfo} {z:Value} {m:Nat} {cb:Array Bool} {K:Value->ae->Prop}
  (ht:P.underlying t=some (.slice e)) (hu:P.underlying u=some (.int k)) (hi:P.info? e=some i) (hz:i.zero=some z) (o8:z.cells.size=i.size) (h0:0<m)
  (yB:m<=maxLen) (BK:m*i.bytes<=140737488355328) (jr:0<i.size)
  (hk: ∀ cS H',cq H' H.size e i.size (some ⟨H.size,0,none⟩) 0 cS []->ax H H'->m<=cS->K (.slice (some ⟨H.size,0,none⟩) m cS) H'):
  cP P (builtin .append #[t,u] ty cb #[.slice none 0 0,.int .i64 m]) H K:=by
 refine⟨fun w hw=> ?_⟩;have Vx:m<=9223372036854775807:=by have:=yB;simp only[maxLen]at this;omega
 have goal: ∀ {v w'},(Builtin.append_ #[t,u] ty #[.slice none 0 0,.int .i64 m]).run P w= .ok v w'->dC w w'->K v w'.heap->r3 P w K ((builtin .append #[t,u] ty cb #[.slice none 0 0,.int .i64 m]).run P w):=by
  intro v w' hr hs hk;simp only[builtin,Sem.run_bind,hr,Result.andThen_ok];exact⟨hs,hk⟩
 have Ge:0<0+m:=by omega
 have Ao: ¬(9223372036854775807<((0:Int)+(m:Int))):=by omega
 have kV:=growslice_fits Ge (show(0+m)*i.bytes<=_ by rw[aQ];exact BK);have vj: ¬(281474976710656<Builtin.nextslicecap (0+m) 0*i.bytes):=by omega
 have kq:0+m<=grownCap w (0+m) 0 e:=grownCap_ge w (0+m) 0 e;have AV:grownCap w (0+m) 0 e<=maxLen:=grownCap_le_maxLen w (0+m) 0 e (by omega);have hold: ∀ w':World,w'.heap=H->(Builtin.firstCells i.size 0 (.slice none 0 0)).run P w'= .ok #[] w':=fun w' rH=>C8 (Row.nil _ _) (by simp) w' rH;have aim:IntKind.i64.wrap (m:Int)=m:=by simp[IntKind.wrap,IntKind.bits,IntKind.signed];omega
 have hng: ¬((m:Int)<0):=by omega
 have LH: ¬(281474976710656<(m:Int)*(i.bytes:Int)):=by
  have:((m*i.bytes:Nat):Int)<=140737488355328:=by omega
  rw[Int.natCast_mul]at this;omega
 have HN: ¬(m*i.size=0):=by have:=Nat.mul_pos h0 jr;omega
 refine goal (v:= .slice (some ⟨w.heap.size,0,none⟩) (0+m) (grownCap w (0+m) 0 e))
  (w':=w.drew.alloc (.cells (#[]++Builtin.zeroCells z.cells m++Builtin.zeroCells z.cells (grownCap w (0+m) 0 e-(0+m))) e)) ?_ ⟨rfl,rfl,rfl⟩ ?_
 .have e1:=hold w.drew hw;have mc: ¬(m=0):=by omega
  have ez:i.size≠0:=by omega
  simp[Builtin.append_,ft ht,ft hu,mP hi,xn hi,asInt,asIntOf,aim,hng,LH,mc,ez,HN,Question.forced,e1,zeroValue,hz,newRow,grownCap]at Ao vj ⊢;simp[Int.not_lt.2 Ao,Nat.not_lt.2 vj,e1]
 .subst hw;rw[aQ]at*
  refine hk _ _ ⟨by simp,.inr ⟨w.heap.size,_,rfl,aB _,bu.new (rj _ _),aI _,AV,?_,by simp⟩⟩ (cD.push _ _ _) kq;simp only[Array.size_append,size_zeroCells,o8,<-fK];simp;rw[<-fK];congr 1;omega
end Go.Vc
namespace Go.Proofs.YtphkaogbcfdllaaGreatDoor
open Go Go.Vc Go.cN Go.eg Go.cM
theorem agn {H:ae} {l:List UInt8} (hr:Row H none (cv l)):l=[]:=by
 cases l with
 |nil=>rfl
 |cons c t=>obtain⟨b,o,h,_⟩:=hr.at (by simp[cv]);cases h
theorem Fy (l:List UInt8) (a:Option Addr) (n cap:Nat) (H:ae) (hr:Row H a (cv l)) (hn:l.length=n) (hm:n<=140737488355328):
  az Tryz.prog 67 [.slice a n cap] H fun v H'=>(∃ a' cS,v= .slice a' n cS/\cq H' H.size 5 1 a' n cS (cv l))/\ax H H':=by
 refine Vc.az.body Tryz.func67 Tryz.call67 rfl (by decide+kernel) rfl ?_;cases a with
 |none=>
  obtain rfl:=agn hr;obtain rfl:0=n:=hn;((conv=>whnf);repeat(any_goals(first|((refine eN.pos rfl ?_);(conv=>whnf))|(refine Vc.cJ ?_;(conv=>whnf)))))
  exact⟨⟨none,0,rfl,cq.nil _ _ _ _⟩,ax.refl _⟩
 |some p=>
  ((conv=>whnf);repeat(any_goals(first|((refine eN.neg rfl ?_);(conv=>whnf))|(refine Vc.cJ ?_;(conv=>whnf)))))
  refine aE.lit (vs:=[]) rfl rfl rfl rfl rfl rfl rfl ?_;intro H1 jr eC cd;((conv=>whnf);repeat(any_goals(first|(refine Vc.cJ ?_;(conv=>whnf)))))
  refine cP.append (i:=Tryz.t5) (z:= .int .u8 0) (base:=H.size) rfl ⟨_,rfl,fun _ h=>by cases h⟩ rfl rfl rfl (agb eC (aB _)) (Src.row (hr.ext cd) (by rw[ik,hn];exact(bQ _).symm) (mj _)) (by unfold maxLen;omega) (by show(0+n)*1<=_;omega) (by omega) ?_;intro a3 rD H3 eI vp Qu;((conv=>whnf);repeat(any_goals(first|(refine Vc.cJ ?_;(conv=>whnf)))))
  rw[aQ,iD]at*
  exact⟨⟨a3,rD,rfl,eI⟩,cd.but vp.VY (aB _)⟩
theorem ac5 (n:Nat) (H:ae) (hm:n<=1000000000000):az Tryz.prog 174 [.slice none 0 0,.int .i64 n] H fun v H'=>(∃ a' cS,v= .slice a' 0 cS/\cq H' H.size 5 1 a' 0 cS [])/\ax H H':=by
 refine Vc.az.body Tryz.func174 Tryz.call174 rfl (by decide+kernel) rfl ?_;by_cases h0:n=0
 .subst h0;((conv=>whnf);repeat(any_goals((first|((with_reducible apply cP.WN);rfl;(conv=>whnf))|refine Vc.aq ?_|refine Vc.bz ?_ ?_)<;>(intros;(conv=>whnf)))))
  exact⟨⟨none,0,rfl,cq.nil _ _ _ _⟩,ax.refl _⟩
 ·((conv=>whnf);repeat(any_goals((first|((with_reducible apply cP.WN);rfl;(conv=>whnf))|(refine dk.nat 0 rfl (by omega) ?_)|((with_reducible apply cP.agm);rfl;rfl;rfl;rfl;rfl;(focus(omega));(unfold maxLen;omega);(show n*1<=_;omega);(focus(decide));(intro c5 H5 eW cE Qv;(conv=>whnf)))|(rw[show((n:Int)-(((0:Nat):Int)-((0:Nat):Int)))=(n:Int)by omega])|refine Vc.aq ?_|refine Vc.bz ?_ ?_)<;>(intros;(conv=>whnf)))))
  exact⟨⟨_,c5,rfl,eW⟩,cE⟩
theorem cm.cell {H:ae} {a:Option Addr} {vs:List Value} {n:Nat} {i:Int} {K:Addr->Prop} (h:Row H a vs) (hn:vs.length=n) (j:Nat) (v:Value) (hi:i=j) (hv:vs[j]? =some v)
  (hk: ∀ b o,hcell H ⟨b,o+j,none⟩=some v->K ⟨b,o+j,none⟩):cm a n 1 i K:=by
 have hj:=(aH.1 hv).1;refine(Go.Vc.cm.row (size:=1) h (by rw[hn,bQ]) (by decide) j hi (by omega) fun b o h1 h2 h3=> ?_);have h3:=h3 0 v (by rw[bQ,Nat.add_zero];exact hv);rw[bQ];rw[bQ]at h3;exact hk b o (by simpa using h3)
theorem ago {H:ae} {g:Nat} {e:TypeId} {u v:Value} (h:bu H g #[u,v] e):Row H (some ⟨g,0,none⟩) [u,v]:=bu.row (c:=[u,v]) h
structure CcS where
 i:Nat
 a:Option Addr
 cap:Nat
theorem abO (x y:List UInt8) (a b:Option Addr) (n m ca cb g:Nat) (H:ae) (hx:Row H a (cv x)) (hy:Row H b (cv y)) (hn:x.length=n) (hm:y.length=m) (wM:n<=100000000000) (wN:m<=100000000000) (hg:bu H g #[.slice a n ca,.slice b m cb] 33):
  az Tryz.prog 121 [.slice (some ⟨g,0,none⟩) 2 2] H fun v H'=>(∃ a' cS,v= .slice a' (n+m) cS/\cq H' H.size 5 1 a' (n+m) cS (cv (x++y)))/\ax H H':=by
 have hr:=ago hg;refine Vc.az.body Tryz.func121 Tryz.call121 rfl (by decide+kernel) rfl ?_;((conv=>whnf);repeat(any_goals((first|refine Vc.aq ?_|refine Vc.bz ?_ ?_)<;>(intros;(conv=>whnf)))))
 obtain⟨L,l0,l1,l2⟩: ∃ L:Nat->Nat,L 0=0/\L 1=n/\L 2=n+m:=⟨fun i=>if i=0 then 0 else if i=1 then n else n+m,rfl,rfl,rfl⟩;obtain⟨M,m0,m1,m2⟩: ∃ M:Nat->List UInt8,M 0=[]/\M 1=x/\M 2=x++y:=⟨fun i=>if i=0 then []else if i=1 then x else x++y,rfl,rfl,rfl⟩;refine dt.intro (fun(i:Nat)=>[(11,.int .i64 i),(3,.int .i64 (L i))]) (fun i H'=>H=H'/\i<=2) (fun i=>2-i) 0 ⟨rfl,by rw[l0];rfl,aF⟩ ⟨rfl,aI _⟩ ?_;rintro i _ ⟨rfl,hi⟩;dsimp only;by_cases h0:i=0
 .subst h0;((conv=>whnf);repeat(any_goals((first|(refine cm.cell hr rfl 0 _ rfl rfl ?_;intro _ _ _)|refine Vc.aq ?_|refine Vc.bz ?_ ?_)<;>(intros;(conv=>whnf)))))
  exact⟨1,⟨rfl,by(show Value.int .i64 (((L 0:Nat):Int)+n)=Value.int .i64 (L 1:Int);rw[l0,l1];congr 1;omega),aF⟩,⟨rfl,by omega⟩,by omega⟩
 by_cases h1:i=1
 .subst h1;((conv=>whnf);repeat(any_goals((first|(refine cm.cell hr rfl 1 _ rfl rfl ?_;intro _ _ _)|refine Vc.aq ?_|refine Vc.bz ?_ ?_)<;>(intros;(conv=>whnf)))))
  exact⟨2,⟨rfl,by(show Value.int .i64 ((L 1:Int)+m)=Value.int .i64 (L 2:Int);rw[l1,l2];congr 1),aF⟩,⟨rfl,by omega⟩,by omega⟩
 obtain rfl:i=2:=by omega
 rw[l2];have XV:=fun H=>ac5 (n+m) H (by omega);((conv=>whnf);repeat(any_goals((first|(refine(XV _).mono ?_;rintro _ H1 ⟨⟨a1,c1,rfl,fg⟩,cd⟩;have eR:=cd.size)|refine Vc.aq ?_|refine Vc.bz ?_ ?_)<;>(intros;(conv=>whnf)))))
 refine dt.intro (fun(x:CcS)=>[(27,.int .i64 x.i),(6,.slice x.a (L x.i) x.cap)]) (fun z H'=>z.i<=2/\cq H' H.size 5 1 z.a (L z.i) z.cap (cv (M z.i))/\ax H H') (fun z=>2-z.i) ⟨0,a1,c1⟩ ⟨rfl,by(show Value.slice a1 0 c1= .slice a1 (L 0) c1;rw[l0]),aF⟩ ⟨aI _,by(show cq H1 H.size _ 1 a1 (L 0) c1 (cv (M 0));rw[l0,m0];exact fg),cd⟩ ?_;rintro⟨i,a2,c2⟩ H2 ⟨hi,dy,bh⟩;dsimp only at hi dy ⊢;have dT:=bh.size;have cT:=hr.ext bh;have LI:=hx.ext bh;have LJ:=hy.ext bh;by_cases h0:i=0
 .subst h0;((conv=>whnf);repeat(any_goals((first|(refine cm.cell cT rfl 0 _ rfl rfl ?_;intro _ _ _)|(refine cP.append (m:=n) (i:=Tryz.t5) (z:= .int .u8 0) (base:=H.size) rfl ⟨_,rfl,fun _ h=>by cases h⟩ rfl rfl rfl dy (Src.row LI (by rw[ik,hn];exact(bQ _).symm) (mj _)) (by unfold maxLen;omega) (by show(L 0+n)*1<=_;omega) (by omega) ?_;intro a3 c3 H3 eI vp Qu)|refine Vc.aq ?_|refine Vc.bz ?_ ?_)<;>(intros;(conv=>whnf)))))
  have e1:L 0+n=L 1:=by omega
  have e2:cv (M 0)++cv x=cv (M 1):=by rw[m0,m1];rfl
  rw[e1,e2]at eI;exact⟨⟨1,a3,c3⟩,⟨rfl,by rw[e1];rfl,aF⟩,⟨by show 1<=2;omega,eI,bh.wr dy (aB _) vp⟩,by show 2-1<2-0;omega⟩
 by_cases h1:i=1
 .subst h1;((conv=>whnf);repeat(any_goals((first|(refine cm.cell cT rfl 1 _ rfl rfl ?_;intro _ _ _)|(refine cP.append (m:=m) (i:=Tryz.t5) (z:= .int .u8 0) (base:=H.size) rfl ⟨_,rfl,fun _ h=>by cases h⟩ rfl rfl rfl dy (Src.row LJ (by rw[ik,hm];exact(bQ _).symm) (mj _)) (by unfold maxLen;omega) (by show(L 1+m)*1<=_;omega) (by omega) ?_;intro a3 c3 H3 eI vp Qu)|refine Vc.aq ?_|refine Vc.bz ?_ ?_)<;>(intros;(conv=>whnf)))))
  have e1:L 1+m=L 2:=by omega
  have e2:cv (M 1)++cv y=cv (M 2):=by rw[m1,m2,rh]
  rw[e1,e2]at eI;exact⟨⟨2,a3,c3⟩,⟨rfl,by rw[e1];rfl,aF⟩,⟨aB _,eI,bh.wr dy (aB _) vp⟩,by show 2-2<2-1;omega⟩
 obtain rfl:i=2:=by omega
 rw[l2,m2]at*
 ((conv=>whnf);repeat(any_goals((first|refine Vc.aq ?_|refine Vc.bz ?_ ?_)<;>(intros;(conv=>whnf)))))
 exact⟨⟨a2,c2,rfl,dy⟩,bh⟩
end Go.Proofs.YtphkaogbcfdllaaGreatDoor
namespace Go.cM
open Go.eg Go.cN
open Go.Vc (ck fk kX jX lf jy ka)
theorem abP (A:Tr) (l:List ap) (d:ap):gi A (l++[d])=iu (gi A l) d (true,[]):=by unfold gi;rw[ig];rfl
theorem Nw {A:Tr} (h:Sorted A) (l:List ap):gi A l.reverse=gi A l:=Sz h fun x=>by simp
theorem M9 {A:Tr} (hA:dr A) {q:ap} (hq:jk q) (b:ap):cQ (iu (gi A (dm A q)) q (false,b))+fL A q=cQ A+b.length:=by
 have h1:=JQ (sy (dm A q) hA.sorted) q (false,b);rw[Td hA.sorted (Ox hq),Db hA.sorted fun d hd=>(tq hd).2]at h1;exact h1
theorem VD: ∀ (A:Tr) (p:ap),fL A p<=cQ A
 |[],p=>aI _
 |x::l,p=>by
  have e1:cQ (x::l)=x.2.2.length+cQ l:=by simp[cQ]
  have:=VD l p;unfold fL at this ⊢;simp only[ck];by_cases h:p=x.1
  .rw[av h,e1];exact Nat.le_add_right _ _
  .rw[ak h,e1];exact dh this (Nat.le_add_left _ _)
end Go.cM
namespace Go.Proofs.YtphkaogbcfdllaaGreatDoor
open Go Go.Vc Go.cN Go.eg Go.cM
variable {Z:Nat->Prop}
theorem FJ {b mb:Nat} {A:Tr} {H:ae} {s:Int} (hb:bu H b #[.map (some mb),.int .i64 s] 133) (hm:jw Z H mb A) (ds:List Bs) (a:Option Addr) (n cap:Nat) (hr:Row H a (strs ds)) (hn:ds.length=n) (wO:n<=1000000):
  az Tryz.prog 123 [.pointer (some ⟨b,0,none⟩),.slice a n cap] H fun v H'=>v= .tuple #[]/\jw Z H' mb (gi A ds)/\fw mb H H':=by
 refine Vc.az.body Tryz.func123 Tryz.call123 rfl (by decide+kernel) rfl ?_;have nj:=hm.ne hb;((conv=>whnf);repeat(any_goals((first|refine Vc.aq ?_|refine Vc.bz ?_ ?_)<;>(intros;(conv=>whnf)))))
 refine dt.intro (fun(i:Nat)=>[(8,.int .i64 i)]) (fun i H'=>i<=n/\jw Z H' mb (gi A (ds.take i))/\fw mb H H') (fun i=>n-i) 0 ⟨rfl,aF⟩ ⟨aI _,hm,cD.refl _ _⟩ ?_;rintro i H2 ⟨hi,wN,bh⟩;have dT:=bh.size;have di:=hb.but bh nj.symm;have cT:=hr.texts bh fun x e _=>by subst e;exact hm.jT.mF
 by_cases ct:i<n
 .obtain⟨d,hd⟩: ∃ d,ds[i]? =some d:=⟨_,aD (by omega)⟩;((conv=>whnf);repeat(any_goals((first|(refine cm.fe cT hn i d (by omega) hd ?_;intro _ _ _ _ _)|(refine da.build #[.bool true,.slice none 0 0] (by kernel_rfl) ?_)|((with_reducible apply FU);(exact wN.ext (by assumption));(exact iJ.dir (by assumption));rfl;rfl;(intro H5 z5 m5 x5;(conv=>whnf)))|refine Vc.aq ?_|refine Vc.bz ?_ ?_)<;>(intros;(conv=>whnf)))))
  rename_i H4 z4 b4 x4;refine⟨i+1,⟨rfl,aF⟩,⟨by omega,?_,(bh.ext x4).trans x5 fun _ _ h=>h⟩,by omega⟩;rw[bX,hd];show jw Z H5 mb (gi A (ds.take i++[d]));rw[abP];exact m5
 .obtain rfl:i=n:=by omega
  ((conv=>whnf);repeat(any_goals((first|refine Vc.aq ?_|refine Vc.bz ?_ ?_)<;>(intros;(conv=>whnf)))))
  refine⟨rfl,?_,bh⟩;rw[aL (by omega)]at wN;exact wN
structure Did (Z:Nat->Prop) (H H':ae) (b mb:Nat) (v:Value) (r:Tr×Nat):Prop where
 code:v= .int .i64 r.2
 tree:iQ Z H' b mb r.1
 only:B9 b mb H H'
theorem Did.none {H H':ae} {b mb:Nat} {A:Tr} (h:iQ Z H b mb A) (k:ax H H') (n:Nat):Did Z H H' b mb (.int .i64 n) (A,n):=⟨rfl,h.ext k,k.only⟩
theorem Nx {A:Tr} {q:ap} (h:ck A q=none) (hq:q≠ []):nodeAt A q=none:=by unfold nodeAt;rw[ak hq,h]
theorem Dj {A:Tr} {q:ap} {n:cM.Node} (h:ck A q=some n) (hq:q≠ []):nodeAt A q=some n:=by unfold nodeAt;rw[ak hq,h]
theorem xw (A:Tr) (q:ap):mV A q=true↔ ∃ t,nodeAt A q=some (true,t):=by
 unfold mV nodeAt;by_cases h:q=[]
 .subst h;simp
 .rw[ak h];cases hg:ck A q with
  |none=>simp[h]
  |some n=>obtain⟨x,t⟩:=n;simp[h]
def Ca (A:Tr) (q bs:Bs) (more:Bool):Bs:=if more=true then Kt A q++bs else bs
def Lc (A:Tr) (p bs:Bs) (more:Bool):Tr×Nat:=if(cF p).2=0 then iO A (cF p).1 (Ca A (cF p).1 bs more)else(A,(cF p).2)
theorem abQ (A:Tr) (p bs:Bs):Lc A p bs false=nP A p bs:=rfl
theorem R6 (A:Tr) (p bs:Bs):Lc A p bs true=qH A p bs:=rfl
set_option maxHeartbeats 4000000 in
theorem OA {b mb:Nat} {A:Tr} {H:ae} (h:iQ Z H b mb A) (hA:dr A) (p BB:Bs) (a:Option Addr) (n cap:Nat) (more:Bool) (hr:Row H a (cv BB)) (hn:BB.length=n) (hm:n<=10000000000):
  az Tryz.prog 68 [.pointer (some ⟨b,0,none⟩),.string (ag p),.slice a n cap,.bool more] H fun v H'=>Did Z H H' b mb v (Lc A p BB more):=by
 subst hn;have nj:=h.map.ne h.cL;have cU:=fun H=>vK p H;obtain⟨qc,qw⟩:=ri p;unfold Lc;by_cases h0: ¬(cF p).2=0
 .rw[ak h0];generalize cF p=c at*
  refine Vc.az.body Tryz.func68 Tryz.call68 rfl (by decide+kernel) rfl ?_;((conv=>whnf);repeat(any_goals((first|(refine(cU _).mono ?_;rintro _ H1 ⟨rfl,cd⟩;have eR:=cd.size)|refine Vc.aq ?_|refine Vc.bz ?_ ?_)<;>(intros;(conv=>whnf)))))
  exact Did.none h cd _
 have h0:(cF p).2=0:=by omega
 rw[av h0];have hq:=oR h0;obtain⟨q,lE⟩: ∃ q,(cF p).1=q:=⟨_,rfl⟩;rw[h0,lE]at cU;rw[lE]at hq ⊢;have fy:=fun H' (k:ax H H')=>BL (h.ext k) q;by_cases hd:mV A q=true
 .obtain⟨t,ht⟩:=(xw A q).1 hd;rw[ht]at fy;have hw:iO A q (Ca A q BB more)=(A,54):=by unfold iO;rw[av (.inl hd)]
  rw[hw];refine Vc.az.body Tryz.func68 Tryz.call68 rfl (by decide+kernel) rfl ?_;((conv=>whnf);repeat(any_goals((first|(refine(cU _).mono ?_;rintro _ H1 ⟨rfl,cd⟩;have eR:=cd.size)|(refine(fy _ (by exact Vc.xt)).mono ?_;rintro v2 H2 ⟨fb,bh⟩;have dT:=bh.size;obtain⟨g2,a2,c2,rfl,di,cT⟩:=iJ.out fb)|refine Vc.aq ?_|refine Vc.bz ?_ ?_)<;>(intros;(conv=>whnf)))))
  exact Did.none h (by exact Vc.xt) _
 have mZ:q≠ []:=by rintro rfl;exact hd rfl
 have jJ:=fun H' (k:ax H H')=>JS (h.ext k) hq;cases hg:ck A q with
 |none=>
  rw[Nx hg mZ]at fy;have rR:Ca A q BB more=BB:=by unfold Ca Kt;rw[hg];cases more<;>rfl
  rw[rR];unfold zN at jJ;by_cases hf:kG A q=true
  .simp only[av hf]at jJ;have hw:iO A q BB=(A,54):=by unfold iO;rw[av (.inr hf)]
   rw[hw];refine Vc.az.body Tryz.func68 Tryz.call68 rfl (by decide+kernel) rfl ?_;((conv=>whnf);repeat(any_goals((first|(refine(cU _).mono ?_;rintro _ H1 ⟨rfl,cd⟩;have eR:=cd.size)|(refine(fy _ (by exact Vc.xt)).mono ?_;rintro v2 H2 ⟨fb,bh⟩;have dT:=bh.size;obtain rfl:=fb)|(refine(jJ _ (by exact Vc.xt)).mono ?_;rintro _ H3 ⟨rfl,bw⟩;have eJ:=bw.size)|refine Vc.aq ?_|refine Vc.bz ?_ ?_)<;>(intros;(conv=>whnf)))))
   exact Did.none h (by exact Vc.xt) _
  .simp only[ak hf]at jJ;have uh:(dm A q).length<=12:=by
    have h1:(dm A q).length<=(jm q).length:=dY _ _;have h2:=hq.parts.deep;rw[Dt]at h1;omega
   have LK:fL A q=0:=by unfold fL;rw[hg]
   have hmF:sG A q=(dm A q).length+1:=by unfold sG;rw[hg];simp
   by_cases Au:65536<BB.length
   .have hw:iO A q BB=(A,55):=by unfold iO;rw[ak (by rw[fT];exact⟨hd,hf⟩),av (.inl Au)]
    rw[hw];refine Vc.az.body Tryz.func68 Tryz.call68 rfl (by decide+kernel) rfl ?_;((conv=>whnf);repeat(any_goals((first|(refine(cU _).mono ?_;rintro _ H1 ⟨rfl,cd⟩;have eR:=cd.size)|(refine(fy _ (by exact Vc.xt)).mono ?_;rintro v2 H2 ⟨fb,bh⟩;have dT:=bh.size;obtain rfl:=fb)|(refine(jJ _ (by exact Vc.xt)).mono ?_;rintro _ H3 ⟨⟨a3,c3,rfl,eI⟩,bw⟩;have eJ:=bw.size)|refine Vc.aq ?_|refine Vc.bz ?_ ?_)<;>(intros;(conv=>whnf)))))
    exact Did.none h (by exact Vc.xt) _
   have ju:=fun H' (k:ax H H')=>Dw (h.ext k) hA.sorted (by have:=hA.count;omega) (by have:=hA.size;omega) ((dm A q).length+1) ((BB.length:Int)-0) (by omega) (by omega);rw[show(((dm A q).length+1:Nat):Int)=((dm A q).length:Int)+1 by omega]at ju;by_cases oK:(dm A q).length+1+A.length<=500/\(BB.length:Int)-0+cQ A<=1048576
   .rw[bB oK]at ju;have hw:iO A q BB=(iu (gi A (dm A q)) q (false,BB),0):=by
     unfold iO;rw[ak (by rw[fT];exact⟨hd,hf⟩),ak (by rw[fT,fT];omega)]
    rw[hw];have lP:=M9 hA hq BB;refine Vc.az.body Tryz.func68 Tryz.call68 rfl (by decide+kernel) rfl ?_;((conv=>whnf);repeat(any_goals((first|(refine(cU _).mono ?_;rintro _ H1 ⟨rfl,cd⟩;have eR:=cd.size)|(refine(fy _ (by exact Vc.xt)).mono ?_;rintro v2 H2 ⟨fb,bh⟩;have dT:=bh.size;obtain rfl:=fb)|(refine(jJ _ (by exact Vc.xt)).mono ?_;rintro _ H3 ⟨⟨a3,c3,rfl,eI⟩,bw⟩;have eJ:=bw.size)|(refine(ju _ (by exact Vc.xt)).mono ?_;rintro _ _ ⟨rfl,rfl⟩)|(refine(FJ (h.cL.ext (by exact Vc.xt)) (h.map.ext (by exact Vc.xt)) (dm A q).reverse a3 _ c3 (eI.row.ext (by exact Vc.xt)) (by simp) (by omega)).mono ?_;rintro _ H5 ⟨rfl,qY,cE⟩;have ij:=cE.size;have j3:=(show ax H H3 by exact Vc.xt);have im:=(h.cL.ext j3).but cE nj.symm;have kR:=(hr.ext j3).bytes cE (fun x e _=>by subst e;exact(h.map.ext j3).jT.mF))|(refine(Fy _ _ _ _ _ (kR.ext (by exact Vc.xt)) rfl (by omega)).mono ?_;rintro _ H6 ⟨⟨a6,c6,rfl,ei⟩,cV⟩;have fS:=cV.size)|(refine da.build #[.bool false,.slice a6 BB.length c6] (by kernel_rfl) ?_)|((with_reducible apply FU (n:=(false,BB)));(exact qY.ext (by exact Vc.xt));(focus((exact .Hu (by assumption) (ei.row.ext (by assumption)) fun _ p hp hz=>absurd (ei.block p hp).1 (by have:=h.low _ hz;omega))));rfl;rfl;(intro H8 z8 m8 x8;(conv=>whnf)))|((with_reducible refine Vc.cy.held [0,1,2,3,4,5,6,7,8,9] [(6,[3]),(8,[3])] mixed (by decide+kernel) ?_))|refine Vc.aq ?_|refine Vc.bz ?_ ?_)<;>(intros;(conv=>whnf)))))
    (rename_i H7 z7 b7 x7 H9 z9 b9 x9;have o9:B9 b mb H H9:=(((j3.only.trans cE fun _ _ e=> .inr e).ext (show ax H5 H7 by exact Vc.xt)).trans x8 fun _ _ e=> .inr e).trans x9 fun _ _ e=> .inl e;rw[Nw hA.sorted]at m8;have b8:=(im.ext (show ax H5 H7 by exact Vc.xt)).but x8 nj.symm;have b9:bu H9 b #[.map (some mb),.int .i64 ((cQ A:Int)+((BB.length:Int)-(fL A q:Int)))] 133:=(by rw[LK];exact b9);rw[show(cQ A:Int)+((BB.length:Int)-(fL A q:Int))=(cQ (iu (gi A (dm A q)) q (false,BB)):Nat)by omega]at b9;exact⟨rfl,⟨m8.keep x9 nj (fun x e _=>by subst e;exact .inl (Du b8)),b9,fun x hx=>dG (h.low x hx) o9.size⟩,o9⟩)
   .rw[aN oK]at ju;have hw:iO A q BB=(A,55):=by
     unfold iO;rw[ak (by rw[fT];exact⟨hd,hf⟩),av (by omega)]
    rw[hw];refine Vc.az.body Tryz.func68 Tryz.call68 rfl (by decide+kernel) rfl ?_;((conv=>whnf);repeat(any_goals((first|(refine(cU _).mono ?_;rintro _ H1 ⟨rfl,cd⟩;have eR:=cd.size)|(refine(fy _ (by exact Vc.xt)).mono ?_;rintro v2 H2 ⟨fb,bh⟩;have dT:=bh.size;obtain rfl:=fb)|(refine(jJ _ (by exact Vc.xt)).mono ?_;rintro _ H3 ⟨⟨a3,c3,rfl,eI⟩,bw⟩;have eJ:=bw.size)|(refine(ju _ (by exact Vc.xt)).mono ?_;rintro _ _ ⟨rfl,rfl⟩)|refine Vc.aq ?_|refine Vc.bz ?_ ?_)<;>(intros;(conv=>whnf)))))
    exact Did.none h (by exact Vc.xt) _
 |some nd=>
  obtain⟨dir,old⟩:=nd;have sg:dir=false:=by
   cases dir with
   |false=>rfl
   |true=>exact absurd ((xw A q).2 ⟨old,Dj hg mZ⟩) hd
  subst sg;rw[Dj hg mZ]at fy;obtain⟨rP,HO⟩:=N3 hA hg;have hf: ¬kG A q=true:=by rw[HO];simp
  unfold zN at jJ;simp only[ak hf]at jJ;rw[rP]at jJ;have LK:fL A q=old.length:=by unfold fL;rw[hg]
  have hmF:sG A q=0:=by unfold sG;rw[hg];simp
  have j5:=(hA.file q _ hg).1;have hos:=VD A q;dsimp only at j5;have vq:=hA.count;have e00:([]:List ap).length=0:=rfl;have qZ:=hA.size;cases more with
  |false=>
   have rR:Ca A q BB false=BB:=rfl;rw[rR];by_cases Au:65536<BB.length
   .have hw:iO A q BB=(A,55):=by unfold iO;rw[ak (by rw[fT];exact⟨hd,hf⟩),av (.inl Au)]
    rw[hw];refine Vc.az.body Tryz.func68 Tryz.call68 rfl (by decide+kernel) rfl ?_;((conv=>whnf);repeat(any_goals((first|(refine(cU _).mono ?_;rintro _ H1 ⟨rfl,cd⟩;have eR:=cd.size)|(refine(fy _ (by exact Vc.xt)).mono ?_;rintro v2 H2 ⟨fb,bh⟩;have dT:=bh.size;obtain⟨g2,a2,c2,rfl,di,cT⟩:=iJ.out fb;dsimp only at di cT)|(refine(jJ _ (by exact Vc.xt)).mono ?_;rintro _ H3 ⟨⟨a3,c3,rfl,eI⟩,bw⟩;have eJ:=bw.size)|refine Vc.aq ?_|refine Vc.bz ?_ ?_)<;>(intros;(conv=>whnf)))))
    exact Did.none h (by exact Vc.xt) _
   have ju:=fun H' (k:ax H H')=>Dw (h.ext k) hA.sorted (by omega) (by omega) 0 ((BB.length:Int)-old.length) (by omega) (by omega);by_cases oK:0+A.length<=500/\(BB.length:Int)-old.length+cQ A<=1048576
   .rw[bB oK]at ju;have hw:iO A q BB=(iu (gi A (dm A q)) q (false,BB),0):=by
     unfold iO;rw[ak (by rw[fT];exact⟨hd,hf⟩),ak (by rw[fT,fT];omega)]
    rw[hw];have lP:=M9 hA hq BB;rw[rP]at lP ⊢;refine Vc.az.body Tryz.func68 Tryz.call68 rfl (by decide+kernel) rfl ?_;((conv=>whnf);repeat(any_goals((first|(refine(cU _).mono ?_;rintro _ H1 ⟨rfl,cd⟩;have eR:=cd.size)|(refine(fy _ (by exact Vc.xt)).mono ?_;rintro v2 H2 ⟨fb,bh⟩;have dT:=bh.size;obtain⟨g2,a2,c2,rfl,di,cT⟩:=iJ.out fb;dsimp only at di cT)|(refine(jJ _ (by exact Vc.xt)).mono ?_;rintro _ H3 ⟨⟨a3,c3,rfl,eI⟩,bw⟩;have eJ:=bw.size)|(refine(ju _ (by exact Vc.xt)).mono ?_;rintro _ _ ⟨rfl,rfl⟩)|(refine(FJ (h.cL.ext (by exact Vc.xt)) (h.map.ext (by exact Vc.xt)) [] a3 0 c3 (Row.nil _ _) rfl (by omega)).mono ?_;rintro _ H5 ⟨rfl,qY,cE⟩;have ij:=cE.size;have j3:=(show ax H H3 by exact Vc.xt);have im:=(h.cL.ext j3).but cE nj.symm;have kR:=(hr.ext j3).bytes cE (fun x e _=>by subst e;exact(h.map.ext j3).jT.mF))|(refine(Fy _ _ _ _ _ (kR.ext (by exact Vc.xt)) rfl (by omega)).mono ?_;rintro _ H6 ⟨⟨a6,c6,rfl,ei⟩,cV⟩;have fS:=cV.size)|(refine da.build #[.bool false,.slice a6 BB.length c6] (by kernel_rfl) ?_)|((with_reducible apply FU (n:=(false,BB)));(exact qY.ext (by exact Vc.xt));(focus((exact .Hu (by assumption) (ei.row.ext (by assumption)) fun _ p hp hz=>absurd (ei.block p hp).1 (by have:=h.low _ hz;omega))));rfl;rfl;(intro H8 z8 m8 x8;(conv=>whnf)))|((with_reducible refine Vc.cy.held [0,1,2,3,4,5,6,7,8,9] [(6,[3]),(8,[3])] mixed (by decide+kernel) ?_))|refine Vc.aq ?_|refine Vc.bz ?_ ?_)<;>(intros;(conv=>whnf)))))
    (rename_i H7 z7 b7 x7 H9 z9 b9 x9;have o9:B9 b mb H H9:=(((j3.only.trans cE fun _ _ e=> .inr e).ext (show ax H5 H7 by exact Vc.xt)).trans x8 fun _ _ e=> .inr e).trans x9 fun _ _ e=> .inl e;have b8:=(im.ext (show ax H5 H7 by exact Vc.xt)).but x8 nj.symm;have b9:bu H9 b #[.map (some mb),.int .i64 ((cQ A:Int)+((BB.length:Int)-(fL A q:Int)))] 133:=(by rw[LK];exact b9);rw[show(cQ A:Int)+((BB.length:Int)-(fL A q:Int))=(cQ (iu (gi A []) q (false,BB)):Nat)by omega]at b9;exact⟨rfl,⟨m8.keep x9 nj (fun x e _=>by subst e;exact .inl (Du b8)),b9,fun x hx=>dG (h.low x hx) o9.size⟩,o9⟩)
   .rw[aN oK]at ju;have hw:iO A q BB=(A,55):=by
     unfold iO;rw[ak (by rw[fT];exact⟨hd,hf⟩),av (by omega)]
    rw[hw];refine Vc.az.body Tryz.func68 Tryz.call68 rfl (by decide+kernel) rfl ?_;((conv=>whnf);repeat(any_goals((first|(refine(cU _).mono ?_;rintro _ H1 ⟨rfl,cd⟩;have eR:=cd.size)|(refine(fy _ (by exact Vc.xt)).mono ?_;rintro v2 H2 ⟨fb,bh⟩;have dT:=bh.size;obtain⟨g2,a2,c2,rfl,di,cT⟩:=iJ.out fb;dsimp only at di cT)|(refine(jJ _ (by exact Vc.xt)).mono ?_;rintro _ H3 ⟨⟨a3,c3,rfl,eI⟩,bw⟩;have eJ:=bw.size)|(refine(ju _ (by exact Vc.xt)).mono ?_;rintro _ _ ⟨rfl,rfl⟩)|refine Vc.aq ?_|refine Vc.bz ?_ ?_)<;>(intros;(conv=>whnf)))))
    exact Did.none h (by exact Vc.xt) _
  |true=>
   have rR:Ca A q BB true=old++BB:=by unfold Ca Kt;rw[hg];rfl
   have Gy:=fun H' a2 c2 g4 (cT:Row H' a2 (cv old)) (hr:Row H' a (cv BB)) (hb:bu H' g4 #[.slice a2 old.length c2,.slice a BB.length cap] _)=>abO old BB a2 a old.length BB.length c2 cap g4 H' cT hr rfl rfl (by omega) (by omega) hb;rw[rR];obtain⟨CC,XW⟩: ∃ C,old++BB=C:=⟨_,rfl⟩;have hCl:CC.length=old.length+BB.length:=by rw[<-XW,au]
   rw[XW]at rR Gy ⊢;rw[<-hCl]at Gy;by_cases Au:65536<CC.length
   .have hw:iO A q CC=(A,55):=by unfold iO;rw[ak (by rw[fT];exact⟨hd,hf⟩),av (.inl Au)]
    rw[hw];refine Vc.az.body Tryz.func68 Tryz.call68 rfl (by decide+kernel) rfl ?_;((conv=>whnf);repeat(any_goals((first|(refine(cU _).mono ?_;rintro _ H1 ⟨rfl,cd⟩;have eR:=cd.size)|(refine(fy _ (by exact Vc.xt)).mono ?_;rintro v2 H2 ⟨fb,bh⟩;have dT:=bh.size;obtain⟨g2,a2,c2,rfl,di,cT⟩:=iJ.out fb;dsimp only at di cT)|(refine(jJ _ (by exact Vc.xt)).mono ?_;rintro _ H3 ⟨⟨a3,c3,rfl,eI⟩,bw⟩;have eJ:=bw.size)|(refine(Gy _ a2 c2 _ (cT.ext (by exact Vc.xt)) (hr.ext (by exact Vc.xt)) (by assumption)).mono ?_;rintro _ H4 ⟨⟨a4,c4,rfl,dE⟩,cH⟩;have gA:=cH.size)|refine Vc.aq ?_|refine Vc.bz ?_ ?_)<;>(intros;(conv=>whnf)))))
    exact Did.none h (by exact Vc.xt) _
   have ju:=fun H' (k:ax H H')=>Dw (h.ext k) hA.sorted (by omega) (by omega) 0 ((CC.length:Int)-old.length) (by omega) (by omega);by_cases oK:0+A.length<=500/\(CC.length:Int)-old.length+cQ A<=1048576
   .rw[bB oK]at ju;have hw:iO A q CC=(iu (gi A (dm A q)) q (false,CC),0):=by
     unfold iO;rw[ak (by rw[fT];exact⟨hd,hf⟩),ak (by rw[fT,fT];omega)]
    rw[hw];have lP:=M9 hA hq CC;rw[rP]at lP ⊢;refine Vc.az.body Tryz.func68 Tryz.call68 rfl (by decide+kernel) rfl ?_;((conv=>whnf);repeat(any_goals((first|(refine(cU _).mono ?_;rintro _ H1 ⟨rfl,cd⟩;have eR:=cd.size)|(refine(fy _ (by exact Vc.xt)).mono ?_;rintro v2 H2 ⟨fb,bh⟩;have dT:=bh.size;obtain⟨g2,a2,c2,rfl,di,cT⟩:=iJ.out fb;dsimp only at di cT)|(refine(jJ _ (by exact Vc.xt)).mono ?_;rintro _ H3 ⟨⟨a3,c3,rfl,eI⟩,bw⟩;have eJ:=bw.size)|(refine(Gy _ a2 c2 _ (cT.ext (by exact Vc.xt)) (hr.ext (by exact Vc.xt)) (by assumption)).mono ?_;rintro _ H4 ⟨⟨a4,c4,rfl,dE⟩,cH⟩;have gA:=cH.size)|(refine(ju _ (by exact Vc.xt)).mono ?_;rintro _ _ ⟨rfl,rfl⟩)|(refine(FJ (h.cL.ext (by exact Vc.xt)) (h.map.ext (by exact Vc.xt)) [] a3 0 c3 (Row.nil _ _) rfl (by omega)).mono ?_;rintro _ H5 ⟨rfl,qY,cE⟩;have ij:=cE.size;have j3:=(show ax H H4 by exact Vc.xt);have im:=(h.cL.ext j3).but cE nj.symm;have kR:=dE.row.bytes cE (fun x e _=>by subst e;exact(h.map.ext j3).jT.mF))|(refine(Fy _ _ _ _ _ (kR.ext (by exact Vc.xt)) rfl (by omega)).mono ?_;rintro _ H6 ⟨⟨a6,c6,rfl,ei⟩,cV⟩;have fS:=cV.size)|(refine da.build #[.bool false,.slice a6 CC.length c6] (by kernel_rfl) ?_)|((with_reducible apply FU (n:=(false,CC)));(exact qY.ext (by exact Vc.xt));(focus((exact .Hu (by assumption) (ei.row.ext (by assumption)) fun _ p hp hz=>absurd (ei.block p hp).1 (by have:=h.low _ hz;omega))));rfl;rfl;(intro H8 z8 m8 x8;(conv=>whnf)))|((with_reducible refine Vc.cy.held [0,1,2,3,4,5,6,7,8,9] [(6,[3]),(8,[3])] mixed (by decide+kernel) ?_))|refine Vc.aq ?_|refine Vc.bz ?_ ?_)<;>(intros;(conv=>whnf)))))
    (rename_i H7 z7 b7 x7 H9 z9 b9 x9;have o9:B9 b mb H H9:=(((j3.only.trans cE fun _ _ e=> .inr e).ext (show ax H5 H7 by exact Vc.xt)).trans x8 fun _ _ e=> .inr e).trans x9 fun _ _ e=> .inl e;have b8:=(im.ext (show ax H5 H7 by exact Vc.xt)).but x8 nj.symm;have b9:bu H9 b #[.map (some mb),.int .i64 ((cQ A:Int)+((CC.length:Int)-(fL A q:Int)))] 133:=(by rw[LK];exact b9);rw[show(cQ A:Int)+((CC.length:Int)-(fL A q:Int))=(cQ (iu (gi A []) q (false,CC)):Nat)by omega]at b9;exact⟨rfl,⟨m8.keep x9 nj (fun x e _=>by subst e;exact .inl (Du b8)),b9,fun x hx=>dG (h.low x hx) o9.size⟩,o9⟩)
   .rw[aN oK]at ju;have hw:iO A q CC=(A,55):=by
     unfold iO;rw[ak (by rw[fT];exact⟨hd,hf⟩),av (by omega)]
    rw[hw];refine Vc.az.body Tryz.func68 Tryz.call68 rfl (by decide+kernel) rfl ?_;((conv=>whnf);repeat(any_goals((first|(refine(cU _).mono ?_;rintro _ H1 ⟨rfl,cd⟩;have eR:=cd.size)|(refine(fy _ (by exact Vc.xt)).mono ?_;rintro v2 H2 ⟨fb,bh⟩;have dT:=bh.size;obtain⟨g2,a2,c2,rfl,di,cT⟩:=iJ.out fb;dsimp only at di cT)|(refine(jJ _ (by exact Vc.xt)).mono ?_;rintro _ H3 ⟨⟨a3,c3,rfl,eI⟩,bw⟩;have eJ:=bw.size)|(refine(Gy _ a2 c2 _ (cT.ext (by exact Vc.xt)) (hr.ext (by exact Vc.xt)) (by assumption)).mono ?_;rintro _ H4 ⟨⟨a4,c4,rfl,dE⟩,cH⟩;have gA:=cH.size)|(refine(ju _ (by exact Vc.xt)).mono ?_;rintro _ _ ⟨rfl,rfl⟩)|refine Vc.aq ?_|refine Vc.bz ?_ ?_)<;>(intros;(conv=>whnf)))))
    exact Did.none h (by exact Vc.xt) _
end Go.Proofs.YtphkaogbcfdllaaGreatDoor
namespace Go.cM
open Go.eg Go.cN
open Go.Vc (ck fk kX jX lf jy ka)
theorem M7 (A:Tr) (s b:ap) (h:65536<b.length):qH A s (b.take 65537)=qH A s b:=by
 have hl:(b.take 65537).length=65537:=by rw[aJ];omega
 have key: ∀ q x c,65536<c.length->iO A q (x++c)=if mV A q=true\/kG A q=true then(A,54)else(A,55):=by
  intro q x c hc;unfold iO;split
  .rfl
  .rw[av (.inl (by rw[au];omega))]
 unfold qH;rw[key _ _ _ (by omega),key _ _ _ h]
end Go.cM
namespace Go.Proofs.YtphkaogbcfdllaaGreatDoor
open Go Go.Vc Go.cN Go.eg Go.cM
variable {Z:Nat->Prop}
theorem Bt {b mb:Nat} {A:Tr} {H:ae} (h:iQ Z H b mb A) (hA:dr A) (p bs:Bs) (a:Option Addr) (n cap:Nat) (hr:Row H a (cv bs)) (hn:bs.length=n) (hm:n<=10000000000):
  az Tryz.prog 20 [.pointer (some ⟨b,0,none⟩),.string (ag p),.slice a n cap] H fun v H'=>Did Z H H' b mb v (nP A p bs):=by
 have hp:=OA h hA p bs a n cap false hr hn hm;rw[abQ]at hp;refine Vc.az.body Tryz.func20 Tryz.call20 rfl (by decide+kernel) rfl ?_;((conv=>whnf);repeat(any_goals((first|(refine hp.mono ?_;rintro v2 H2 hd;obtain rfl:=hd.code)|refine Vc.aq ?_|refine Vc.bz ?_ ?_)<;>(intros;(conv=>whnf)))))
 exact hd
theorem abR {b mb:Nat} {A:Tr} {H:ae} (h:iQ Z H b mb A) (hA:dr A) (p bs:Bs) (a:Option Addr) (n cap:Nat) (hr:Row H a (cv bs)) (hn:bs.length=n) (hc:n<=cap) (hm:n<=10000000000):
  az Tryz.prog 113 [.pointer (some ⟨b,0,none⟩),.string (ag p),.slice a n cap] H fun v H'=>Did Z H H' b mb v (qH A p bs):=by
 by_cases hb:65536<n
 .have hp:=OA h hA p (bs.take 65537) a 65537 cap true (by rw[<-zi];exact hr.take _) (by rw[aJ];omega) (by omega);rw[R6,M7 A p bs (by omega)]at hp;refine Vc.az.body Tryz.func113 Tryz.call113 rfl (by decide+kernel) rfl ?_;((conv=>whnf);repeat(any_goals((first|(refine dk.nat 65537 rfl (by omega) ?_)|(refine hp.mono ?_;rintro v2 H2 hd;obtain rfl:=hd.code)|refine Vc.aq ?_|refine Vc.bz ?_ ?_)<;>(intros;(conv=>whnf)))))
  exact hd
 .have hp:=OA h hA p bs a n cap true hr hn hm;rw[R6]at hp;refine Vc.az.body Tryz.func113 Tryz.call113 rfl (by decide+kernel) rfl ?_;((conv=>whnf);repeat(any_goals((first|(refine hp.mono ?_;rintro v2 H2 hd;obtain rfl:=hd.code)|refine Vc.aq ?_|refine Vc.bz ?_ ?_)<;>(intros;(conv=>whnf)))))
  exact hd
theorem Na {b mb:Nat} {A:Tr} {H:ae} (h:iQ Z H b mb A) (p:Bs):az Tryz.prog 21 [.pointer (some ⟨b,0,none⟩),.string (ag p)] H fun v H'=>v= .bool (uI A p)/\ax H H':=by
 have cU:=fun H=>vK p H;have fy:=fun H' (k:ax H H')=>BL (h.ext k) (cF p).1;unfold uI;by_cases h0:(cF p).2=0
 .rw[h0]at cU ⊢;cases hn:nodeAt A (cF p).1 with
  |none=>
   rw[hn]at fy;have e:((cF p).1== [] || (ck A (cF p).1).isSome)=false:=by
    unfold nodeAt at hn;split at hn
    .cases hn
    .rename_i cz;rw[hn];simpa using cz
   rw[e];refine Vc.az.body Tryz.func21 Tryz.call21 rfl (by decide+kernel) rfl ?_;((conv=>whnf);repeat(any_goals((first|(refine(cU _).mono ?_;rintro _ H1 ⟨rfl,cd⟩;have eR:=cd.size)|(refine(fy _ (by exact Vc.xt)).mono ?_;rintro v2 H2 ⟨fb,bh⟩;have dT:=bh.size;obtain rfl:=fb)|refine Vc.aq ?_|refine Vc.bz ?_ ?_)<;>(intros;(conv=>whnf)))))
   exact⟨rfl,by exact Vc.xt⟩
  |some n=>
   rw[hn]at fy;have e:((cF p).1== [] || (ck A (cF p).1).isSome)=true:=by
    unfold nodeAt at hn;split at hn
    .rename_i h;simp[h]
    .rw[hn];simp
   rw[e];refine Vc.az.body Tryz.func21 Tryz.call21 rfl (by decide+kernel) rfl ?_;((conv=>whnf);repeat(any_goals((first|(refine(cU _).mono ?_;rintro _ H1 ⟨rfl,cd⟩;have eR:=cd.size)|(refine(fy _ (by exact Vc.xt)).mono ?_;rintro v2 H2 ⟨fb,bh⟩;have dT:=bh.size;obtain⟨g2,a2,c2,rfl,di,cT⟩:=iJ.out fb;try dsimp only at di cT)|refine Vc.aq ?_|refine Vc.bz ?_ ?_)<;>(intros;(conv=>whnf)))))
   exact⟨rfl,by exact Vc.xt⟩
 .have e:((cF p).2==0)=false:=by simpa using h0
  rw[e,Bool.false_and];have rS: ¬((cF p).2:Int)=0:=by omega
  generalize cF p=c at*
  refine Vc.az.body Tryz.func21 Tryz.call21 rfl (by decide+kernel) rfl ?_;((conv=>whnf);repeat(any_goals((first|(refine(cU _).mono ?_;rintro _ H1 ⟨rfl,cd⟩;have eR:=cd.size)|refine Vc.aq ?_|refine Vc.bz ?_ ?_)<;>(intros;(conv=>whnf)))))
  exact⟨rfl,cd⟩
theorem Ub {b mb:Nat} {A:Tr} {H:ae} (h:iQ Z H b mb A) (hA:dr A) (p:Bs):az Tryz.prog 19 [.pointer (some ⟨b,0,none⟩),.string (ag p)] H fun v H'=>
  (∃ a cap,v= .tuple #[.slice a (qN A p).1.length cap,.int .i64 (qN A p).2]/\cq H' H.size 5 1 a (qN A p).1.length cap (cv (qN A p).1))/\ax H H':=by
 have cU:=fun H=>vK p H;obtain⟨qc,qw⟩:=ri p;unfold qN;by_cases h0: ¬(cF p).2=0
 .rw[ak h0];have rS: ¬((cF p).2:Int)=0:=by omega
  generalize cF p=c at*
  refine Vc.az.body Tryz.func19 Tryz.call19 rfl (by decide+kernel) rfl ?_;((conv=>whnf);repeat(any_goals((first|(refine(cU _).mono ?_;rintro _ H1 ⟨rfl,cd⟩;have eR:=cd.size)|refine Vc.aq ?_|refine Vc.bz ?_ ?_)<;>(intros;(conv=>whnf)))))
  exact⟨⟨none,0,rfl,cq.nil _ _ _ _⟩,cd⟩
 have h0:(cF p).2=0:=by omega
 rw[av h0];have hq:=oR h0;obtain⟨q,lE⟩: ∃ q,(cF p).1=q:=⟨_,rfl⟩;rw[h0,lE]at cU;rw[lE]at hq ⊢;have fy:=fun H' (k:ax H H')=>BL (h.ext k) q;by_cases hd:mV A q=true
 .obtain⟨t,ht⟩:=(xw A q).1 hd;rw[ht]at fy;rw[av (.inl hd)];refine Vc.az.body Tryz.func19 Tryz.call19 rfl (by decide+kernel) rfl ?_;((conv=>whnf);repeat(any_goals((first|(refine(cU _).mono ?_;rintro _ H1 ⟨rfl,cd⟩;have eR:=cd.size)|(refine(fy _ (by exact Vc.xt)).mono ?_;rintro v2 H2 ⟨fb,bh⟩;have dT:=bh.size;obtain⟨g2,a2,c2,rfl,di,cT⟩:=iJ.out fb;try dsimp only at di cT)|refine Vc.aq ?_|refine Vc.bz ?_ ?_)<;>(intros;(conv=>whnf)))))
  exact⟨⟨none,0,rfl,cq.nil _ _ _ _⟩,by exact Vc.xt⟩
 have mZ:q≠ []:=by rintro rfl;exact hd rfl
 have jJ:=fun H' (k:ax H H')=>JS (h.ext k) hq;unfold zN at jJ;cases hg:ck A q with
 |none=>
  rw[Nx hg mZ]at fy;by_cases hf:kG A q=true
  .simp only[av hf]at jJ;rw[av (.inr hf)];refine Vc.az.body Tryz.func19 Tryz.call19 rfl (by decide+kernel) rfl ?_;((conv=>whnf);repeat(any_goals((first|(refine(cU _).mono ?_;rintro _ H1 ⟨rfl,cd⟩;have eR:=cd.size)|(refine(fy _ (by exact Vc.xt)).mono ?_;rintro v2 H2 ⟨fb,bh⟩;have dT:=bh.size;obtain rfl:=fb)|(refine(jJ _ (by exact Vc.xt)).mono ?_;rintro _ H3 ⟨rfl,bw⟩;have eJ:=bw.size)|refine Vc.aq ?_|refine Vc.bz ?_ ?_)<;>(intros;(conv=>whnf)))))
   exact⟨⟨none,0,rfl,cq.nil _ _ _ _⟩,by exact Vc.xt⟩
  .simp only[ak hf]at jJ;rw[ak (by rw[fT];exact⟨hd,hf⟩)];refine Vc.az.body Tryz.func19 Tryz.call19 rfl (by decide+kernel) rfl ?_;((conv=>whnf);repeat(any_goals((first|(refine(cU _).mono ?_;rintro _ H1 ⟨rfl,cd⟩;have eR:=cd.size)|(refine(fy _ (by exact Vc.xt)).mono ?_;rintro v2 H2 ⟨fb,bh⟩;have dT:=bh.size;obtain rfl:=fb)|(refine(jJ _ (by exact Vc.xt)).mono ?_;rintro _ H3 ⟨⟨a3,c3,rfl,eI⟩,bw⟩;have eJ:=bw.size)|refine Vc.aq ?_|refine Vc.bz ?_ ?_)<;>(intros;(conv=>whnf)))))
   exact⟨⟨none,0,rfl,cq.nil _ _ _ _⟩,by exact Vc.xt⟩
 |some nd=>
  obtain⟨dir,old⟩:=nd;have sg:dir=false:=by
   cases dir with
   |false=>rfl
   |true=>exact absurd ((xw A q).2 ⟨old,Dj hg mZ⟩) hd
  subst sg;rw[Dj hg mZ]at fy;obtain⟨rP,HO⟩:=N3 hA hg;have hf: ¬kG A q=true:=by rw[HO];simp
  simp only[ak hf]at jJ;have j5:=(hA.file q _ hg).1;dsimp only at j5;rw[ak (by rw[fT];exact⟨hd,hf⟩)];dsimp only;refine Vc.az.body Tryz.func19 Tryz.call19 rfl (by decide+kernel) rfl ?_;((conv=>whnf);repeat(any_goals((first|(refine(cU _).mono ?_;rintro _ H1 ⟨rfl,cd⟩;have eR:=cd.size)|(refine(fy _ (by exact Vc.xt)).mono ?_;rintro v2 H2 ⟨fb,bh⟩;have dT:=bh.size;obtain⟨g2,a2,c2,rfl,di,cT⟩:=iJ.out fb;try dsimp only at di cT)|(refine(jJ _ (by exact Vc.xt)).mono ?_;rintro _ H3 ⟨⟨a3,c3,rfl,eI⟩,bw⟩;have eJ:=bw.size)|(refine(Fy old _ _ _ _ (cT.ext (by exact Vc.xt)) rfl (by omega)).mono ?_;rintro _ H4 ⟨⟨a4,c4,rfl,dE⟩,cH⟩;have gA:=cH.size)|refine Vc.aq ?_|refine Vc.bz ?_ ?_)<;>(intros;(conv=>whnf)))))
  exact⟨⟨a4,c4,rfl,dE.base (by omega)⟩,by exact Vc.xt⟩
end Go.Proofs.YtphkaogbcfdllaaGreatDoor
namespace Go.Proofs
open Go.Shelf
def Tryz.aaW:Go.Shelf.Ren:=⟨fun|190=>207|125=>135|258=>244|128=>190|129=>191|302=>262|303=>263|304=>264|305=>265|306=>266|307=>267|308=>268|309=>269|310=>270|333=>281|329=>223|330=>224|334=>282|335=>283|336=>136|344=>290|n=>n,fun|31=>38|9=>9|3=>3|46=>226|0=>0|51=>234|53=>187|4=>4|183=>283|182=>282|131=>190|5=>5|218=>330|222=>334|228=>357|229=>157|n=>n,fun|n=>n⟩
theorem Tryz.agp:Go.Proofs.Lays.n190 Tryz.prog Tryz.aaW:={
 mixed:=by kernel_rfl
 f125:=Tryz.func135.trans (aZ some (by kernel_rfl))
 f128:=Tryz.func190.trans (aZ some (by kernel_rfl))
 f129:=Tryz.func191.trans (aZ some (by kernel_rfl))
 f190:=Tryz.func207.trans (aZ some (by kernel_rfl))
 f258:=Tryz.func244.trans (aZ some (by kernel_rfl))
 f302:=Tryz.func262.trans (aZ some (by kernel_rfl))
 f303:=Tryz.func263.trans (aZ some (by kernel_rfl))
 f304:=Tryz.func264.trans (aZ some (by kernel_rfl))
 f305:=Tryz.func265.trans (aZ some (by kernel_rfl))
 f306:=Tryz.func266.trans (aZ some (by kernel_rfl))
 f307:=Tryz.func267.trans (aZ some (by kernel_rfl))
 f308:=Tryz.func268.trans (aZ some (by kernel_rfl))
 f309:=Tryz.func269.trans (aZ some (by kernel_rfl))
 f310:=Tryz.func270.trans (aZ some (by kernel_rfl))
 f329:=Tryz.func223.trans (aZ some (by kernel_rfl))
 f330:=Tryz.func224.trans (aZ some (by kernel_rfl))
 f333:=Tryz.func281.trans (aZ some (by kernel_rfl))
 f334:=Tryz.func282.trans (aZ some (by kernel_rfl))
 f335:=Tryz.func283.trans (aZ some (by kernel_rfl))
 f336:=Tryz.func136.trans (aZ some (by kernel_rfl))
 f344:=Tryz.func290.trans (aZ some (by kernel_rfl))
 t0:=Tryz.underlying0
 a0:=Tryz.isAgg0
 z0:=Tryz.sizeOf0
 v0:=Tryz.zeroValue0
 t3:=Tryz.underlying3
 a3:=Tryz.isAgg3
 z3:=Tryz.sizeOf3
 v3:=Tryz.zeroValue3
 t4:=Tryz.underlying4
 a4:=Tryz.isAgg4
 z4:=Tryz.sizeOf4
 v4:=Tryz.zeroValue4
 t5:=Tryz.underlying5
 a5:=Tryz.isAgg5
 z5:=Tryz.sizeOf5
 v5:=Tryz.zeroValue5
 t9:=Tryz.underlying9
 a9:=Tryz.isAgg9
 z9:=Tryz.sizeOf9
 v9:=Tryz.zeroValue9
 t31:=Tryz.underlying38
 a31:=Tryz.isAgg38
 z31:=Tryz.sizeOf38
 v31:=Tryz.zeroValue38
 t46:=Tryz.underlying226
 a46:=Tryz.isAgg226
 z46:=Tryz.sizeOf226
 v46:=Tryz.zeroValue226
 t51:=Tryz.underlying234
 a51:=Tryz.isAgg234
 z51:=Tryz.sizeOf234
 v51:=Tryz.zeroValue234
 t53:=Tryz.underlying187
 a53:=Tryz.isAgg187
 z53:=Tryz.sizeOf187
 v53:=Tryz.zeroValue187
 t131:=Tryz.underlying190
 a131:=Tryz.isAgg190
 z131:=Tryz.sizeOf190
 v131:=Tryz.zeroValue190
 t182:=Tryz.underlying282
 a182:=Tryz.isAgg282
 z182:=Tryz.sizeOf282
 v182:=Tryz.zeroValue282
 t183:=Tryz.underlying283
 a183:=Tryz.isAgg283
 z183:=Tryz.sizeOf283
 v183:=Tryz.zeroValue283
 t218:=Tryz.underlying330
 a218:=Tryz.isAgg330
 z218:=Tryz.sizeOf330
 v218:=Tryz.zeroValue330
 t222:=Tryz.underlying334
 a222:=Tryz.isAgg334
 z222:=Tryz.sizeOf334
 v222:=Tryz.zeroValue334
 t228:=Tryz.underlying357
 a228:=Tryz.isAgg357
 z228:=Tryz.sizeOf357
 v228:=Tryz.zeroValue357
 t229:=Tryz.underlying157
 a229:=Tryz.isAgg157
 z229:=Tryz.sizeOf157
 v229:=Tryz.zeroValue157}
open Go.Sort Go.RowKit in
theorem Tryz.slices_Sort_string (cL off cap:Nat) (ss:List (List UInt8)) (w:World) (hH:Holds encStr w cL off ss.toArray) (hblk:cL<w.heap.size) (ez:ss.length<4611686018427387904):
  Calls Tryz.prog 207 #[.slice (some ⟨cL,off,none⟩) ss.length cap] w fun e w'=>
   e= .returned (.tuple #[])/\ ∃ n os,w'=grow (putRow encStr (Sort.ahead w n) cL off (ss.mergeSort fun x y=>decide (x<=y)).toArray) os:=Any.slices_Sort_string Tryz.agp cL off cap ss w hH hblk ez
end Go.Proofs
namespace Go.Vc
theorem Tk {w:World} {base g n cap k:Nat} {e:TypeId} {xs:List Value} (h:cq w.heap base e k (some ⟨g,0,none⟩) n cap xs):Go.Sort.Holds id w g 0 xs.toArray:=by
 intro j hj;have Cu:j<xs.length:=by simpa using hj
 have hlen:=h.len;rcases h.out with ⟨h1,_⟩|⟨g',eE,h1,hb,hg,Cx,Ev,hcs,BS⟩
 .cases h1
 .cases h1;obtain⟨fr,pb,rI⟩:=hg.out;have XR:j<eE.size:=by rw[hcs];have:=eZ k Cx;omega
  have rC:eE[j]? =some xs[j]:=by
   have:=aZ (·[j]?) BS;simp only[dU,av (show j<n*k by omega),dL]at this;rw[this,aD Cu]
  have hid:xs.toArray[j]! =xs[j]:=by simp[Cu]
  rw[aQ];constructor
  .rw[hid];simp[World.cell?,pb,rC]
  .obtain⟨lo,hi⟩:=fr;simp only[World.frozen?,pb];rcases rI with h2|h2
   .simp only[Bool.and_eq_false_iff,aY];dsimp only at h2 ⊢;omega
   .simp only[Bool.and_eq_false_iff,aY];dsimp only at h2 ⊢;omega
theorem ac6 (ys:List Value) (eE:Array Value) (j:Nat):(Go.Sort.putCells id 0 ys.toArray eE)[j]? =if j<eE.size then(if j<ys.length then ys[j]? else eE[j]?)else none:=by
 unfold Go.Sort.putCells;rw[Array.getElem?_mapIdx];by_cases hj:j<eE.size
 .rw[av hj,Array.getElem?_eq_getElem hj,fI];by_cases h2:j<ys.length
  .rw[av ⟨aI _,by simpa using h2⟩,av h2,aD h2];simp[h2]
  .rw[ak (by simp;omega),ak h2]
 .rw[ak hj,bN (by omega)];rfl
theorem Vb {w:World} {base g n cap k:Nat} {e:TypeId} {xs ys:List Value} (h:cq w.heap base e k (some ⟨g,0,none⟩) n cap xs) (hl:ys.length=xs.length) (m:Nat) (os:Array Obj):
  cq (Go.Sort.grow (Go.Sort.putRow id (Go.Sort.ahead w m) g 0 ys.toArray) os).heap base e k (some ⟨g,0,none⟩) n cap ys/\Wr (some ⟨g,0,none⟩) w.heap (Go.Sort.grow (Go.Sort.putRow id (Go.Sort.ahead w m) g 0 ys.toArray) os).heap:=by
 have hlen:=h.len;obtain⟨W,hW⟩: ∃ W:ae,(Go.Sort.grow (Go.Sort.putRow id (Go.Sort.ahead w m) g 0 ys.toArray) os).heap=W:=⟨_,rfl⟩;have XX:W=w.heap.modify g (Go.Sort.onCells (Go.Sort.putCells id 0 ys.toArray))++os:=hW.symm;rw[hW];have ez:w.heap.size<=W.size:=by rw[XX];simp
 have nQ: ∀ b,b<w.heap.size->W[b]? =if g=b then(w.heap[b]?).map (Go.Sort.onCells (Go.Sort.putCells id 0 ys.toArray))else w.heap[b]? :=fun b hb=>by
  rw[XX,eu (by simpa using hb),fG]
 rcases h.out with ⟨h1,_⟩|⟨g',eE,h1,hb,hg,Cx,Ev,hcs,BS⟩
 .cases h1
 .cases h1;obtain⟨fr,pb,rI⟩:=hg.out;have ct:=hg.lt;refine⟨⟨by rw[hl];exact hlen,.inr ⟨g,Go.Sort.putCells id 0 ys.toArray eE,rfl,hb,⟨fr,?_,?_⟩,Cx,Ev,?_,?_⟩⟩,ez,fun b hb hF=> ?_⟩
  .rw[nQ g ct,av rfl,pb];rfl
  .have:(Go.Sort.putCells id 0 ys.toArray eE).size=eE.size:=by simp[Go.Sort.putCells]
   rw[this];exact rI
  .have:(Go.Sort.putCells id 0 ys.toArray eE).size=eE.size:=by simp[Go.Sort.putCells]
   rw[this];exact hcs
  .apply fF;intro j;rw[dU,dL,ac6];have hnk:=eZ k Cx;by_cases hj:j<n*k
   .rw[av hj,av (by omega),av (by omega)]
   .rw[ak hj,dX (by omega)]
  .rw[nQ b hb,ak fun e=>hF ⟨_,rfl,e⟩]
end Go.Vc
namespace Go.Proofs.YtphkaogbcfdllaaGreatDoor
open Go Go.Vc Go.cN
theorem agq {α:Type} [Inhabited α] (enc:α->Value) (w:World) (g:Nat) (d:List α):Go.Sort.putRow enc w g 0 d.toArray=Go.Sort.putRow id w g 0 (d.map enc).toArray:=by
 unfold Go.Sort.putRow;refine Go.Sort.mapBlock_congr w g _ _ fun c _ _ _=> ?_;unfold Go.Sort.putCells;congr 1;funext k x
 by_cases h:k<d.length
 .rw[av (by simpa using h),av (by simpa using h)];simp[h]
 .rw[ak (by simpa using h),ak (by simpa using h)]
theorem ac7 {α:Type} [Inhabited α] (enc:α->Value) (w:World) (g:Nat) (d:List α) (h:Go.Sort.Holds id w g 0 (d.map enc).toArray):Go.Sort.Holds enc w g 0 d.toArray:=by
 intro j hj;have Cu:j<d.length:=by simpa using hj
 have:=h j (by simpa using Cu);have e:enc d.toArray[j]! =id (d.map enc).toArray[j]! :=by simp[Cu]
 rw[e];exact this
theorem aeM (l:List Bs) (g n cap base:Nat) (H:ae) (ho:cq H base 9 1 (some ⟨g,0,none⟩) n cap (strs l)) (hn:l.length=n) (hm:n<=1000000000):
  az Tryz.prog 207 [.slice (some ⟨g,0,none⟩) n cap] H fun v H'=>v= .tuple #[]/\(∃ l':List Bs,l'.Perm l/\cq H' base 9 1 (some ⟨g,0,none⟩) n cap (strs l'))/\Wr (some ⟨g,0,none⟩) H H':=by
 subst hn;refine az.calls Tryz.call207 fun w hw=> ?_;subst hw;have hb:=(ho.block _ rfl).2;have hs:strs l=l.map Go.Proofs.encStr:=rfl;refine Calls.mono (Tryz.slices_Sort_string g 0 cap l w (ac7 _ w g l (Tk (hs▸ho))) hb (by omega)) ?_;rintro e w' ⟨h1,m,os,rfl⟩;have hp:=List.mergeSort_perm l (fun x y=>decide (x<=y));obtain⟨g1,g2⟩:=Vb (ys:=strs (l.mergeSort fun x y=>decide (x<=y))) ho (by simp[strs,hp.length_eq]) m os;rw[agq Go.Proofs.encStr];exact⟨_,h1,⟨rfl,rfl,rfl⟩,rfl,⟨_,hp,g1⟩,g2⟩
end Go.Proofs.YtphkaogbcfdllaaGreatDoor
namespace Go.cM
open Go.eg Go.cN
open Go.Vc (ck fk kX jX lf jy ka)
theorem abS {A:Tr} (h:Sorted A) (l:List ap) (p:ap):gi A (l.reverse++[p])=gi A (l++[p]):=Sz h fun x=>by simp
def nS (A:Tr) (l:List ap):Tr:=A.filter fun x=> !(l.any fun k=>k==x.1)
theorem ac8 (A:Tr):nS A []=A:=by simp[nS]
theorem SB (A:Tr) (l:List ap) (k:ap):(nS A l).filter (fun x=> !(x.1==k))=nS A (l++[k]):=by
 unfold nS;rw[List.filter_filter];congr 1;funext x;rw[List.any_append,Bool.not_or,List.any_cons,List.any_nil,Bool.or_false];have:(x.1==k)=(k==x.1):=by rw[dI,bU,bU];exact eq_comm
 rw[this,Bool.and_comm]
theorem SC (A:Tr) (l:List ap) (k:ap):ck (nS A l) k=if k∈l then none else ck A k:=by
 unfold nS;rw[Fh (fun x=> !(l.any fun k=>k==x))];by_cases h:k∈l
 .rw[av h,ak];simp;exact h
 .rw[ak h,av];simp;exact fun x hx e=>h (e▸hx)
theorem RN {A:Tr} (h:Sorted A) (l:List ap):Sorted (nS A l):=gq fD h
theorem aeN {A:Tr} (h:Sorted A) (k:ap):cQ (A.filter fun x=> !(x.1==k))+fL A k=cQ A:=by
 induction A with
 |nil=>simp[cQ,fL,ck]
 |cons x l ih=>
  have ih:=ih (bI.1 h).2;have e1: ∀ (y:ap×Node) (m:Tr),cQ (y::m)=y.2.2.length+cQ m:=fun y m=>by simp[cQ]
  rw[dN];by_cases hx:x.1=k
  .rw[ak (by simp[hx]),e1];have e2:fL (x::l) k=x.2.2.length:=by unfold fL;simp only[ck];rw[av hx.symm]
   have e3:l.filter (fun x=> !(x.1==k))=l:=by
    rw[List.filter_eq_self];intro y hy;have:=r7 ((bI.1 h).1 y hy);rw[hx]at this;simp;exact fun e=>this e.symm
   rw[e2,e3];omega
  .rw[av (by simpa using hx),e1,e1];have e2:fL (x::l) k=fL l k:=by unfold fL;simp only[ck];rw[ak (fun e=>hx e.symm)]
   rw[e2];omega
theorem aeO {A:Tr} {l:List ap} {p:ap} (h: ∀ k,k∈l↔k∈A.map (·.1)/\eL k p=true):nS A l=A.filter fun x=> !eL x.1 p:=by
 unfold nS;refine List.filter_congr fun x hx=> ?_;congr 1;rw[dI,List.any_eq_true];constructor
 .rintro⟨k,hk,e⟩;rw[bU]at e;subst e;exact((h _).1 hk).2
 .intro hw;exact⟨x.1,(h _).2 ⟨fE hx,hw⟩,by simp⟩
end Go.cM
namespace Go.Proofs.YtphkaogbcfdllaaGreatDoor
open Go Go.Vc Go.cN Go.eg Go.cM
variable {Z:Nat->Prop}
theorem Bu {b mb:Nat} {A:Tr} {H:ae} (h:iQ Z H b mb A) (hA:dr A) (p:Bs):az Tryz.prog 73 [.pointer (some ⟨b,0,none⟩),.string (ag p)] H fun v H'=>Did Z H H' b mb v (oU A p):=by
 have cU:=fun H=>vK p H;have nj:=h.map.ne h.cL;obtain⟨qc,qw⟩:=ri p;unfold oU;by_cases h0: ¬(cF p).2=0
 .rw[ak h0];have rS: ¬((cF p).2:Int)=0:=by omega
  generalize cF p=c at*
  refine Vc.az.body Tryz.func73 Tryz.call73 rfl (by decide+kernel) rfl ?_;((conv=>whnf);repeat(any_goals((first|(refine(cU _).mono ?_;rintro _ H1 ⟨rfl,cd⟩;have eR:=cd.size)|refine Vc.aq ?_|refine Vc.bz ?_ ?_)<;>(intros;(conv=>whnf)))))
  exact Did.none h cd _
 have h0:(cF p).2=0:=by omega
 rw[av h0];have hq:=oR h0;obtain⟨q,lE⟩: ∃ q,(cF p).1=q:=⟨_,rfl⟩;rw[h0,lE]at cU;rw[lE]at hq ⊢;have fy:=fun H' (k:ax H H')=>BL (h.ext k) q;unfold zM;by_cases hd:mV A q=true
 .obtain⟨t,ht⟩:=(xw A q).1 hd;rw[ht]at fy;rw[av hd];refine Vc.az.body Tryz.func73 Tryz.call73 rfl (by decide+kernel) rfl ?_;((conv=>whnf);repeat(any_goals((first|(refine(cU _).mono ?_;rintro _ H1 ⟨rfl,cd⟩;have eR:=cd.size)|(refine(fy _ (by exact Vc.xt)).mono ?_;rintro v2 H2 ⟨fb,bh⟩;have dT:=bh.size;obtain⟨g2,a2,c2,rfl,di,cT⟩:=iJ.out fb;try dsimp only at di cT)|refine Vc.aq ?_|refine Vc.bz ?_ ?_)<;>(intros;(conv=>whnf)))))
  exact Did.none h (by exact Vc.xt) _
 rw[ak hd];have mZ:q≠ []:=by rintro rfl;exact hd rfl
 have jJ:=fun H' (k:ax H H')=>JS (h.ext k) hq;unfold zN at jJ;cases hg:ck A q with
 |some nd=>
  obtain⟨dir,old⟩:=nd;have sg:dir=false:=by
   cases dir with
   |false=>rfl
   |true=>exact absurd ((xw A q).2 ⟨old,Dj hg mZ⟩) hd
  subst sg;rw[Dj hg mZ]at fy;rw[av (.inl rfl)];refine Vc.az.body Tryz.func73 Tryz.call73 rfl (by decide+kernel) rfl ?_;((conv=>whnf);repeat(any_goals((first|(refine(cU _).mono ?_;rintro _ H1 ⟨rfl,cd⟩;have eR:=cd.size)|(refine(fy _ (by exact Vc.xt)).mono ?_;rintro v2 H2 ⟨fb,bh⟩;have dT:=bh.size;obtain⟨g2,a2,c2,rfl,di,cT⟩:=iJ.out fb;try dsimp only at di cT)|refine Vc.aq ?_|refine Vc.bz ?_ ?_)<;>(intros;(conv=>whnf)))))
  exact Did.none h (by exact Vc.xt) _
 |none=>
  rw[Nx hg mZ]at fy;by_cases hf:kG A q=true
  .simp only[av hf]at jJ;rw[av (.inr hf)];refine Vc.az.body Tryz.func73 Tryz.call73 rfl (by decide+kernel) rfl ?_;((conv=>whnf);repeat(any_goals((first|(refine(cU _).mono ?_;rintro _ H1 ⟨rfl,cd⟩;have eR:=cd.size)|(refine(fy _ (by exact Vc.xt)).mono ?_;rintro v2 H2 ⟨fb,bh⟩;have dT:=bh.size;obtain rfl:=fb)|(refine(jJ _ (by exact Vc.xt)).mono ?_;rintro _ H3 ⟨rfl,bw⟩;have eJ:=bw.size)|refine Vc.aq ?_|refine Vc.bz ?_ ?_)<;>(intros;(conv=>whnf)))))
   exact Did.none h (by exact Vc.xt) _
  simp only[ak hf]at jJ;rw[ak (by rw[fT];exact⟨by simp,hf⟩)];have uh:(dm A q).length<=12:=by
   have h1:(dm A q).length<=(jm q).length:=dY _ _;have h2:=hq.parts.deep;rw[Dt]at h1;omega
  have vq:=hA.count;have qZ:=hA.size;have ju:=fun H' (k:ax H H')=>Dw (h.ext k) hA.sorted (by omega) (by omega) ((dm A q).length+1) 0 (by omega) (by omega);rw[show(((dm A q).length+1:Nat):Int)=((dm A q).length:Int)+1 by omega]at ju;by_cases oK:(dm A q).length+1+A.length<=500
  .rw[bB ⟨oK,by omega⟩]at ju;rw[ak (by omega)];refine Vc.az.body Tryz.func73 Tryz.call73 rfl (by decide+kernel) rfl ?_;((conv=>whnf);repeat(any_goals((first|(refine(cU _).mono ?_;rintro _ H1 ⟨rfl,cd⟩;have eR:=cd.size)|(refine(fy _ (by exact Vc.xt)).mono ?_;rintro v2 H2 ⟨fb,bh⟩;have dT:=bh.size;obtain rfl:=fb)|(refine(jJ _ (by exact Vc.xt)).mono ?_;rintro _ H3 ⟨⟨a3,c3,rfl,eI⟩,bw⟩;have eJ:=bw.size)|(refine(ju _ (by exact Vc.xt)).mono ?_;rintro _ _ ⟨rfl,rfl⟩)|(refine cP.DK (by assumption) (eI.ext (by assumption)) (by omega) (by omega) rfl ⟨_,rfl,fun _ h=>by cases h⟩ rfl rfl rfl rfl rfl rfl rfl ?_;intro a6 c6 H6 ei fS j6;have WO:=(show ax H2 H6 from(bw.trans (by assumption)).wr (eI.ext (by assumption)) (aB _) j6))|(refine(FJ (h.cL.ext (by exact Vc.xt)) (h.map.ext (by exact Vc.xt)) ((dm A q).reverse++[q]) a6 _ c6 (by(have:=ei.row);rw[Jt];exact this) (by simp) (by omega)).mono ?_;rintro _ H7 ⟨rfl,me,dq⟩;have jK:=dq.size)|refine Vc.aq ?_|refine Vc.bz ?_ ?_)<;>(intros;(conv=>whnf)))))
   have kj:=(show ax H H6 by exact Vc.xt);rw[abS hA.sorted]at me;have ez:cQ (gi A (dm A q++[q]))=cQ A:=Db hA.sorted fun d hd=>by
    rcases bZ.1 hd with hd|hd
    .exact(tq hd).2
    .rw[aW]at hd;subst hd;exact hg
   exact⟨rfl,⟨me,by rw[ez];exact(h.cL.ext kj).but dq nj.symm,fun x hx=>dG (h.low x hx) (dh kj.size dq.size)⟩,kj.only.trans dq fun _ _ e=> .inr e⟩
  .rw[aN (fun e=>oK e.1)]at ju;rw[av (by omega)];refine Vc.az.body Tryz.func73 Tryz.call73 rfl (by decide+kernel) rfl ?_;((conv=>whnf);repeat(any_goals((first|(refine(cU _).mono ?_;rintro _ H1 ⟨rfl,cd⟩;have eR:=cd.size)|(refine(fy _ (by exact Vc.xt)).mono ?_;rintro v2 H2 ⟨fb,bh⟩;have dT:=bh.size;obtain rfl:=fb)|(refine(jJ _ (by exact Vc.xt)).mono ?_;rintro _ H3 ⟨⟨a3,c3,rfl,eI⟩,bw⟩;have eJ:=bw.size)|(refine(ju _ (by exact Vc.xt)).mono ?_;rintro _ _ ⟨rfl,rfl⟩)|refine Vc.aq ?_|refine Vc.bz ?_ ?_)<;>(intros;(conv=>whnf)))))
   exact Did.none h (by exact Vc.xt) _
end Go.Proofs.YtphkaogbcfdllaaGreatDoor
namespace Go.Proofs.YtphkaogbcfdllaaGreatDoor
open Go Go.Vc Go.cN Go.eg Go.cM
variable {Z:Nat->Prop}
theorem aeP (l:List Bs) (a:Option Addr) (n cap base:Nat) (H:ae) (ho:cq H base 9 1 a n cap (strs l)) (hn:l.length=n) (cz:l≠ []) (hm:n<=1000000000):
  az Tryz.prog 207 [.slice a n cap] H fun v H'=>v= .tuple #[]/\(∃ l':List Bs,l'.Perm l/\cq H' base 9 1 a n cap (strs l'))/\Wr a H H':=by
 rcases ho.out with ⟨_,h0,_⟩|⟨g,eE,rfl,_⟩
 .exact absurd (bF (by omega)) cz
 .exact aeM l g n cap base H ho hn hm
structure BlS where
 eQ:List Bs
 a:Option Addr
 cap:Nat
theorem Tl {H:ae} {A:Tr} {lm:List (Bs×Value)} (h2: ∀ k,ck A k=none->ck lm k=none) (h3: ∀ k n,ck A k=some n-> ∃ v,ck lm k=some v/\iJ Z H v n) (k:Bs):k∈lm.map (·.1)↔k∈A.map (·.1):=by
 have e1:=ka (l:=lm) (k:=k);have e2:=ka (l:=A) (k:=k);constructor
 .intro h;apply eH;intro hn;exact e1.1 (h2 k (e2.2 hn)) h
 .intro h;apply eH;intro hn;cases hg:ck A k with
  |none=>exact e2.1 hg h
  |some n=>obtain⟨v,hv,_⟩:=h3 k n hg;rw[e1.2 hn]at hv;cases hv
structure ahv (H':ae) (base:Nat) (v:Value) (A:Tr) (p:ap) (l:List Bs) (a:Option Addr) (cap:Nat):Prop where
 val:v= .slice a l.length cap
 own:cq H' base 9 1 a l.length cap (strs l)
 nodup:l.Nodup
 mem: ∀ k,k∈l↔k∈A.map (·.1)/\eL k p=true
 len:l.length<=A.length
set_option maxHeartbeats 1000000 in
theorem Tm {b mb:Nat} {A:Tr} {H:ae} (h:iQ Z H b mb A) (hA:dr A) (p:Bs) (hp:p.length<=100000000) (cz:ck A p≠none):az Tryz.prog 168 [.pointer (some ⟨b,0,none⟩),.string (ag p)] H fun v H'=>(∃ l a cap,ahv H' H.size v A p l a cap)/\ax H H':=by
 have hb:=h.cL;obtain⟨lm,hm,h2,h3⟩:=h.map.out;have DU:=Tl h2 h3;have hlen:=jw.len hA.sorted.nodup hm h2 h3;have vq:=hA.count;refine Vc.az.body Tryz.func168 Tryz.call168 rfl (by decide+kernel) rfl ?_;((conv=>whnf);repeat(any_goals((first|((with_reducible apply aE.rangeMap hm);rfl;(intro H1 z1 Qw x1;(conv=>whnf)))|refine Vc.aq ?_|refine Vc.bz ?_ ?_)<;>(intros;(conv=>whnf)))))
 refine dt.intro (fun(x:BlS)=>[(5,.slice x.a (x.eQ.filter fun k=>eL k p).length x.cap)])
  (fun x H'=>og H' H.size mb lm x.eQ/\cq H' H1.size 9 1 x.a (x.eQ.filter fun k=>eL k p).length x.cap (strs (x.eQ.filter fun k=>eL k p))/\ax H H') (fun x=>lm.length-x.eQ.length) ⟨[],none,0⟩ ⟨rfl,aF⟩ ⟨Qw,cq.nil _ _ _ _,x1⟩ ?_
 rintro⟨eQ,a,cap⟩ H2 ⟨hit,dy,bh⟩;dsimp only at hit dy ⊢;have dT:=bh.size;have nH:=Bp hit.nodup hit.sub;rw[dn]at nH;have lQ:(eQ.filter fun k=>eL k p).length<=eQ.length:=dY _ _;have Ld:p∈A.map (·.1):=eH fun hn=>cz (ka.2 hn);have Qx:eL p p=true:=by unfold eL;simp
 have iW:(∀ k∈lm.map (·.1),k∈eQ)-> ∀ k,k∈(eQ.filter fun k=>eL k p)↔k∈A.map (·.1)/\eL k p=true:=fun ii k=>by
  rw[bT];constructor
  .rintro⟨h4,h5⟩;exact⟨(DU k).1 (hit.sub k h4),h5⟩
  .rintro⟨h4,h5⟩;exact⟨ii k ((DU k).2 h4),h5⟩
 have D5:(∀ k∈lm.map (·.1),k∈eQ)->(eQ.filter fun k=>eL k p)≠ []:=fun ii e=>by
  have:=(iW ii p).2 ⟨Ld,Qx⟩;rw[e]at this;cases this
 have CN:(eQ.filter fun k=>eL k p).Nodup:=List.Nodup.sublist fD hit.nodup;have jQ: ∀ k∈lm.map (·.1),k.length<=200:=fun k hk=>by
  have hk:=(DU k).1 hk;cases hg:ck A k with
  |none=>exact absurd hk (ka.1 hg)
  |some n=>
   obtain⟨⟨l,rfl,hl⟩,_⟩:=hA.clean k n hg;exact hl.long
 have mG: ∀ l':List Bs,l'.Perm (eQ.filter fun k=>eL k p)->l'.length=(eQ.filter fun k=>eL k p).length:=fun l' hp=>hp.length_eq;((conv=>whnf);repeat(any_goals((first|((with_reducible refine aE.U3 hit ?_ ?_);rotate_left;intro k v H5 wE oH z5 wl PG cE;have EE:k∈List.map (fun x=>x.1) lm:=bH.2 ⟨(k,v),wE,rfl⟩;have uf:=jQ k EE;(conv=>whnf);rotate_left;intro ii;(conv=>whnf))|((with_reducible apply aE.T5 PG);(conv=>whnf))|(refine(aeP _ _ _ _ _ _ dy rfl (D5 ii) (by omega)).mono ?_;rintro _ H6 ⟨rfl,⟨l',pN,ei⟩,cV⟩;have fS:=cV.size)|(refine(Sw k p (by omega) (by omega) _).mono ?_;rintro _ _ ⟨rfl,rfl⟩)|refine Vc.aq ?_)<;>(intros;(conv=>whnf)))))
 .refine⟨⟨l',a,cap,⟨?_,?_,pN.nodup_iff.2 CN,fun k=>pN.mem_iff.trans (iW ii k),?_⟩⟩,bh.wr dy (by omega) cV⟩
  .rw[mG l' pN];rfl
  .rw[mG l' pN];exact ei.base (by omega)
  .rw[mG l' pN];omega
 .have eW:=dy.keep cE fun p hp e=>dy.low (b:=H.size) (by omega) ⟨p,hp,e⟩;have iR:ax H H5:=bh.but cE (aB _);cases hw:eL k p with
  |false=>
   have e:((eQ++[k]).filter fun k=>eL k p)=eQ.filter fun k=>eL k p:=by
    rw[List.filter_append,dN,ak (by rw[hw];simp),List.filter_nil,dD]
   ((conv=>whnf);repeat(any_goals((first|refine Vc.aq ?_|refine Vc.bz ?_ ?_)<;>(intros;(conv=>whnf)))))
   exact⟨⟨eQ++[k],a,cap⟩,⟨by dsimp only;rw[e];rfl,aF⟩,⟨wl,by dsimp only;rw[e];exact eW,iR⟩,by have:=Bp wl.nodup wl.sub;rw[dn,au,dQ]at this;show lm.length-(eQ++[k]).length<_;rw[au,dQ];show _<lm.length-eQ.length;omega⟩
  |true=>
   have e:((eQ++[k]).filter fun k=>eL k p)=(eQ.filter fun k=>eL k p)++[k]:=by
    rw[List.filter_append,dN,av hw,List.filter_nil]
   ((conv=>whnf);repeat(any_goals((first|(refine cP.DK (by assumption) (eW.ext (by assumption)) (by omega) (by omega) rfl ⟨_,rfl,fun _ h=>by cases h⟩ rfl rfl rfl rfl rfl rfl rfl ?_;intro a6 c6 H6 ei fS j6;have ai6:=(wl.ext (by assumption)).wr (eW.ext (by assumption)) j6;have kj:=(show ax H H6 from(iR.trans (by assumption)).wr (eW.ext (by assumption)) (by omega) j6))|refine Vc.aq ?_|refine Vc.bz ?_ ?_)<;>(intros;(conv=>whnf)))))
   exact⟨⟨eQ++[k],a6,c6⟩,⟨by dsimp only;rw[e];exact uF _ _ _ _,aF⟩,⟨ai6,by dsimp only;rw[e];exact tp rfl ei,kj⟩,by have:=Bp wl.nodup wl.sub;rw[dn,au,dQ]at this;show lm.length-(eQ++[k]).length<_;rw[au,dQ];show _<lm.length-eQ.length;omega⟩
theorem Uc {b mb:Nat} {A:Tr} {H:ae} (h:iQ Z H b mb A) (hA:Sorted A) (hs:cQ A<=100000000) (l:List Bs) (a:Option Addr) (n cap:Nat) (hr:Row H a (strs l)) (hn:l.length=n) (wO:n<=1000000) (nW:l.Nodup) (ua: ∀ k∈l,ck A k≠none):
  az Tryz.prog 167 [.pointer (some ⟨b,0,none⟩),.slice a n cap] H fun v H'=>v= .tuple #[]/\iQ Z H' b mb (nS A l)/\B9 b mb H H':=by
 refine Vc.az.body Tryz.func167 Tryz.call167 rfl (by decide+kernel) rfl ?_;have nj:=h.map.ne h.cL;((conv=>whnf);repeat(any_goals((first|refine Vc.aq ?_|refine Vc.bz ?_ ?_)<;>(intros;(conv=>whnf)))))
 refine dt.intro (fun(i:Nat)=>[(8,.int .i64 i)]) (fun i H'=>i<=n/\iQ Z H' b mb (nS A (l.take i))/\B9 b mb H H') (fun i=>n-i) 0 ⟨rfl,aF⟩ ⟨aI _,by rw[fu,ac8];exact h,cD.refl _ _⟩ ?_;rintro i H2 ⟨hi,EF,bh⟩;have dT:=bh.size;have di:=EF.cL;have wN:=EF.map;have cT:=hr.texts bh fun x e _=>by
  rcases e with rfl|rfl
  .exact h.jT.mF
  .exact h.map.jT.mF
 by_cases ct:i<n
 .obtain⟨k,hk⟩: ∃ k,l[i]? =some k:=⟨_,aD (by omega)⟩;have jQ:k∈l:=aU hk;have oH:k∉l.take i:=fun hm=>by
   have h1:=dF i l;have h2:l.drop i=k::l.drop (i+1):=by
    rw[bP (by omega)];rw[aD (by omega)]at hk;rw[bW hk]
   rw[h2]at h1;rw[<-h1,List.nodup_append]at nW;exact nW.2.2 k hm k (by simp) rfl
  obtain⟨nd,hg⟩: ∃ nd,ck (nS A (l.take i)) k=some nd:=by
   rw[SC,ak oH];cases hg:ck A k with
   |none=>exact absurd hg (ua k jQ)
   |some nd=>exact⟨nd,rfl⟩
  have Qy:=aeN (RN hA (l.take i)) k;have LL:cQ (nS A (l.take i))<=100000000:=dh (Fj _ _) hs;rw[SB]at Qy;have iM:fL (nS A (l.take i)) k=nd.2.length:=by unfold fL;rw[hg]
  have e1:l.take (i+1)=l.take i++[k]:=by rw[bX,hk];rfl
  have e2:K9 (nS A (l.take i)) k=nS A (l.take (i+1)):=by rw[e1,<-SB];rfl
  rw[<-e1]at Qy;((conv=>whnf);repeat(any_goals((first|(refine cm.fe cT hn i k (by omega) hk ?_;intro _ _ _ _ _)|((with_reducible apply FG wN hg);rfl;rfl;rfl;rfl;(intro g1 a1 c1 k1 k2;(conv=>whnf)))|((with_reducible apply agf);(focus((exact wN.keep (by assumption) nj (fun x e _=>by subst e;exact .inl (Du di)))));rfl;rfl;(intro H5 z5 m5 x5;(conv=>whnf)))|((with_reducible refine Vc.cy.held [0,1,2,3,4,5,6,7,8,9,10,11,12,13,14,15,16,17] [(9,[3])] mixed (by decide+kernel) ?_))|refine Vc.aq ?_|refine Vc.bz ?_ ?_)<;>(intros;(conv=>whnf)))))
  rename_i H4 z4 b4 x4;rw[e2]at m5;have XY:bu H4 b #[.map (some mb),.int .i64 ((cQ (nS A (l.take i)):Int)-nd.2.length)] 133:=b4;rw[show(cQ (nS A (l.take i)):Int)-nd.2.length=(cQ (nS A (l.take (i+1))):Nat)by omega]at XY;exact⟨i+1,⟨rfl,aF⟩,⟨by omega,⟨m5,XY.but x5 nj.symm,fun x hx=>dG (EF.low x hx) (dh x4.size x5.size)⟩,(bh.trans x4 fun _ _ e=> .inl e).trans x5 fun _ _ e=> .inr e⟩,by omega⟩
 .obtain rfl:i=n:=by omega
  ((conv=>whnf);repeat(any_goals((first|refine Vc.aq ?_|refine Vc.bz ?_ ?_)<;>(intros;(conv=>whnf)))))
  refine⟨rfl,?_,bh⟩;rw[aL (by omega)]at EF;exact EF
theorem SD {b mb:Nat} {A:Tr} {H:ae} (h:iQ Z H b mb A) (hA:dr A) (p:Bs):az Tryz.prog 114 [.pointer (some ⟨b,0,none⟩),.string (ag p)] H fun v H'=>Did Z H H' b mb v (nN A p):=by
 have cU:=fun H=>vK p H;have nj:=h.map.ne h.cL;obtain⟨qc,qw⟩:=ri p;unfold nN;by_cases h0: ¬(cF p).2=0
 .rw[ak h0];have rS: ¬((cF p).2:Int)=0:=by omega
  generalize cF p=c at*
  refine Vc.az.body Tryz.func114 Tryz.call114 rfl (by decide+kernel) rfl ?_;((conv=>whnf);repeat(any_goals((first|(refine(cU _).mono ?_;rintro _ H1 ⟨rfl,cd⟩;have eR:=cd.size)|refine Vc.aq ?_|refine Vc.bz ?_ ?_)<;>(intros;(conv=>whnf)))))
  exact Did.none h cd _
 have h0:(cF p).2=0:=by omega
 rw[av h0];have hq:=oR h0;obtain⟨q,lE⟩: ∃ q,(cF p).1=q:=⟨_,rfl⟩;rw[h0,lE]at cU;rw[lE]at hq ⊢;have e0:=eq_empty q;by_cases mZ:q=[]
 .rw[av mZ];rw[bB mZ]at e0;refine Vc.az.body Tryz.func114 Tryz.call114 rfl (by decide+kernel) rfl ?_;((conv=>whnf);repeat(any_goals((first|(refine(cU _).mono ?_;rintro _ H1 ⟨rfl,cd⟩;have eR:=cd.size)|refine Vc.aq ?_|refine Vc.bz ?_ ?_)<;>(intros;(conv=>whnf)))))
  exact Did.none h cd _
 rw[ak mZ];rw[aN mZ]at e0;have CL:q.length<=200:=by obtain⟨l,rfl,hl⟩:=hq;exact hl.long
 cases hg:ck A q with
 |none=>
  rw[av rfl];refine Vc.az.body Tryz.func114 Tryz.call114 rfl (by decide+kernel) rfl ?_;((conv=>whnf);repeat(any_goals((first|(refine(cU _).mono ?_;rintro _ H1 ⟨rfl,cd⟩;have eR:=cd.size;have eC:=h.cL.ext cd)|((with_reducible apply N4 (h.map.ext cd) hg);rfl;rfl;rfl;rfl;(conv=>whnf))|refine Vc.aq ?_|refine Vc.bz ?_ ?_)<;>(intros;(conv=>whnf)))))
  exact Did.none h cd _
 |some nd=>
  rw[ak (by simp)];have vr:=fun H' (k:ax H H')=>Tm (h.ext k) hA q (by omega) (by rw[hg];simp);have vq:=hA.count;have qZ:=hA.size;refine Vc.az.body Tryz.func114 Tryz.call114 rfl (by decide+kernel) rfl ?_;((conv=>whnf);repeat(any_goals((first|(refine(cU _).mono ?_;rintro _ H1 ⟨rfl,cd⟩;have eR:=cd.size;have eC:=h.cL.ext cd)|((with_reducible apply FG (h.map.ext cd) hg);rfl;rfl;rfl;rfl;(intro g1 a1 c1 k1 k2;(conv=>whnf)))|(refine(vr _ (by exact Vc.xt)).mono ?_;rintro _ H3 ⟨⟨l3,a3,c3,ui⟩,bw⟩;have eJ:=bw.size;obtain rfl:=ui.val)|(refine(Uc (h.ext (show ax H H3 by exact Vc.xt)) hA.sorted (by omega) l3 a3 _ c3 ui.own.row rfl (by have:=ui.len;omega) ui.nodup (fun k hk=>(by have:=((ui.mem k).1 hk).1;exact fun e=>ka.1 e this))).mono ?_;rintro _ H4 ⟨rfl,A6,cH⟩)|refine Vc.aq ?_|refine Vc.bz ?_ ?_)<;>(intros;(conv=>whnf)))))
  have j3:=(show ax H H3 by exact Vc.xt);rw[aeO ui.mem]at A6;exact⟨rfl,A6,j3.only.trans cH fun _ _ e=>e⟩
end Go.Proofs.YtphkaogbcfdllaaGreatDoor
namespace Go.cM
open Go.eg Go.cN
open Go.Vc (ck fk kX jX lf jy ka)
theorem Tn (stay:Nat): ∀ (xs l:List ap),(∀ x∈xs,jY x)->iP stay l xs=if 12<(l++xs).length then([],50)else(l++xs,0)
 |[],l,_=>by rw[iP,dD]
 |x::xs,l,hg=>by
  have g:=hg x (by simp);rw[iP,ak (fun e=>e.elim g.ne g.dot),ak g.WC,ak (by rw[g.ok];simp),Tn stay xs (l++[x]) (fun y hy=>hg y (by simp[hy]))];simp
theorem SE {l:List ap} (h: ∀ x∈l,jY x):cF (glue l)=([],50)\/cF (glue l)=(glue l,0):=by
 unfold cF r6;rw[av (rfl:([]:ap)=[]),aQ];by_cases h1:200<(glue l).length
 .rw[av h1];exact .inl rfl
 rw[ak h1,ak (U1 (p:=[]) h)];show(glue (iP 0 [] (dj 47 (glue l))).1,(iP 0 [] (dj 47 (glue l))).2)=_\/(glue (iP 0 [] (dj 47 (glue l))).1,(iP 0 [] (dj 47 (glue l))).2)=_;by_cases hn:l=[]
 .subst hn;exact .inr rfl
 rw[Fq (fun x hx=>(h x hx).no) hn,Tn 0 l [] h,iD];split
 .exact .inl rfl
 .exact .inr rfl
def tI (A:Tr) (p q:ap):Nat:=
 if p≠ []/\ck A p=none then 52
 else if p=[]\/eL q p=true then 54
 else if q=[]\/(ck A q).isSome=true then 53
 else if kG A q=true then 54
 else if yn (eM A p q)=true then 50 else 0
def mN (p q k:ap):ap:=q++k.drop p.length
theorem agr {A:Tr} (h:(A.map (·.1)).Nodup) (f:ap->Bool) {l:List ap} (hn:l.Nodup) (hm: ∀ k,k∈l↔k∈A.map (·.1)/\f k=true):(l.map (fL A)).sum=cQ (A.filter fun x=>f x.1):=by
 have hp:l.Perm ((A.filter fun x=>f x.1).map (·.1)):=by
  refine(fU hn (List.Nodup.sublist (fD.map _) h)).2 fun k=> ?_;rw[hm,bH,bH];constructor
  .rintro⟨⟨x,hx,rfl⟩,hf⟩;exact⟨x,bT.2 ⟨hx,hf⟩,rfl⟩
  .rintro⟨x,hx,rfl⟩;exact⟨⟨x,(bT.1 hx).1,rfl⟩,(bT.1 hx).2⟩
 rw[(hp.map (fL A)).sum_nat];unfold cQ;rw[gV];congr 1;refine List.map_congr_left fun x hx=> ?_;show fL A x.1=_;unfold fL;rw[jy h (bT.1 hx).1]
theorem Fu (A:Tr) (p q:ap):cQ (eM A p q)=cQ (A.filter fun x=>eL x.1 p):=by
 unfold eM cQ;rw[gV];rfl
end Go.cM
namespace Go.Proofs.YtphkaogbcfdllaaGreatDoor
open Go Go.Vc Go.cN Go.eg Go.cM
variable {Z:Nat->Prop}
structure BW (H':ae) (mv:Value) (A:Tr) (p q:ap) (L:List Bs) (fa ta la:Option Addr) (fc tc lc:Nat):Prop where
 val:mv= .agg #[.slice fa L.length fc,.slice ta L.length tc,.slice la (dm A q).length lc,.int .i64 (cQ (eM A p q))]
 fr:Row H' fa (strs L)
 to:Row H' ta (strs (L.map (mN p q)))
 lack:Row H' la (strs (dm A q).reverse)
 nodup:L.Nodup
 mem: ∀ k,k∈L↔k∈A.map (·.1)/\eL k p=true
 len:L.length<=A.length
def ain (H':ae) (v:Value) (A:Tr) (p q:ap) (c:Nat):Prop:=
 ∃ mv,v= .tuple #[mv,.int .i64 c]/\(c≠0->mv= .agg #[.slice none 0 0,.slice none 0 0,.slice none 0 0,.int .i64 0])/\(c=0-> ∃ L fa ta la fc tc lc,BW H' mv A p q L fa ta la fc tc lc)
theorem yI {K:Value->Prop} (h:K (.agg #[.slice none 0 0,.slice none 0 0,.slice none 0 0,.int .i64 0])):da Tryz.prog (Instr.build 257 ((List.map (fun x:Nat×Operand=>x.1) (#[]:Array (Nat×Operand)).toList).zip []).toArray) K:=da.build _ (by kernel_rfl) h
theorem XZ {K:Value->Prop} {a:Option Addr} {n c:Nat} {o:Operand} (h:K (.agg #[.slice a n c,.slice none 0 0,.slice none 0 0,.int .i64 0])):da Tryz.prog (Instr.build 257 ((List.map (fun x:Nat×Operand=>x.1) (#[(0,o)]:Array (Nat×Operand)).toList).zip [.slice a n c]).toArray) K:=da.build _ (by kernel_rfl) h
def oq (A:Tr) (s t:ap):Nat:=if(cF s).2=0 then(if(cF t).2=0 then tI A (cF s).1 (cF t).1 else(cF t).2)else(cF s).2
structure PlS where
 i:Nat
 a:Option Addr
 cap:Nat
set_option maxHeartbeats 4000000 in
theorem Ud {b mb:Nat} {A:Tr} {H:ae} (h:iQ Z H b mb A) (hA:dr A) (s t:Bs):az Tryz.prog 165 [.pointer (some ⟨b,0,none⟩),.string (ag s),.string (ag t)] H fun v H'=>ain H' v A (cF s).1 (cF t).1 (oq A s t)/\ax H H':=by
 have cU:=fun H=>vK s H;have q5:=fun H=>vK t H;unfold oq;by_cases h0: ¬(cF s).2=0
 .rw[ak h0];have rS: ¬((cF s).2:Int)=0:=by omega
  generalize cF s=c at*
  refine Vc.az.body Tryz.func165 Tryz.call165 rfl (by decide+kernel) rfl ?_;((conv=>whnf);repeat(any_goals((first|(refine(cU _).mono ?_;rintro _ H1 ⟨rfl,cd⟩;have eR:=cd.size)|((with_reducible apply yI);(conv=>whnf))|refine Vc.aq ?_|refine Vc.bz ?_ ?_)<;>(intros;(conv=>whnf)))))
  exact⟨⟨_,rfl,fun _=>rfl,fun e=>by omega⟩,by exact Vc.xt⟩
 have h0:(cF s).2=0:=by omega
 rw[av h0];have hp:=oR h0;obtain⟨p,qA⟩: ∃ p,(cF s).1=p:=⟨_,rfl⟩;rw[h0,qA]at cU;rw[qA]at hp ⊢;by_cases h1: ¬(cF t).2=0
 .rw[ak h1];have h1': ¬((cF t).2:Int)=0:=by omega
  generalize cF t=c at*
  refine Vc.az.body Tryz.func165 Tryz.call165 rfl (by decide+kernel) rfl ?_;((conv=>whnf);repeat(any_goals((first|(refine(cU _).mono ?_;rintro _ H1 ⟨rfl,cd⟩;have eR:=cd.size)|(refine(q5 _).mono ?_;rintro _ H2 ⟨rfl,bh⟩;have dT:=bh.size)|((with_reducible apply yI);(conv=>whnf))|refine Vc.aq ?_|refine Vc.bz ?_ ?_)<;>(intros;(conv=>whnf)))))
  exact⟨⟨_,rfl,fun _=>rfl,fun e=>by omega⟩,by exact Vc.xt⟩
 have h1:(cF t).2=0:=by omega
 rw[av h1];have hq:=oR h1;obtain⟨q,lE⟩: ∃ q,(cF t).1=q:=⟨_,rfl⟩;rw[h1,lE]at q5;rw[lE]at hq ⊢;have ib:p.length<=200:=by obtain⟨l,rfl,hl⟩:=hp;exact hl.long
 have CL:q.length<=200:=by obtain⟨l,rfl,hl⟩:=hq;exact hl.long
 have jH:=fun H' (k:ax H H')=>BL (h.ext k) p;have HP:=fun H' (k:ax H H')=>BL (h.ext k) q;have e0:=eq_empty p;unfold tI;cases nF:nodeAt A p with
 |none=>
  rw[nF]at jH;have hg:p≠ []/\ck A p=none:=by
   unfold nodeAt at nF;split at nF
   .cases nF
   .rename_i cz;exact⟨cz,nF⟩
  rw[av hg];refine Vc.az.body Tryz.func165 Tryz.call165 rfl (by decide+kernel) rfl ?_;((conv=>whnf);repeat(any_goals((first|(refine(cU _).mono ?_;rintro _ H1 ⟨rfl,cd⟩;have eR:=cd.size)|(refine(q5 _).mono ?_;rintro _ H2 ⟨rfl,bh⟩;have dT:=bh.size)|((with_reducible apply yI);(conv=>whnf))|(refine(jH _ (by exact Vc.xt)).mono ?_;rintro v2 H3 ⟨fb,bw⟩;have eJ:=bw.size;obtain rfl:=fb)|refine Vc.aq ?_|refine Vc.bz ?_ ?_)<;>(intros;(conv=>whnf)))))
  exact⟨⟨_,rfl,fun _=>rfl,fun e=>by omega⟩,by exact Vc.xt⟩
 |some np=>
 rw[nF]at jH;rw[ak (fun e=>by unfold nodeAt at nF;rw[ak e.1,e.2]at nF;cases nF)];by_cases lO:p=[]
 .rw[av (.inl lO)];rw[bB lO]at e0;refine Vc.az.body Tryz.func165 Tryz.call165 rfl (by decide+kernel) rfl ?_;((conv=>whnf);repeat(any_goals((first|(refine(cU _).mono ?_;rintro _ H1 ⟨rfl,cd⟩;have eR:=cd.size)|(refine(q5 _).mono ?_;rintro _ H2 ⟨rfl,bh⟩;have dT:=bh.size)|((with_reducible apply yI);(conv=>whnf))|(refine(jH _ (by exact Vc.xt)).mono ?_;rintro v2 H3 ⟨fb,bw⟩;have eJ:=bw.size;obtain⟨g2,a2,c2,rfl,di,cT⟩:=iJ.out fb)|refine Vc.aq ?_|refine Vc.bz ?_ ?_)<;>(intros;(conv=>whnf)))))
  exact⟨⟨_,rfl,fun _=>rfl,fun e=>by omega⟩,by exact Vc.xt⟩
 rw[aN lO]at e0;have yJ:=fun H=>Sw q p (by omega) (by omega) H;by_cases hw:eL q p=true
 .rw[av (.inr hw)];rw[hw]at yJ;refine Vc.az.body Tryz.func165 Tryz.call165 rfl (by decide+kernel) rfl ?_;((conv=>whnf);repeat(any_goals((first|(refine(cU _).mono ?_;rintro _ H1 ⟨rfl,cd⟩;have eR:=cd.size)|(refine(q5 _).mono ?_;rintro _ H2 ⟨rfl,bh⟩;have dT:=bh.size)|((with_reducible apply yI);(conv=>whnf))|(refine(jH _ (by exact Vc.xt)).mono ?_;rintro v2 H3 ⟨fb,bw⟩;have eJ:=bw.size;obtain⟨g2,a2,c2,rfl,di,cT⟩:=iJ.out fb)|(refine(yJ _).mono ?_;rintro _ _ ⟨rfl,rfl⟩)|refine Vc.aq ?_|refine Vc.bz ?_ ?_)<;>(intros;(conv=>whnf)))))
  exact⟨⟨_,rfl,fun _=>rfl,fun e=>by omega⟩,by exact Vc.xt⟩
 have hw:eL q p=false:=by simpa using hw
 rw[hw]at yJ;rw[ak (by rw[hw];simp[lO])];cases ph:nodeAt A q with
 |some nq=>
  rw[ph]at HP;have hg:q=[]\/(ck A q).isSome=true:=by
   unfold nodeAt at ph;split at ph
   .rename_i h;exact .inl h
   .right;rw[ph];rfl
  rw[av hg];refine Vc.az.body Tryz.func165 Tryz.call165 rfl (by decide+kernel) rfl ?_;((conv=>whnf);repeat(any_goals((first|(refine(cU _).mono ?_;rintro _ H1 ⟨rfl,cd⟩;have eR:=cd.size)|(refine(q5 _).mono ?_;rintro _ H2 ⟨rfl,bh⟩;have dT:=bh.size)|((with_reducible apply yI);(conv=>whnf))|(refine(jH _ (by exact Vc.xt)).mono ?_;rintro v2 H3 ⟨fb,bw⟩;have eJ:=bw.size;obtain⟨g2,a2,c2,rfl,di,cT⟩:=iJ.out fb)|(refine(yJ _).mono ?_;rintro _ _ ⟨rfl,rfl⟩)|(refine(HP _ (by exact Vc.xt)).mono ?_;rintro v4 H4 ⟨HQ,cH⟩;have gA:=cH.size;obtain⟨g4,a4,c4,rfl,iX,mO⟩:=iJ.out HQ)|refine Vc.aq ?_|refine Vc.bz ?_ ?_)<;>(intros;(conv=>whnf)))))
  exact⟨⟨_,rfl,fun _=>rfl,fun e=>by omega⟩,by exact Vc.xt⟩
 |none=>
 rw[ph]at HP;have Qz:q≠ []/\ck A q=none:=by
  unfold nodeAt at ph;split at ph
  .cases ph
  .rename_i cz;exact⟨cz,ph⟩
 rw[ak (by rw[Qz.2];simp[Qz.1])];have EA:ck A p≠none:=fun e=>by unfold nodeAt at nF;rw[ak lO,e]at nF;cases nF
 have vr:=fun H' (k:ax H H')=>Tm (h.ext k) hA p (by omega) EA;have jJ:=fun H' (k:ax H H')=>JS (h.ext k) hq;unfold zN at jJ;by_cases hf:kG A q=true
 .simp only[av hf]at jJ;rw[av hf];refine Vc.az.body Tryz.func165 Tryz.call165 rfl (by decide+kernel) rfl ?_;((conv=>whnf);repeat(any_goals((first|(refine(cU _).mono ?_;rintro _ H1 ⟨rfl,cd⟩;have eR:=cd.size)|(refine(q5 _).mono ?_;rintro _ H2 ⟨rfl,bh⟩;have dT:=bh.size)|((with_reducible apply yI);(conv=>whnf))|(refine(jH _ (by exact Vc.xt)).mono ?_;rintro v2 H3 ⟨fb,bw⟩;have eJ:=bw.size;obtain⟨g2,a2,c2,rfl,di,cT⟩:=iJ.out fb)|(refine(yJ _).mono ?_;rintro _ _ ⟨rfl,rfl⟩)|(refine(HP _ (by exact Vc.xt)).mono ?_;rintro v4 H4 ⟨HQ,cH⟩;have gA:=cH.size;obtain rfl:=HQ)|(refine(vr _ (by exact Vc.xt)).mono ?_;rintro _ H5 ⟨⟨L,fa,fc,hL⟩,cE⟩;have ij:=cE.size;obtain rfl:=hL.val)|((with_reducible apply XZ);(conv=>whnf))|(refine(jJ _ (by exact Vc.xt)).mono ?_;rintro _ H6 ⟨rfl,cV⟩;have fS:=cV.size)|refine Vc.aq ?_|refine Vc.bz ?_ ?_)<;>(intros;(conv=>whnf)))))
  exact⟨⟨_,rfl,fun _=>rfl,fun e=>by omega⟩,by exact Vc.xt⟩
 simp only[ak hf]at jJ;rw[ak hf];refine Vc.az.body Tryz.func165 Tryz.call165 rfl (by decide+kernel) rfl ?_;((conv=>whnf);repeat(any_goals((first|(refine(cU _).mono ?_;rintro _ H1 ⟨rfl,cd⟩;have eR:=cd.size)|(refine(q5 _).mono ?_;rintro _ H2 ⟨rfl,bh⟩;have dT:=bh.size)|((with_reducible apply yI);(conv=>whnf))|(refine(jH _ (by exact Vc.xt)).mono ?_;rintro v2 H3 ⟨fb,bw⟩;have eJ:=bw.size;obtain⟨g2,a2,c2,rfl,di,cT⟩:=iJ.out fb)|(refine(yJ _).mono ?_;rintro _ _ ⟨rfl,rfl⟩)|(refine(HP _ (by exact Vc.xt)).mono ?_;rintro v4 H4 ⟨HQ,cH⟩;have gA:=cH.size;obtain rfl:=HQ)|(refine(vr _ (by exact Vc.xt)).mono ?_;rintro _ H5 ⟨⟨L,fa,fc,hL⟩,cE⟩;have ij:=cE.size;obtain rfl:=hL.val)|((with_reducible apply XZ);(conv=>whnf))|(refine(jJ _ (by exact Vc.xt)).mono ?_;rintro _ H6 ⟨⟨a6,c6,rfl,ei⟩,cV⟩;have fS:=cV.size)|refine Vc.aq ?_|refine Vc.bz ?_ ?_)<;>(intros;(conv=>whnf)))))
 rename_i Hr zr br xr Ha za ba xa Hb zb bb xb Hc zc bc xc;have ai7:ax Hr H5:=by exact Vc.xt
 have iR:ax H H5:=by exact Vc.xt
 have PH:=h.cL.lt;have PI:=h.map.lt;have ai8:ax H Hc:=(show ax H H6 by exact Vc.xt).but xc (by have:=iR.size;omega);have uh:(dm A q).length<=12:=by
  have h1:(dm A q).length<=(jm q).length:=dY _ _;have h2:=hq.parts.deep;rw[Dt]at h1;omega
 have vq:=hA.count;have qZ:=hA.size;have yG:=hL.len;have WQ:ax H5 Hc:=(show ax H5 H6 by exact Vc.xt).but xc (by omega);have hLr:Row Hc fa (strs L):=hL.own.row.ext WQ;have oA:=agr hA.sorted.nodup (fun k=>eL k p) hL.nodup hL.mem;rw[<-Fu A p q]at oA;have CO:=goes hA hp hq lO Qz.1;have hmv: ∀ k∈L,∃ nd,(mN p q k,nd)∈eM A p q/\ck A k=some nd:=fun k hk=>by
  obtain⟨qV,uf⟩:=(hL.mem k).1 hk;obtain⟨x,hx,rfl⟩:=bH.1 qV;exact⟨x.2,bH.2 ⟨x,bT.2 ⟨hx,uf⟩,rfl⟩,jy hA.sorted.nodup hx⟩
 have tO:H5.size<Hc.size:=by omega
 refine dt.intro (fun(x:PlS)=>[(72,.int .i64 x.i)])
  (fun x H'=>x.i<=L.length/\(∀ k∈L.take x.i,(cF (mN p q k)).2=0)/\bu H' H5.size #[.slice fa L.length fc,.slice x.a x.i x.cap,.slice a6 (dm A q).length c6,.int .i64 (((L.take x.i).map (fL A)).sum:Nat)] 257/\
   cq H' Hc.size 9 1 x.a x.i x.cap (strs ((L.take x.i).map (mN p q)))/\fw H5.size Hc H') (fun x=>L.length-x.i) ⟨0,none,0⟩ ⟨rfl,aF⟩ ⟨aI _,fun k hk=>(by rw[fu]at hk;cases hk),bc,cq.nil _ _ _ _,cD.refl _ _⟩ ?_
 rintro⟨i,ta,tc⟩ H7 ⟨hi,kZ,uj,iY,dq⟩;dsimp only at hi kZ uj iY ⊢;have jK:=dq.size;have mq:ax H H7:=ai8.but dq (by have:=iR.size;omega);have akB:=h.map.ext mq;have ai9:=((br.ext ai7).ext WQ).but dq (by omega);have aja:=h.cL.ext mq;have QA:Row H7 fa (strs L):=hLr.texts dq fun x e _=>by subst e;exact .cL bc (by simp[rm])
 have akL:((L.take i).map (fL A)).sum<=cQ (eM A p q):=by
  rw[<-oA,<-dF i L,d9,iq,dF];exact Nat.le_add_right _ _
 have akM:cQ (eM A p q)<=1048576:=by rw[Fu];exact dh (Fj _ _) qZ
 by_cases ct:i<L.length
 .obtain⟨k,hk⟩: ∃ k,L[i]? =some k:=⟨_,aD (by omega)⟩;have EG:=aU hk;obtain⟨nd,wM,hg⟩:=hmv k EG;obtain⟨kk,mm,r,ep,eq,qB,pg,e,_⟩:=CO.keys _ wM;have jQ:k.length<=200:=by
   obtain⟨⟨l,rfl,hl⟩,_⟩:=hA.clean k nd hg;exact hl.long
  have hkp:p.length<=k.length:=by
   have:=((hL.mem k).1 EG).2;unfold eL at this;rw[dz,dz,bU,bU,dH]at this;rcases this with (e|e)|e
   .exact absurd e lO
   .rw[e];exact aB _
   .have:=e.length_le;rw[au]at this;simp at this;omega
  have kB:(mN p q k).length<=400:=by unfold mN;rw[au,aO];omega
  have e1:ag q++(ag k).extract p.length (ag k).size=ag (mN p q k):=by rw[show(ag k).extract p.length (ag k).size=ag (k.drop p.length)from nY _ _,kC];rfl
  have hsq:(ag q).size=q.length:=rfl;have Qr:(ag k).size=k.length:=rfl;have LM:((ag k).extract p.length (ag k).size).size=k.length-p.length:=by rw[show(ag k).extract p.length (ag k).size=ag (k.drop p.length)from nY _ _];show(k.drop p.length).length=_;rw[aO]
  have fY:=fun H=>vK (mN p q k) H;rw[<-e1]at fY;have HT:L.take (i+1)=L.take i++[k]:=by rw[bX,hk];rfl
  have hcg:cF (mN p q k)=([],50)\/cF (mN p q k)=(mN p q k,0):=by
   have:mN p q k=glue (mm++r):=e;rw[this];exact SE pg
  rcases hcg with hc|hc
  .rw[hc]at fY;have PJ:yn (eM A p q)=true:=by
    unfold yn;rw[List.any_eq_true];exact⟨_,wM,by show((cF (mN p q k)).2 != 0)=true;rw[hc];rfl⟩
   rw[av PJ];((conv=>whnf);repeat(any_goals((first|(refine cm.fe QA rfl i k (by omega) hk ?_;intro _ _ _ _ _)|(refine kM.mk ⟨by(simp only[cO];omega),?_⟩)|(refine dk.nat p.length rfl (by omega) ?_)|(refine(fY _).mono ?_;rintro _ H8 ⟨rfl,gx⟩;have lD:=gx.size)|((with_reducible apply yI);(conv=>whnf))|refine Vc.aq ?_|refine Vc.bz ?_ ?_)<;>(intros;(conv=>whnf)))))
   exact⟨⟨_,rfl,fun _=>rfl,fun e=>by omega⟩,by exact Vc.xt⟩
  .rw[hc]at fY;have iM:fL A k=nd.2.length:=by unfold fL;rw[hg]
   have akC:((L.take (i+1)).map (fL A)).sum<=cQ (eM A p q):=by
    rw[<-oA,<-dF (i+1) L,d9,iq,dF];exact Nat.le_add_right _ _
   have LL:((L.take (i+1)).map (fL A)).sum=((L.take i).map (fL A)).sum+nd.2.length:=by rw[HT,d9,iq];simp[iM]
   ((conv=>whnf);repeat(any_goals((first|(refine cm.fe QA rfl i k (by omega) hk ?_;intro _ _ _ _ _)|(refine kM.mk ⟨by(simp only[cO];omega),?_⟩)|(refine dk.nat p.length rfl (by omega) ?_)|(refine(fY _).mono ?_;rintro _ H8 ⟨rfl,gx⟩;have lD:=gx.size)|(refine cP.DK (by assumption) (iY.ext (by exact Vc.xt)) (by omega) (by omega) rfl ⟨_,rfl,fun _ h=>by cases h⟩ rfl rfl rfl rfl rfl rfl rfl ?_;intro a9 c9 H9 kv ly lz;have Wf:=fun(b:Nat) (hb:b<Hc.size)=>iY.low hb;have tM:=(gx.trans (by assumption));have q8:=(uj.ext tM).keep lz (Wf _ (by omega));have aio:=h.map.ext (show ax H H9 from(mq.trans tM).wr (iY.ext tM) (by omega) lz);have akN:=h.cL.ext (show ax H H9 from(mq.trans tM).wr (iY.ext tM) (by omega) lz))|((with_reducible apply FG (aio.keep (by assumption) (fun e=>by omega) (fun x e _=>by subst e;exact .inl (.cL q8 (by simp[rm]) (by decide)))) hg);rfl;rfl;rfl;rfl;(intro g1 a1 c1 k1 k2;(conv=>whnf)))|((with_reducible refine Vc.cy.held [0,1,2,3,4,5,6,7,8,9,10,11,12,13,14] [(7,[1])] mixed (by decide+kernel) ?_))|refine Vc.aq ?_|refine Vc.bz ?_ ?_)<;>(intros;(conv=>whnf)))))
   rename_i Hd zd bd xd He ze be xe;have HU:bu He H5.size #[.slice fa L.length fc,.slice a9 (i+1) c9,.slice a6 (dm A q).length c6,.int .i64 ((((L.take i).map (fL A)).sum:Nat)+(nd.2.length:Int))] 257:=be;rw[show((((L.take i).map (fL A)).sum:Nat):Int)+(nd.2.length:Int)=(((L.take (i+1)).map (fL A)).sum:Nat)by omega]at HU;have K0:=kv.keep xd fun p hp e=>kv.low (b:=H5.size) (by omega) ⟨p,hp,e⟩;have ajb:=K0.keep xe fun p hp e=>K0.low (b:=H5.size) (by omega) ⟨p,hp,e⟩;refine⟨⟨i+1,a9,c9⟩,⟨rfl,aF⟩,⟨by show i+1<=_;omega,?_,HU,?_,(((dq.ext tM).trans lz fun b hb h=>absurd h (Wf b hb)).trans xd fun _ _ e=>e).trans xe fun _ _ e=>e⟩,by show L.length-(i+1)<L.length-i;omega⟩
   .show ∀ k∈L.take (i+1),_;rw[HT];intro k' iK;rcases bZ.1 iK with iK|iK
    .exact kZ k' iK
    .rw[aW]at iK;subst iK;rw[hc]
   .show cq He Hc.size _ 1 a9 (i+1) c9 (strs ((L.take (i+1)).map (mN p q)));rw[HT,d9,Jt];exact ajb
 .obtain rfl:i=L.length:=by omega
  rw[fB]at kZ uj iY;have PJ:yn (eM A p q)=false:=by
   unfold yn;rw[gY];intro x hx;obtain⟨y,hy,rfl⟩:=bH.1 hx;rw[bT]at hy;have:=kZ y.1 ((hL.mem _).2 ⟨fE hy.1,hy.2⟩);show ¬((cF (mN p q y.1)).2 != 0)=true;rw[this];simp
  rw[PJ,ak (by simp)];rw[oA]at uj;((conv=>whnf);repeat(any_goals((first|refine Vc.aq ?_|refine Vc.bz ?_ ?_)<;>(intros;(conv=>whnf)))))
  rename_i He ze be xe;have pM: ∀ x,x=H.size->x<H7.size->qQ H7 x:=fun x e _=>by subst e;exact .cL ai9 (by simp[rm,Value.cells])
  have hd7: ∀ x,x=H5.size->x<Hc.size->qQ Hc x:=fun x e _=>by subst e;exact .cL bc (by simp[rm])
  have hd6: ∀ x,x=H5.size->x<H6.size->qQ H6 x:=fun x e _=>by subst e;exact .cL (bb.ext cV) (by simp[rm])
  exact⟨⟨_,rfl,fun e=>absurd rfl e,fun _=>⟨L,fa,ta,a6,fc,tc,c6,⟨rfl,QA.texts xe pM,iY.row.texts xe pM,((ei.row.ext (ax.refl _)).texts xc hd6).texts dq hd7 |>.texts xe pM,hL.nodup,hL.mem,hL.len⟩⟩⟩,mq.but xe (aB _)⟩
end Go.Proofs.YtphkaogbcfdllaaGreatDoor
namespace Go.cM
open Go.eg Go.cN
open Go.Vc (ck fk kX jX lf jy ka)
theorem ac9 {α:Type} {l m:List (ap×α)} (h:l.Perm m) (hn:(l.map (·.1)).Nodup) (k:ap):ck l k=ck m k:=by
 have hm:(m.map (·.1)).Nodup:=(h.map _).nodup_iff.1 hn;cases hg:ck l k with
 |some v=>exact(jy hm (h.subset (lf hg))).symm
 |none=>
  cases rI:ck m k with
  |none=>rfl
  |some v=>rw[jy hn (h.symm.subset (lf rI))]at hg;cases hg
theorem Tp: ∀ (l A:Tr) (k:ap),k∉l.map (·.1)->ck (kN A l) k=ck A k
 |[],A,k,_=>rfl
 |x::l,A,k,h=>by
  rw[dw,aM,fT]at h;show ck (kN (iu A x.1 x.2) l) k=_;rw[Tp l _ k h.2,uC,ak h.1]
theorem ada (A l:Tr) (x:ap×Node):kN A (l++[x])=iu (kN A l) x.1 x.2:=by unfold kN;rw[ig];rfl
theorem Tq {A l m:Tr} (hA:Sorted A) (h:l.Perm m) (hn:(l.map (·.1)).Nodup):kN A l=kN A m:=
 M6 (Bi l hA) (Bi m hA) fun k=>by rw[Bo k l A hn,Bo k m A ((h.map _).nodup_iff.1 hn),ac9 h hn]
def qJ (A:Tr) (k:ap):Node:=(ck A k).getD (false,[])
def uO (A:Tr) (p q:ap) (L:List ap):Tr:=L.map fun k=>(mN p q k,qJ A k)
theorem Nb {A:Tr} (hA:(A.map (·.1)).Nodup) {p q:ap} {L:List ap} (hn:L.Nodup) (hm: ∀ k,k∈L↔k∈A.map (·.1)/\eL k p=true):(uO A p q L).Perm (eM A p q):=by
 have hp:L.Perm ((A.filter fun x=>eL x.1 p).map (·.1)):=by
  refine(fU hn (List.Nodup.sublist (fD.map _) hA)).2 fun k=> ?_;rw[hm,bH,bH];constructor
  .rintro⟨⟨x,hx,rfl⟩,hf⟩;exact⟨x,bT.2 ⟨hx,hf⟩,rfl⟩
  .rintro⟨x,hx,rfl⟩;exact⟨⟨x,(bT.1 hx).1,rfl⟩,(bT.1 hx).2⟩
 have:=hp.map fun k=>(mN p q k,qJ A k);unfold uO eM;rw[gV]at this;refine this.trans (List.Perm.of_eq (List.map_congr_left fun x hx=> ?_));show(mN p q x.1,qJ A x.1)=_;unfold qJ;rw[jy hA (bT.1 hx).1];rfl
structure QB (A:Tr) (p q:ap):Prop where
 pn:p≠ []
 qn:q≠ []
 EH:ck A p≠none
 Gz:ck A q=none
 out:eL q p=false
 file:kG A q=false
 good:yn (eM A p q)=false
theorem N6 {A:Tr} {p q:ap} (h:tI A p q=0):QB A p q:=by
 unfold tI at h;split at h
 .cases h
 rename_i h1;split at h
 .cases h
 rename_i h2;split at h
 .cases h
 rename_i h3;split at h
 .cases h
 rename_i h4;split at h
 .cases h
 rename_i h5;rw[fT]at h2 h3;exact⟨h2.1,h3.1,fun e=>h1 ⟨h2.1,e⟩,by simpa using h3.2,by simpa using h2.2,by simpa using h4,by simpa using h5⟩
theorem FK {A:Tr} {p q:ap} {stays:Bool}:As A p q stays=if tI A p q=0 then(if 500<A.length+((dm A q).length+if stays=true then(eM A p q).length else 0)\/1048576<cQ A+(if stays=true then cQ (eM A p q)else 0)then(A,55)
  else(kN (gi (nR A p stays) (dm A q)) (eM A p q),0))else(A,tI A p q):=by
 unfold As tI;split
 .rfl
 split
 .rfl
 split
 .rfl
 split
 .rfl
 split
 .rfl
 rw[av rfl]
theorem Ue {A:Tr} (hA:dr A) {p q:ap} (hp:jk p) (hq:jk q) (y:QB A p q):cQ (kN (gi A (dm A q)) (eM A p q))=cQ A+cQ (eM A p q):=by
 have ha:=apart hA hp hq y.pn y.qn y.EH y.Gz y.out;have hg:=goes hA hp hq y.pn y.qn;rw[(Nu (eM A p q) (sy _ hA.sorted) hg.nodup fun x hx=>by rw[pU,ak (ha.Pa x hx)];exact ha.fresh x hx).2,Db hA.sorted fun d hd=>(tq hd).2]
theorem aaX {A:Tr} (hA:dr A) {p q:ap} (hp:jk p) (hq:jk q) (y:QB A p q) {L:List ap} (hm: ∀ k,k∈L↔k∈A.map (·.1)/\eL k p=true):
  nS (kN (gi A (dm A q)) (eM A p q)) L=kN (gi (nR A p false) (dm A q)) (eM A p q):=by
 have ha:=apart hA hp hq y.pn y.qn y.EH y.Gz y.out;have hg:=goes hA hp hq y.pn y.qn;have hr:nR A p false=A.filter fun x=> !eL x.1 p:=rfl;have yK:Sorted (nR A p false):=by rw[hr];exact gq fD hA.sorted
 refine M6 (RN (Bi _ (sy _ hA.sorted)) _) (Bi _ (sy _ yK)) fun k=> ?_;rw[SC,Bo k _ _ hg.nodup,Bo k _ _ hg.nodup,pU,pU,hr,Fh (fun x=> !eL x p)];by_cases hk:k∈L
 .rw[av hk];have hw:=((hm k).1 hk).2;have h1:ck (eM A p q) k=none:=by
   cases pb:ck (eM A p q) k with
   |none=>rfl
   |some n=>have:=ha.O9 _ (lf pb);rw[hw]at this;cases this
  have h2:k∉dm A q:=fun h=>by have:=ha.lack k h;rw[hw]at this;cases this
  rw[h1,ak h2,ak (by rw[hw];simp)]
 .rw[ak hk];cases ck (eM A p q) k with
  |some n=>rfl
  |none=>
   dsimp only;by_cases h2:k∈dm A q
   .rw[av h2,av h2]
   .rw[ak h2,ak h2];by_cases hw:eL k p=true
    .rw[ak (by rw[hw];simp)];apply ka.2;exact fun h=>hk ((hm k).2 ⟨h,hw⟩)
    .rw[av (by simpa using hw)]
end Go.cM
namespace Go.Proofs.YtphkaogbcfdllaaGreatDoor
open Go Go.Vc Go.cN Go.eg Go.cM
variable {Z:Nat->Prop}
set_option maxHeartbeats 4000000 in
theorem Tt {b mb:Nat} {A:Tr} {H:ae} (h:iQ Z H b mb A) (p q:Bs) (L D:List Bs) (fa ta la:Option Addr) (fc tc lc n d:Nat) (EI:Nat) (eA:Row H fa (strs L)) (uk:Row H ta (strs (L.map (mN p q)))) (uh:Row H la (strs D)) (hn:L.length=n) (hd:D.length=d) (wO:n<=10000) (lZ:d<=10000)
  (ua: ∀ k∈L,ck A k≠none) (jQ: ∀ k∈L,k∉D) (X0: ∀ k∈L,k∉(uO A p q L).map (·.1)) (hs:cQ (kN (gi A D) (uO A p q L))=cQ A+EI) (jr:cQ A<=100000000) (sr:EI<=100000000):
  az Tryz.prog 166 [.pointer (some ⟨b,0,none⟩),.agg #[.slice fa n fc,.slice ta n tc,.slice la d lc,.int .i64 EI]] H fun v H'=>v= .tuple #[]/\iQ Z H' b mb (kN (gi A D) (uO A p q L))/\B9 b mb H H':=by
 refine Vc.az.body Tryz.func166 Tryz.call166 rfl (by decide+kernel) rfl ?_;have nj:=h.map.ne h.cL;have PH:=h.cL.lt;have PI:=h.map.lt;((conv=>whnf);repeat(any_goals((first|(refine(FJ (h.cL.ext (by assumption)) (h.map.ext (by assumption)) D la _ lc (uh.ext (by assumption)) hd (by omega)).mono ?_;rintro _ H2 ⟨rfl,wN,bh⟩;have dT:=bh.size)|refine Vc.aq ?_|refine Vc.bz ?_ ?_)<;>(intros;(conv=>whnf)))))
 rename_i H1 z1 b1 x1;have b1:bu H1 H.size #[.slice fa n fc,.slice ta n tc,.slice la d lc,.int .i64 EI] 257:=b1;have tY: ∀ x,x=mb->x<H1.size->pL H1 x:=fun x e _=>by subst e;exact(h.map.ext x1).jT
 have ajc:=(eA.ext x1).texts bh fun x e hl=>(tY x e hl).mF;have ajd:=(uk.ext x1).texts bh fun x e hl=>(tY x e hl).mF;have di:=b1.but bh (by omega);have aje:=(h.cL.ext x1).but bh nj.symm;obtain⟨M,hM⟩: ∃ M,uO A p q L=M:=⟨_,rfl⟩;have oL:M.length=n:=by rw[<-hM];unfold uO;rw[dn,hn]
 rw[hM]at hs X0 ⊢;refine dt.intro (fun(i:Nat)=>[(14,.int .i64 i)]) (fun i H'=>i<=n/\jw Z H' mb (kN (gi A D) (M.take i))/\fw mb H2 H') (fun i=>n-i) 0 ⟨rfl,aF⟩ ⟨aI _,wN,cD.refl _ _⟩ ?_;rintro i H3 ⟨hi,iG,bw⟩;have eJ:=bw.size;have WR: ∀ x,x=mb->x<H2.size->pL H2 x:=fun x e _=>by subst e;exact wN.jT
 have ajf:=ajc.texts bw fun x e hl=>(WR x e hl).mF;have ajg:=ajd.texts bw fun x e hl=>(WR x e hl).mF;have fR:=di.but bw (by omega);have PK:=aje.but bw nj.symm;by_cases ct:i<n
 .obtain⟨k,hk⟩: ∃ k,L[i]? =some k:=⟨_,aD (by omega)⟩;have EG:=aU hk;have ajh:(L.map (mN p q))[i]? =some (mN p q k):=by rw[dK,hk];rfl
  have X1:M[i]? =some (mN p q k,qJ A k):=by rw[<-hM];unfold uO;rw[dK,hk];rfl
  obtain⟨nd,hg⟩: ∃ nd,ck A k=some nd:=by
   cases hg:ck A k with
   |none=>exact absurd hg (ua k EG)
   |some nd=>exact⟨nd,rfl⟩
  have je:qJ A k=nd:=by unfold qJ;rw[hg];rfl
  rw[je]at X1;have LN:ck (kN (gi A D) (M.take i)) k=some nd:=by
   rw[Tp _ _ _ fun hm=>X0 k EG ((List.take_sublist i M).map (fun x=>x.1) |>.subset hm),pU,ak (jQ k EG)];exact hg
  have HT:M.take (i+1)=M.take i++[(mN p q k,nd)]:=by rw[bX,X1];rfl
  ((conv=>whnf);repeat(any_goals((first|(refine cm.fe ajf hn i k (by omega) hk ?_;intro _ _ _ _ _)|(refine cm.fe ajg (by(rw[dn];exact hn)) i (mN p q k) (by omega) ajh ?_;intro bt ot pj EF pk)|((with_reducible apply T6 iG LN);rfl;rfl;rfl;rfl;(intro v3 ui;obtain⟨g1,a1,c1,rfl,k1,k2⟩:=iJ.out ui;have kf:=ui.tN g1 a1 c1 rfl k1;(conv=>whnf)))|((with_reducible apply FU (n:=nd));(exact iG.ext (by exact Vc.xt));(focus((exact .Hu (by assumption) (k2.ext (by exact Vc.xt)) kf)));rfl;rfl;(intro H5 z5 m5 x5;(conv=>whnf)))|refine Vc.aq ?_|refine Vc.bz ?_ ?_)<;>(intros;(conv=>whnf)))))
  rename_i He ze be xe Hf zf bf xf;refine⟨i+1,⟨rfl,aF⟩,⟨by omega,by rw[HT,ada];exact m5,(bw.ext (show ax H3 Hf by exact Vc.xt)).trans x5 fun _ _ e=>e⟩,by omega⟩
 .obtain rfl:i=n:=by omega
  rw[aL (by omega)]at iG;((conv=>whnf);repeat(any_goals((first|refine Vc.aq ?_|refine Vc.bz ?_ ?_)<;>(intros;(conv=>whnf)))))
  rename_i He ze be xe;have HU:bu He b #[.map (some mb),.int .i64 ((cQ A:Int)+(EI:Int))] 133:=be;rw[show(cQ A:Int)+(EI:Int)=(cQ (kN (gi A D) M):Nat)by omega]at HU;exact⟨rfl,⟨iG.keep xe nj (fun x e _=>by subst e;exact .inl (Du PK)),HU,fun x hx=>dG (h.low x hx) (by have:=x1.size;have:=bh.size;have:=bw.size;have:=xe.size;omega)⟩,((x1.only.trans bh fun _ _ e=> .inr e).trans bw fun _ _ e=> .inr e).trans xe fun _ _ e=> .inl e⟩
theorem BW.ext {H H':ae} {mv:Value} {A:Tr} {p q:ap} {L:List Bs} {fa ta la:Option Addr} {fc tc lc:Nat} (h:BW H mv A p q L fa ta la fc tc lc) (k:ax H H'):BW H' mv A p q L fa ta la fc tc lc:=⟨h.val,h.fr.ext k,h.to.ext k,h.lack.ext k,h.nodup,h.mem,h.len⟩
set_option maxHeartbeats 4000000 in
theorem abT {b mb:Nat} {A:Tr} {H:ae} (h:iQ Z H b mb A) (hA:dr A) (s t:Bs):az Tryz.prog 112 [.pointer (some ⟨b,0,none⟩),.string (ag s),.string (ag t)] H fun v H'=>Did Z H H' b mb v (cM.kW A s t false):=by
 have ib:=Ud h hA s t;have hcs:=ri s;have q5:=ri t;have nj:=h.map.ne h.cL;have PH:=h.cL.lt;have PI:=h.map.lt;have QC:cM.kW A s t false=if oq A s t=0 then As A (cF s).1 (cF t).1 false else(A,oq A s t):=by
  unfold cM.kW oq;by_cases h0:(cF s).2=0
  .rw[av h0,av h0];by_cases h1:(cF t).2=0
   .rw[av h1,av h1];by_cases h2:tI A (cF s).1 (cF t).1=0
    .rw[av h2]
    .rw[ak h2,FK,ak h2]
   .rw[ak h1,ak h1,ak h1]
  .rw[ak h0,ak h0,ak h0]
 rw[QC];by_cases hc: ¬oq A s t=0
 .rw[ak hc];have Cv: ¬(oq A s t:Int)=0:=by omega
  refine Vc.az.body Tryz.func112 Tryz.call112 rfl (by decide+kernel) rfl ?_;((conv=>whnf);repeat(any_goals((first|(refine ib.mono ?_;rintro _ H1 ⟨⟨mv,rfl,je,yq⟩,cd⟩;have eR:=cd.size;obtain rfl:=je hc)|refine Vc.aq ?_|refine Vc.bz ?_ ?_)<;>(intros;(conv=>whnf)))))
  exact Did.none h (by exact Vc.xt) _
 have hc:oq A s t=0:=by omega
 have Cb:(cF s).2=0:=by
  unfold oq at hc;split at hc
  .rename_i h;exact h
  .exact hc
 have GA:(cF t).2=0:=by
  unfold oq at hc;rw[av Cb]at hc;split at hc
  .rename_i h;exact h
  .exact hc
 have sV:tI A (cF s).1 (cF t).1=0:=by
  unfold oq at hc;rw[av Cb,av GA]at hc;exact hc
 have hp:=oR Cb;have hq:=oR GA;obtain⟨p,qA⟩: ∃ p,(cF s).1=p:=⟨_,rfl⟩;obtain⟨q,lE⟩: ∃ q,(cF t).1=q:=⟨_,rfl⟩;rw[qA]at hp ib sV ⊢;rw[lE]at hq ib sV ⊢;rw[hc]at ib ⊢;rw[av rfl,FK,av sV];have y:=N6 sV;have vq:=hA.count;have qZ:=hA.size;have uh:(dm A q).length<=12:=by
  have h1:(dm A q).length<=(jm q).length:=dY _ _;have h2:=hq.parts.deep;rw[Dt]at h1;omega
 have ju:=fun H' (k:ax H H')=>Dw (h.ext k) hA.sorted (by omega) (by omega) (dm A q).length 0 (by omega) (by omega);by_cases oK:(dm A q).length+A.length<=500
 .rw[bB ⟨oK,by omega⟩]at ju;rw[ak (by simp;omega)];have hD:gi A (dm A q).reverse=gi A (dm A q):=Nw hA.sorted _;have CO:=goes hA hp hq y.pn y.qn;have jH:=apart hA hp hq y.pn y.qn y.EH y.Gz y.out;have sv:=Ue hA hp hq y;have HN:cQ (eM A p q)<=1048576:=by rw[Fu];exact dh (Fj _ _) qZ
  have rT:=fun(H1:ae) (mv:Value) (L:List Bs) (fa ta la:Option Addr) (fc tc lc:Nat) (hv:BW H1 mv A p q L fa ta la fc tc lc) (k:ax H H1)=>by
   have vk:=Nb (q:=q) hA.sorted.nodup hv.nodup hv.mem;have oI:((uO A p q L).map (·.1)).Nodup:=(vk.map _).nodup_iff.2 CO.nodup;have wI:=Tq (sy (dm A q) hA.sorted) vk oI;have HV: ∀ k∈L,eL k p=true:=fun k hk=>((hv.mem k).1 hk).2;have:=Tt (h.ext k) p q L (dm A q).reverse fa ta la fc tc lc L.length (dm A q).length (cQ (eM A p q)) hv.fr hv.to hv.lack rfl (by simp) (by have:=hv.len;omega) (by omega)
    (fun k hk e=>ka.1 e ((hv.mem k).1 hk).1) (fun k hk hd=>by have:=jH.lack k (by simpa using hd);rw[HV k hk]at this;cases this)
    (fun k hk hd=>by
     obtain⟨x,hx,rfl⟩:=bH.1 hd;have:=jH.O9 x (vk.subset hx);rw[HV _ hk]at this;cases this)
    (by rw[hD,wI];exact sv) (by omega) (by omega)
   rw[hD,wI]at this;exact this
  have pM:=fun(H2:ae) (L:List Bs) (fa:Option Addr) (fc:Nat) (ht:iQ Z H2 b mb _) (eA:Row H2 fa (strs L)) (hl:L.length<=A.length) (nW:L.Nodup) (hm: ∀ k,k∈L↔k∈A.map (·.1)/\eL k p=true)=>Uc ht (Bi (eM A p q) (sy (dm A q) hA.sorted)) (by omega) L fa L.length fc eA rfl (by omega) nW (fun k hk=>by
   rw[Bo k _ _ CO.nodup];cases ck (eM A p q) k with
   |some n=>simp
   |none=>
    dsimp only;rw[pU];split
    .simp
    .exact fun e=>ka.1 e ((hm k).1 hk).1)
  have A5: ∀ H' (k:ax H H') x,(x=b\/x=mb)->x<H'.size->qQ H' x:=fun H' k x e _=>by
   rcases e with rfl|rfl
   .exact(h.ext k).jT.mF
   .exact(h.ext k).map.jT.mF
  refine Vc.az.body Tryz.func112 Tryz.call112 rfl (by decide+kernel) rfl ?_;((conv=>whnf);repeat(any_goals((first|(refine ib.mono ?_;rintro _ H1 ⟨⟨mv,rfl,je,yq⟩,cd⟩;have eR:=cd.size;obtain⟨L,fa,ta,la,fc,tc,lc,hv⟩:=yq rfl;obtain rfl:=hv.val)|(refine(ju _ (by exact Vc.xt)).mono ?_;rintro _ _ ⟨rfl,rfl⟩)|(rename_i Ha za ba xa Hb zb bb xb;refine(rT Hb _ L fa ta la fc tc lc (hv.ext (by exact Vc.xt)) (by exact Vc.xt)).mono ?_;rintro _ H5 ⟨rfl,yL,cE⟩;have ij:=cE.size;have LH:=bb.keep cE (fun e=>by omega);have WS:=(show ax H1 Hb by exact Vc.xt);have LO:=cd.trans WS;have LP:=(hv.fr.ext WS).texts cE (A5 Hb LO))|(refine(pM _ L fa fc yL LP hv.len hv.nodup hv.mem).mono ?_;rintro _ H6 ⟨rfl,HW,cV⟩;have fS:=cV.size)|refine Vc.aq ?_|refine Vc.bz ?_ ?_)<;>(intros;(conv=>whnf)))))
  rw[aaX hA hp hq y hv.mem]at HW;exact⟨rfl,HW,(LO.only.trans cE fun _ _ e=>e).trans cV fun _ _ e=>e⟩
 .rw[aN (fun e=>oK e.1)]at ju;rw[av (by simp;omega)];refine Vc.az.body Tryz.func112 Tryz.call112 rfl (by decide+kernel) rfl ?_;((conv=>whnf);repeat(any_goals((first|(refine ib.mono ?_;rintro _ H1 ⟨⟨mv,rfl,je,yq⟩,cd⟩;have eR:=cd.size;obtain⟨L,fa,ta,la,fc,tc,lc,hv⟩:=yq rfl;obtain rfl:=hv.val)|(refine(ju _ (by exact Vc.xt)).mono ?_;rintro _ _ ⟨rfl,rfl⟩)|refine Vc.aq ?_|refine Vc.bz ?_ ?_)<;>(intros;(conv=>whnf)))))
  exact Did.none h (by exact Vc.xt) _
set_option maxHeartbeats 4000000 in
theorem aeQ {b mb:Nat} {A:Tr} {H:ae} (h:iQ Z H b mb A) (hA:dr A) (s t:Bs):az Tryz.prog 111 [.pointer (some ⟨b,0,none⟩),.string (ag s),.string (ag t)] H fun v H'=>Did Z H H' b mb v (cM.kW A s t true):=by
 have ib:=Ud h hA s t;have hcs:=ri s;have q5:=ri t;have nj:=h.map.ne h.cL;have PH:=h.cL.lt;have PI:=h.map.lt;have QC:cM.kW A s t true=if oq A s t=0 then As A (cF s).1 (cF t).1 true else(A,oq A s t):=by
  unfold cM.kW oq;by_cases h0:(cF s).2=0
  .rw[av h0,av h0];by_cases h1:(cF t).2=0
   .rw[av h1,av h1];by_cases h2:tI A (cF s).1 (cF t).1=0
    .rw[av h2]
    .rw[ak h2,FK,ak h2]
   .rw[ak h1,ak h1,ak h1]
  .rw[ak h0,ak h0,ak h0]
 rw[QC];by_cases hc: ¬oq A s t=0
 .rw[ak hc];have Cv: ¬(oq A s t:Int)=0:=by omega
  refine Vc.az.body Tryz.func111 Tryz.call111 rfl (by decide+kernel) rfl ?_;((conv=>whnf);repeat(any_goals((first|(refine ib.mono ?_;rintro _ H1 ⟨⟨mv,rfl,je,yq⟩,cd⟩;have eR:=cd.size;obtain rfl:=je hc)|refine Vc.aq ?_|refine Vc.bz ?_ ?_)<;>(intros;(conv=>whnf)))))
  exact Did.none h (by exact Vc.xt) _
 have hc:oq A s t=0:=by omega
 have Cb:(cF s).2=0:=by
  unfold oq at hc;split at hc
  .rename_i h;exact h
  .exact hc
 have GA:(cF t).2=0:=by
  unfold oq at hc;rw[av Cb]at hc;split at hc
  .rename_i h;exact h
  .exact hc
 have sV:tI A (cF s).1 (cF t).1=0:=by
  unfold oq at hc;rw[av Cb,av GA]at hc;exact hc
 have hp:=oR Cb;have hq:=oR GA;obtain⟨p,qA⟩: ∃ p,(cF s).1=p:=⟨_,rfl⟩;obtain⟨q,lE⟩: ∃ q,(cF t).1=q:=⟨_,rfl⟩;rw[qA]at hp ib sV ⊢;rw[lE]at hq ib sV ⊢;rw[hc]at ib ⊢;rw[av rfl,FK,av sV];have y:=N6 sV;have vq:=hA.count;have qZ:=hA.size;have uh:(dm A q).length<=12:=by
  have h1:(dm A q).length<=(jm q).length:=dY _ _;have h2:=hq.parts.deep;rw[Dt]at h1;omega
 have CO:=goes hA hp hq y.pn y.qn;have jH:=apart hA hp hq y.pn y.qn y.EH y.Gz y.out;have sv:=Ue hA hp hq y;have HN:cQ (eM A p q)<=1048576:=by rw[Fu];exact dh (Fj _ _) qZ
 have mK:(eM A p q).length<=A.length:=by unfold eM;rw[dn];exact dY _ _
 have ju:=fun H' (k:ax H H')=>Dw (h.ext k) hA.sorted (by omega) (by omega) ((dm A q).length+(eM A p q).length) (cQ (eM A p q):Nat) (by omega) (by omega);rw[show(((dm A q).length+(eM A p q).length:Nat):Int)=((dm A q).length:Int)+((eM A p q).length:Nat)by omega]at ju;rw[av rfl,av rfl];have hL: ∀ {H1:ae} {mv:Value} {L:List Bs} {fa ta la:Option Addr} {fc tc lc:Nat},BW H1 mv A p q L fa ta la fc tc lc->L.length=(eM A p q).length:=fun hv=>by
  have:=(Nb (q:=q) hA.sorted.nodup hv.nodup hv.mem).length_eq;unfold uO at this;rw[dn]at this;exact this
 by_cases oK:(dm A q).length+(eM A p q).length+A.length<=500/\(cQ (eM A p q):Int)+cQ A<=1048576
 .rw[bB oK]at ju;rw[ak (by omega)];have hD:gi A (dm A q).reverse=gi A (dm A q):=Nw hA.sorted _;have rT:=fun(H1:ae) (mv:Value) (L:List Bs) (fa ta la:Option Addr) (fc tc lc:Nat) (hv:BW H1 mv A p q L fa ta la fc tc lc) (k:ax H H1)=>by
   have vk:=Nb (q:=q) hA.sorted.nodup hv.nodup hv.mem;have oI:((uO A p q L).map (·.1)).Nodup:=(vk.map _).nodup_iff.2 CO.nodup;have wI:=Tq (sy (dm A q) hA.sorted) vk oI;have HV: ∀ k∈L,eL k p=true:=fun k hk=>((hv.mem k).1 hk).2;have:=Tt (h.ext k) p q L (dm A q).reverse fa ta la fc tc lc L.length (dm A q).length (cQ (eM A p q)) hv.fr hv.to hv.lack rfl (by simp) (by have:=hv.len;omega) (by omega)
    (fun k hk e=>ka.1 e ((hv.mem k).1 hk).1) (fun k hk hd=>by have:=jH.lack k (by simpa using hd);rw[HV k hk]at this;cases this)
    (fun k hk hd=>by
     obtain⟨x,hx,rfl⟩:=bH.1 hd;have:=jH.O9 x (vk.subset hx);rw[HV _ hk]at this;cases this)
    (by rw[hD,wI];exact sv) (by omega) (by omega)
   rw[hD,wI]at this;exact this
  have A5: ∀ H' (k:ax H H') x,(x=b\/x=mb)->x<H'.size->qQ H' x:=fun H' k x e _=>by
   rcases e with rfl|rfl
   .exact(h.ext k).jT.mF
   .exact(h.ext k).map.jT.mF
  refine Vc.az.body Tryz.func111 Tryz.call111 rfl (by decide+kernel) rfl ?_;((conv=>whnf);repeat(any_goals((first|(refine ib.mono ?_;rintro _ H1 ⟨⟨mv,rfl,je,yq⟩,cd⟩;have eR:=cd.size;obtain⟨L,fa,ta,la,fc,tc,lc,hv⟩:=yq rfl;obtain rfl:=hv.val;have yG:=hL hv)|(rw[yG];refine(ju _ (by exact Vc.xt)).mono ?_;rintro _ _ ⟨rfl,rfl⟩)|(rename_i Ha za ba xa Hb zb bb xb;refine(rT Hb _ L fa ta la fc tc lc (hv.ext (by exact Vc.xt)) (by exact Vc.xt)).mono ?_;rintro _ H5 ⟨rfl,yL,cE⟩;have ij:=cE.size;have LO:=(show ax H Hb by exact Vc.xt))|refine Vc.aq ?_|refine Vc.bz ?_ ?_)<;>(intros;(conv=>whnf)))))
  exact⟨rfl,yL,LO.only.trans cE fun _ _ e=>e⟩
 .rw[aN oK]at ju;rw[av (by omega)];refine Vc.az.body Tryz.func111 Tryz.call111 rfl (by decide+kernel) rfl ?_;((conv=>whnf);repeat(any_goals((first|(refine ib.mono ?_;rintro _ H1 ⟨⟨mv,rfl,je,yq⟩,cd⟩;have eR:=cd.size;obtain⟨L,fa,ta,la,fc,tc,lc,hv⟩:=yq rfl;obtain rfl:=hv.val;have yG:=hL hv)|(rw[yG];refine(ju _ (by exact Vc.xt)).mono ?_;rintro _ _ ⟨rfl,rfl⟩)|refine Vc.aq ?_|refine Vc.bz ?_ ?_)<;>(intros;(conv=>whnf)))))
  exact Did.none h (by exact Vc.xt) _
end Go.Proofs.YtphkaogbcfdllaaGreatDoor
namespace Go.cM
open Go.eg Go.cN
open Go.Vc (ck fk kX jX lf jy ka)
theorem J4 (A:Tr) (p k:ap) (stays:Bool):ck (nR A p stays) k=if stays=true\/eL k p=false then ck A k else none:=by
 unfold nR;cases stays with
 |true=>rw[av rfl,av (.inl rfl)]
 |false=>
  rw[ak (by simp),Fh (fun x=> !eL x p)];cases h:eL k p<;>simp
theorem aaY {A:Tr} (h:Sorted A) (p:ap) (stays:Bool):Sorted (nR A p stays):=by
 unfold nR;split
 .exact h
 .exact gq fD h
theorem adb (A:Tr) (f:ap×Node->Bool):(A.filter fun x=> !f x).length+(A.filter f).length=A.length/\cQ (A.filter fun x=> !f x)+cQ (A.filter f)=cQ A:=by
 induction A with
 |nil=>exact⟨rfl,rfl⟩
 |cons x l ih=>
  have e1: ∀ (y:ap×Node) (m:Tr),cQ (y::m)=y.2.2.length+cQ m:=fun y m=>by simp[cQ]
  rw[dN,dN];cases h:f x<;>simp[e1]<;>omega
theorem dr.two {A:Tr} (hA:dr A) {p q:ap} (hp:jk p) (hq:jk q) (stays:Bool):dr (As A p q stays).1:=by
 rw[FK];by_cases ib:tI A p q=0
 rotate_left
 .rw[ak ib];exact hA
 rw[av ib];by_cases jq:500<A.length+((dm A q).length+if stays=true then(eM A p q).length else 0)\/1048576<cQ A+(if stays=true then cQ (eM A p q)else 0)
 .rw[av jq];exact hA
 rw[ak jq];rw[fT]at jq;have y:=N6 ib;have ha:=apart hA hp hq y.pn y.qn y.EH y.Gz y.out;have hg:=goes hA hp hq y.pn y.qn;have AX:=Nt hA hq y.file;have nW:=JG (A:=A) hq;have yK:=aaY hA.sorted p stays;show dr (kN (gi (nR A p stays) (dm A q)) (eM A p q));have hT: ∀ k,ck (kN (gi (nR A p stays) (dm A q)) (eM A p q)) k=match ck (eM A p q) k with
   |some n=>some n
   |none=>if k∈dm A q then some (true,[])else if stays=true\/eL k p=false then ck A k else none:=fun k=>by
  rw[Bo k _ _ hg.nodup];cases ck (eM A p q) k with
  |some n=>rfl
  |none=>dsimp only;rw[pU,J4]
 have Pc: ∀ k n,ck (kN (gi (nR A p stays) (dm A q)) (eM A p q)) k=some n->(k,n)∈eM A p q\/(k∈dm A q/\n=(true,[]))\/((stays=true\/eL k p=false)/\ck A k=some n):=fun k n h=>by
  rw[hT]at h;cases hm:ck (eM A p q) k with
  |some n'=>rw[hm]at h;cases h;exact .inl (lf hm)
  |none=>
   rw[hm]at h;dsimp only at h;split at h
   .rename_i hk;cases h;exact .inr (.inl ⟨hk,rfl⟩)
   .split at h
    .rename_i hk;exact .inr (.inr ⟨hk,h⟩)
    .cases h
 have uk: ∀ k t,k∉(eM A p q).map (·.1)->(stays=true\/eL k p=false)->ck A k=some (true,t)-> ∃ t,ck (kN (gi (nR A p stays) (dm A q)) (eM A p q)) k=some (true,t):=fun k t hn hk h=>by
  rw[hT,ka.2 hn];dsimp only;by_cases hl:k∈dm A q
  .rw[av hl];exact⟨_,rfl⟩
  .rw[ak hl,av hk];exact⟨_,h⟩
 have uh: ∀ k∈dm A q,∃ t,ck (kN (gi (nR A p stays) (dm A q)) (eM A p q)) k=some (true,t):=fun k hk=>by
  have hn:k∉(eM A p q).map (·.1):=fun h=>by
   obtain⟨x,hx,rfl⟩:=bH.1 h;exact ha.Pa x hx hk
  rw[hT,ka.2 hn];dsimp only;rw[av hk];exact⟨_,rfl⟩
 have iF: ∀ k t,ck A k=some t->k∉(eM A p q).map (·.1):=fun k t h hm=>by
  obtain⟨x,hx,rfl⟩:=bH.1 hm;rw[ha.fresh x hx]at h;cases h
 obtain⟨k0,ek,wP⟩:=hp;obtain⟨m0,em,mc⟩:=hq;have oH:k0≠ []:=by rintro rfl;exact y.pn ek
 have oI:m0≠ []:=by rintro rfl;exact y.qn em
 have mG: ¬k0<+:m0:=fun h=>by
  have:=(eg.within_iff mc.good wP.good).2 h;rw[<-ek,<-em,y.out]at this;cases this
 have VE: ∀ d∈jm q,eL d p=false:=fun d hd=>by
  rw[em]at hd;obtain⟨j,hj,_,_,rfl⟩:=(n0 mc.good).1 hd;cases hw:eL (glue j) p with
  |false=>rfl
  |true=>rw[ek]at hw;exact absurd (((eg.within_iff (zo mc hj).good wP.good).1 hw).trans hj) mG
 have Qk: ∀ d∈jm q,∃ t,ck (kN (gi (nR A p stays) (dm A q)) (eM A p q)) d=some (true,t):=fun d hd=>by
  rcases JR y.file hd with h|⟨t,h⟩
  .exact uh d (by unfold dm;rw[bT];exact⟨hd,by rw[h];rfl⟩)
  .exact uk d t (iF d _ h) (.inr (VE d hd)) h
 have hM:(eM A p q).length=(A.filter fun x=>eL x.1 p).length:=by unfold eM;rw[dn]
 have hMs:=Fu A p q;have akx:=adb A (fun x=>eL x.1 p);have mK:(gi (nR A p stays) (dm A q)).length=(nR A p stays).length+(dm A q).length:=Ns yK nW fun d hd=>by
  rw[J4];split
  .exact(tq hd).2
  .rfl
 have HN:cQ (gi (nR A p stays) (dm A q))=cQ (nR A p stays):=Db yK fun d hd=>by
  rw[J4];split
  .exact(tq hd).2
  .rfl
 obtain⟨cU,hcs⟩:=Nu (eM A p q) (sy (dm A q) yK) hg.nodup fun x hx=>by
  rw[pU,ak (ha.Pa x hx),J4];split
  .exact ha.fresh x hx
  .rfl
 refine⟨Bi _ (sy _ yK),fun k n h=> ?_,fun k n h d hd=> ?_,?_,?_,fun k n h=> ?_⟩
 .rcases Pc k n h with hm|⟨hl,_⟩|⟨_,hm⟩
  .obtain⟨k',m',r,e1,e2,qB,pg,e,_⟩:=hg.keys _ hm;have e:k=glue (m'++r):=e;have hb:(cF k).2=0:=by
    have:=y.good;unfold yn at this;rw[gY]at this;have:=this _ hm;simpa using this
   have hc:cF k=(k,0):=by
    rcases SE pg with h1|h1
    .rw[<-e]at h1;rw[h1]at hb;cases hb
    .rw[<-e]at h1;exact h1
   have h1:=oR hb;rw[hc]at h1;refine⟨h1,?_⟩;rw[e];refine FE pg fun h0=> ?_;have:m'=[]:=List.append_eq_nil_iff.1 h0 |>.1
   rw[this]at e2;exact y.qn e2
  .exact⟨(AX k hl).2.1,(AX k hl).2.2.1⟩
  .exact hA.clean k n hm
 .rcases Pc k n h with hm|⟨hl,_⟩|⟨hw,hm⟩
  .obtain⟨k',m',r,e1,e2,qB,pg,e,hold⟩:=hg.keys _ hm;have e:k=glue (m'++r):=e;have:k'=k0:=uG (fun y hy=>qB.good y (by simp[hy])) wP.good (e1.symm.trans ek);subst this;have:m'=m0:=uG (fun y hy=>pg y (by simp[hy])) mc.good (e2.symm.trans em);subst this;rw[e]at hd;obtain⟨j,hj,Ct,A1,rfl⟩:=(n0 pg).1 hd;rcases List.prefix_or_prefix_of_prefix hj (gT m' r)with h2|h2
   .by_cases G4:j=m'
    .subst G4;have sU:r≠ []:=by rintro rfl;simp at A1
     have EJ:p∈jm (glue (k'++r)):=(n0 qB.good).2 ⟨k',gT _ _,oH,by rw[au];have:=bY.2 sU;omega,ek⟩;obtain⟨t,ht⟩:=hA.above _ _ hold _ EJ;have iW:(q,(true,t))∈eM A p q:=by
      unfold eM;refine bH.2 ⟨(p,(true,t)),bT.2 ⟨lf ht,by simp[eL]⟩,?_⟩;simp
     refine⟨t,?_⟩;rw[hT,<-em,jy hg.nodup iW]
    .refine Qk _ ?_;rw[em];exact(n0 mc.good).2 ⟨j,h2,Ct,Nat.lt_of_le_of_ne h2.length_le fun h=>G4 (h2.eq_of_length h),rfl⟩
   .obtain⟨s,rfl⟩:=h2;by_cases mf:s=[]
    .subst mf;rw[dD]at A1 ⊢;have sU:r≠ []:=by rintro rfl;simp at A1
     have EJ:p∈jm (glue (k'++r)):=(n0 qB.good).2 ⟨k',gT _ _,oH,by rw[au];have:=bY.2 sU;omega,ek⟩;obtain⟨t,ht⟩:=hA.above _ _ hold _ EJ;have iW:(q,(true,t))∈eM A p q:=by
      unfold eM;refine bH.2 ⟨(p,(true,t)),bT.2 ⟨lf ht,by simp[eL]⟩,?_⟩;simp
     refine⟨t,?_⟩;rw[hT,<-em,jy hg.nodup iW]
    .have wH:s<+:r:=(List.prefix_append_right_inj m').1 hj;have hkd:glue (k'++s)∈jm (glue (k'++r)):=(n0 qB.good).2 ⟨k'++s,(List.prefix_append_right_inj k').2 wH,by simp[oH],by have h5:=A1;rw[au,au]at h5;rw[au,au];exact Nat.add_lt_add_left (Nat.lt_of_add_lt_add_left h5) _,rfl⟩;obtain⟨t,ht⟩:=hA.above _ _ hold _ hkd;have aji:=zo qB ((List.prefix_append_right_inj k').2 wH);have iW:(glue (m'++s),(true,t))∈eM A p q:=by
      unfold eM;refine bH.2 ⟨(glue (k'++s),(true,t)),bT.2 ⟨lf ht,?_⟩,?_⟩
      .rw[ek];exact(eg.within_iff aji.good wP.good).2 (gT _ _)
      .show(q++(glue (k'++s)).drop p.length,_)=_;rw[ek,em,JO oH oI]
     refine⟨t,?_⟩;rw[hT,jy hg.nodup iW]
  .rcases (AX k hl).2.2.2 d hd with h1|⟨t,h1⟩
   .exact uh d h1
   .refine uk d t (iF d _ h1) (.inr ?_) h1;refine VE d ?_;have X4:=(tq hl).1;rw[em]at X4 ⊢;obtain⟨j,hj,Ct,A1,rfl⟩:=(n0 mc.good).1 X4;obtain⟨i,hi,ua,yH,rfl⟩:=(n0 (zo mc hj).good).1 hd;exact(n0 mc.good).2 ⟨i,hi.trans hj,ua,by omega,rfl⟩
  .obtain⟨t,ht⟩:=hA.above _ _ hm _ hd;refine uk d t (iF d _ ht) ?_ ht;rcases hw with hw|hw
   .exact .inl hw
   .refine .inr ?_;cases sT:eL d p with
    |false=>rfl
    |true=>
     obtain⟨⟨l,e,hl⟩,_⟩:=hA.clean k n hm;rw[e]at hd hw;obtain⟨j,hj,Ct,A1,rfl⟩:=(n0 hl.good).1 hd;rw[ek]at sT hw;have h1:=(eg.within_iff (zo hl hj).good wP.good).1 sT;rw[(eg.within_iff hl.good wP.good).2 (h1.trans hj)]at hw;cases hw
 .rw[hcs,HN];cases stays with
  |true=>
   simp only[gB]at jq;show cQ A+_<=_;omega
  |false=>
   simp only[eY,fP]at jq;have qZ:=hA.size;have e:nR A p false=A.filter fun x=> !eL x.1 p:=rfl;rw[e,hMs];omega
 .rw[cU,mK];cases stays with
  |true=>
   simp only[gB]at jq;show A.length+_+_<=_;omega
  |false=>
   simp only[eY,fP]at jq;have e:nR A p false=A.filter fun x=> !eL x.1 p:=rfl;rw[e,hM];omega
 .rcases Pc k n h with hm|⟨hl,rfl⟩|⟨hw,hm⟩
  .obtain⟨k',m',r,e1,e2,qB,pg,e,hold⟩:=hg.keys _ hm;exact hA.file _ _ hold
  .exact⟨by simp,fun _=>rfl⟩
  .exact hA.file k n hm
theorem dr.kW {A:Tr} (hA:dr A) (s t:ap) (stays:Bool):dr (kW A s t stays).1:=by
 unfold cM.kW;split
 .rename_i h0;split
  .rename_i h1;exact hA.two (oR h0) (oR h1) stays
  .exact hA
 .exact hA
end Go.cM
