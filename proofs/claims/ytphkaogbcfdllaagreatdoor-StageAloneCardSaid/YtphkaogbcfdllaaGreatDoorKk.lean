import Derived.Test.YtphkaogbcfdllaaGreatDoorKj
import Derived.Test.YtphkaogbcfdllaaGreatDoorKf
import Derived.Test.YtphkaogbcfdllaaGreatDoorKi
import Derived.Test.YtphkaogbcfdllaaGreatDoorKe
import Derived.Test.YtphkaogbcfdllaaGreatDoorKc
import Derived.Test.YtphkaogbcfdllaaGreatDoorKh
import Derived.Test.YtphkaogbcfdllaaGreatDoorKd
import Derived.Carry
import Derived.ProofKit
import Derived.OpenShut
set_option linter.unusedVariables false
set_option linter.unusedSimpArgs false
set_option maxRecDepth 100000
/- Sums: the walk of the sum over parts. -/
namespace Go.Proofs.YtphkaogbcfdllaaGreatDoor
open Go Go.Vc Go.uv
structure ux (H0 H:ae) (bt:Nat) (C:List UInt8) (q:Nat) (X rest rem:List UInt8) (ra:Option Addr) (rn Eh:Nat) (a:Option Addr) (n cap:Nat):Prop where
 all:C=X++rest++rem
 blocks:X.length=64*q
 st:bu H bt (kK (jD q h0 (ints X))) 240
 own:cq H (bt+1) 5 1 ra rn Eh (cv rest)
 Ei:rest.length=rn
 row:Row H a (cv rem)
 len:rem.length=n
 oz:n<=cap
 ext:ax H0 H
 new:H0.size<=bt
 EV:rem≠ []-> ∀ p,a=some p->p.block<H0.size
theorem ux.step {H0 H H':ae} {bt:Nat} {C:List UInt8} {q q':Nat} {X X' rest KP rem GM:List UInt8} {ra CV:Option Addr} {rn Eh Q7 BZ:Nat} {a a':Option Addr} {n cap n' cS:Nat} (h:ux H0 H bt C q X rest rem ra rn Eh a n cap)
  {F:Nat->Prop} (hF: ∀ b,F b->bt<=b) (k:cD F H H') (ii:C=X'++KP++GM) (hX:X'.length=64*q') (cW:bu H' bt (kK (jD q' h0 (ints X'))) 240) (jZ:cq H' (bt+1) 5 1 CV Q7 BZ (cv KP)) (pK:KP.length=Q7)
  (jz:Row H a' (cv GM)) (hlen:GM.length=n') (oz:n'<=cS) (ua:GM≠ []-> ∀ p,a'=some p->p.block<H0.size):ux H0 H' bt C q' X' KP GM CV Q7 BZ a' n' cS:=
 ⟨ii,hX,cW,jZ,pK,jz.vY k fun h0 p hp hb=>by
  have h1:=ua (fun e=>h0 (by rw[e];rfl)) p hp;have h2:=hF _ hb;have:=h.new;omega,hlen,oz,cD.trans h.ext k fun b hb IF=>(by have:=hF b IF;have:=h.new;omega),h.new,ua⟩
theorem Se (q:Nat) (X b:List UInt8) (hX:X.length=64*q) (hb:64<=b.length):cL (jD q h0 (ints X)) (ints b)=jD (q+1) h0 (ints (X++b.take 64)):=by
 rw[MV,Fl,RF q h0 (ints X) _ (by rw[nL,hX];omega)];rw[List.drop_append_of_le_length (by rw[nL,hX];omega),List.drop_eq_nil_of_le (by rw[nL,hX];omega),iD,<-adN,List.take_take,Nat.min_self,Og]
theorem BN.EV {H:ae} {p:Part} (h:BN H p): ∀ q,p.a=some q->p.l≠ []->q.block<H.size:=by
 intro q hq hl;obtain⟨b,o,ha,hb,_⟩:=h.row.at (by rw[ik];exact bY.2 hl);rw[ha]at hq;cases hq;exact hb
theorem Vn (x:Int) (k:Int) (h0:0<=k) (h1:k<=64):nA .u64 x k=x / 2 ^ k.toNat:=by
 unfold nA;rw[gL (by simp[IntKind.bits];omega)];exact Int.fdiv_eq_ediv_of_nonneg _ (Int.pow_nonneg (by decide))
set_option maxHeartbeats 1000000 in
theorem OG (ps:List Part) (pa:Option Addr) (pn PY:Nat) (H:ae) (hp:v8 H pa ps) (hn:ps.length=pn) (lO:pn<=140737488355328) (ajH:(gw ps).length<=70368744177664):
  az Tryz.prog 88 [.slice pa pn PY] H fun v H'=>v= .agg (cv (ix (gw ps))).toArray/\ax H H':=by
 refine Vc.az.body Tryz.func88 Tryz.call88 rfl (by decide+kernel) rfl ?_;((conv=>whnf);repeat(any_goals(first|(refine Vc.cJ ?_;(conv=>whnf)))))
 refine aE.alloc rfl rfl ?_;intro H1 jr eC cd;((conv=>whnf);repeat(any_goals(first|((refine(adJ _).mono ?_;rintro _ H2 ⟨rfl,bh⟩);(conv=>whnf))|((refine(adK _).mono ?_;rintro _ H3 ⟨rfl,bw⟩);(conv=>whnf))|(refine Vc.cJ ?_;(conv=>whnf)))))
 refine⟨⟨.agg (kK h0),fun w=>by kernel_rfl,?_⟩⟩;((conv=>whnf);repeat(any_goals(first|(refine Vc.cJ ?_;(conv=>whnf)))))
 refine aE.box ?_;intro H4 rN iX cH;have hz:=((eC.ext bh).ext bw).ext cH;clear eC;((conv=>whnf);repeat(any_goals(first|(refine Vc.cJ ?_;(conv=>whnf)))))
 have ajI:bu H4 H3.size (kK h0) 240:=iX;clear iX;have hx:ax H H4:=((cd.trans bh).trans bw).trans cH;have ez:H.size+1<=H3.size:=by have:=bh.size;have:=bw.size;omega
 generalize yQ:H3.size=bt at*
 refine dt.intro (fun(s:Nat×Nat×List UInt8×List UInt8×Option Addr×Nat×Nat)=>[(22,.int .i64 s.1),(4,.slice s.2.2.2.2.1 s.2.2.2.2.2.1 s.2.2.2.2.2.2),(5,.int .u64 (8*(gw (ps.take s.1)).length:Nat))])
  (fun s H'=>s.1<=ps.length/\s.2.2.2.1.length<64/\bu H' H.size (Array.replicate 32 (.int .u8 0)) 85/\ux H H' bt (gw (ps.take s.1)) s.2.1 s.2.2.1 s.2.2.2.1 [] s.2.2.2.2.1 s.2.2.2.2.2.1 s.2.2.2.2.2.2 none 0 0) (fun s=>ps.length-s.1) (0,0,[],[],none,0,0) ⟨rfl,rfl,rfl,aF⟩
  ⟨aI _,by decide,hz,rfl,rfl,ajI,cq.nil _ _ _ _,rfl,Row.nil _ _,rfl,aB _,hx,by omega,fun h=>absurd rfl h⟩ ?_
 intro ⟨k,q,X,rest,ra,rn,Eh⟩ H5 ⟨hk,Xi,ij,hM⟩;dsimp only at hk Xi ij hM ⊢;by_cases ct:k<ps.length
 .have hP:=hp.each ps[k] (List.getElem_mem ct);have rQ:=hp.ext hM.ext;have mf:=TI ps k ct;have wT:=RP ps (k+1);have hlen:(gw (ps.take (k+1))).length=(gw (ps.take k)).length+ps[k].l.length:=by rw[mf,au]
  have w8:=hP.len;have YQ:=hP.cap;have pK:=hM.Ei;have hC:=hM.all;generalize hCk:gw (ps.take k)=C at*
  generalize Q8:ps[k]=p at*
  obtain⟨a,n,cap,l⟩:=p;dsimp only at w8 YQ;((conv=>whnf);repeat(any_goals(first|(refine Vc.AY ?_;(conv=>whnf)))))
  refine jO.go ?_;((conv=>whnf);repeat(any_goals(first|(refine Vc.AY ?_;(conv=>whnf)))))
  refine jO.go ?_;have akD:(gw (ps.take (k+1))).length=C.length+l.length:=hlen;have cU:C.length+n<=70368744177664:=by omega
  ((conv=>whnf);repeat(any_goals(first|((refine cm.part rQ hn k rfl ct ?_;intro _ _ _ hc;rw[Q8]at hc;replace hc:hcell _ _=some (.slice a n cap):=hc);(conv=>whnf))|(((with_reducible apply aE.load);rfl;(focus(exact hc)));(conv=>whnf))|(refine Vc.AY ?_;(conv=>whnf)))))
  have w9:ux H H5 bt (C++l) q X rest l ra rn Eh a n cap:=⟨by rw[hC];simp,hM.blocks,hM.st,hM.own,hM.Ei,(hP.ext hM.ext).row,w8,YQ,hM.ext,hM.new,fun h0 p hp=>hP.EV p hp h0⟩;have oG:(gw (ps.take (k+1))).length=C.length+n:=by rw[hlen,<-w8]
  refine jO.cut (fun(s:List UInt8×List UInt8×Option Addr×Nat×Nat×Option Addr×Nat×Nat)=>[(4,.slice s.2.2.1 s.2.2.2.1 s.2.2.2.2.1),(7,.slice s.2.2.2.2.2.1 s.2.2.2.2.2.2.1 s.2.2.2.2.2.2.2),(5,.int .u64 (8*(C.length+n):Nat))])
   (fun s H'=>ux H H' bt (C++l) q X s.1 s.2.1 s.2.2.1 s.2.2.2.1 s.2.2.2.2.1 s.2.2.2.2.2.1 s.2.2.2.2.2.2.1 s.2.2.2.2.2.2.2/\s.1.length<=64/\(s.1.length=0\/s.1.length=64\/s.2.1=[])/\bu H' H.size (Array.replicate 32 (.int .u8 0)) 85) ?_ ?_
  .by_cases h0:0<rn
   .have e5:(8*C.length:Nat)+(n:Int)*8=(8*(C.length+n):Nat):=by omega
    ((conv=>whnf);repeat(any_goals(first|((refine dk.nat (min (64-rn) n) (by omega) (by omega) ?_);(conv=>whnf))|(refine Vc.cJ ?_;(conv=>whnf)))))
    have qB:(l.take (min (64-rn) n)).length=min (64-rn) n:=by rw[aJ,w8];omega
    have aiB:Row H5 a (cv (l.take (min (64-rn) n))):=by rw[<-zi];exact w9.row.take _
    refine cP.append (i:=Tryz.t5) (z:= .int .u8 0) rfl ⟨_,rfl,fun _ h=>by cases h⟩ rfl rfl rfl w9.own (Src.row aiB (by rw[ik,qB];exact(bQ _).symm) (mj _)) (by unfold maxLen;omega) (by show(rn+min (64-rn) n)*1<=_;omega) (by have:=w9.st.lt;omega) ?_;intro CV BZ H6 ei j6 _;((conv=>whnf);repeat(any_goals(first|((refine dk.nat (min (64-rn) n) (by omega) (by omega) ?_);(conv=>whnf))|(refine Vc.cJ ?_;(conv=>whnf)))))
    have hF: ∀ b,(∃ p,ra=some p/\p.block=b)->bt+1<=b:=fun b ⟨p,hp,e⟩=>by have:=(w9.own.block p hp).1;omega
    refine⟨(rest++l.take (min (64-rn) n),l.drop (min (64-rn) n),CV,rn+min (64-rn) n,BZ,jM a cap (min (64-rn) n) 1,n-min (64-rn) n,cap-min (64-rn) n),⟨rfl,rfl,?_,aF⟩,?_,?_,?_,?_⟩
    .show Value.int _ _=Value.int _ _;rw[<-e5]
    .refine w9.step (F:=fun b=>bt+1<=b) (fun b hb=>by omega) (j6.mono hF) (by rw[hC];simp) w9.blocks (w9.st.keep j6 fun h=>by have:=hF _ h;omega) ?_ (by rw[au,qB,pK]) ?_ (by rw[aO,w8]) (by show n-_<=cap-_;omega) ?_
     .rw[rh];exact ei
     .have:=w9.row.drop cap (min (64-rn) n) 1 (fun e=>by rw[ik];omega);rw[bQ,JL]at this;exact this
     .intro cz p hp;have rP:l≠ []:=fun e=>cz (by rw[e];simp);unfold jM at hp;split at hp
      .exact hP.EV p hp rP
      .obtain⟨b,o,ha,hb,_⟩:=hP.row.at (by rw[ik];exact bY.2 rP);subst ha;rw[fI,rA]at hp;cases hp;exact hb
    .show(rest++l.take _).length<=64;rw[au,qB];omega
    .rcases Nat.le_total (64-rn) n with h|h
     .refine .inr (.inl ?_);show(rest++l.take _).length=64;rw[au,qB];omega
     .refine .inr (.inr ?_);show l.drop _=[];exact List.drop_eq_nil_of_le (by omega)
    .exact ij.keep j6 fun h=>by have:=hF _ h;omega
   ·((conv=>whnf);repeat(any_goals(first|(refine Vc.cJ ?_;(conv=>whnf)))))
    refine⟨(rest,l,ra,rn,Eh,a,n,cap),⟨rfl,rfl,?_,aF⟩,w9,by show rest.length<=64;omega,.inl (by show rest.length=0;omega),ij⟩;show Value.int _ _=Value.int _ _;rw[show((8*C.length:Nat):Int)+(n:Int)*8=(8*(C.length+n):Nat)by omega]
  .rintro⟨aiC,GN,uy,rn1,uU,a1,n1,AF⟩ H6 ⟨Q9,iz,lZ,fS⟩;dsimp only at Q9 iz lZ fS ⊢;clear w9 hM rQ hc pK;((conv=>whnf);repeat(any_goals(first|(refine Vc.AY ?_;(conv=>whnf)))))
   refine jO.cut (fun(s:Nat×List UInt8×List UInt8×Nat)=>[(4,.slice uy s.2.2.2 uU),(7,.slice a1 n1 AF),(5,.int .u64 (8*(C.length+n):Nat))])
    (fun s H'=>ux H H' bt (C++l) s.1 s.2.1 s.2.2.1 GN uy s.2.2.2 uU a1 n1 AF/\s.2.2.1.length<64/\(s.2.2.1.length=0\/GN=[])/\bu H' H.size (Array.replicate 32 (.int .u8 0)) 85) ?_ ?_
   ·((conv=>whnf);repeat(any_goals(first|(refine Vc.cJ ?_;(conv=>whnf)))))
    refine dt.intro (fun(s:Nat×List UInt8×List UInt8×Nat)=>[(4,.slice uy s.2.2.2 uU),(7,.slice a1 n1 AF),(5,.int .u64 (8*(C.length+n):Nat))])
     (fun s H'=>ux H H' bt (C++l) s.1 s.2.1 s.2.2.1 GN uy s.2.2.2 uU a1 n1 AF/\s.2.2.1.length<=64/\(s.2.2.1.length=0\/s.2.2.1.length=64\/GN=[])/\bu H' H.size (Array.replicate 32 (.int .u8 0)) 85) (fun s=>s.2.2.1.length) (q,X,aiC,rn1) ⟨rfl,rfl,rfl,aF⟩ ⟨Q9,iz,lZ,fS⟩ ?_
    rintro⟨q2,X2,pC,td⟩ H7 ⟨oQ,cT,rV,jK⟩;dsimp only at oQ cT rV jK ⊢;have Lj:=oQ.Ei;by_cases uw:td=64
    .subst uw;((conv=>whnf);repeat(any_goals(first|((refine(NG (jD q2 h0 (ints X2)) pC (by omega) _ bt oQ.st uy 64 uU (by omega) oQ.own.row (by omega)).mono ?_;rintro _ H8 ⟨rfl,wu,qC⟩);(conv=>whnf))|((refine dk.nat 0 rfl (by omega) ?_);(conv=>whnf))|(refine Vc.cJ ?_;(conv=>whnf)))))
     have YR:=oQ.own.cut 0 (by omega);rw[gX,fu]at YR;refine⟨(q2+1,X2++pC,[],0),⟨rfl,rfl,rfl,aF⟩,⟨?_,by show([]:List UInt8).length<=64;decide,.inl rfl,jK.but qC (by have:=oQ.new;omega)⟩,by show 0<pC.length;omega⟩;refine oQ.step (F:=fun b=>b=bt) (fun b hb=>by omega) qC (by rw[oQ.all];simp) (by rw[au,oQ.blocks];omega) ?_ (YR.keep qC fun p hp=>by have:=(oQ.own.block p hp).1;omega) rfl oQ.row oQ.len oQ.oz oQ.EV;have:=Se q2 X2 pC oQ.blocks (by omega);rw[aL (by omega)]at this;rw[<-this];exact wu
    ·((conv=>whnf);repeat(any_goals(first|(refine Vc.cJ ?_;(conv=>whnf)))))
     refine⟨(q2,X2,pC,td),⟨rfl,rfl,rfl,aF⟩,oQ,by show pC.length<64;omega,?_,jK⟩;rcases rV with h|h|h
     .exact .inl h
     .omega
     .exact .inr h
   .rintro⟨q2,X2,pC,td⟩ H7 ⟨oQ,cT,rV,jK⟩;dsimp only at oQ cT rV jK ⊢;have Lj:=oQ.Ei;clear Q9 fS;((conv=>whnf);repeat(any_goals(first|(refine Vc.AY ?_;(conv=>whnf)))))
    refine jO.cut (fun(s:Nat×List UInt8×List UInt8×Option Addr×Nat×Nat)=>[(4,.slice uy td uU),(7,.slice s.2.2.2.1 s.2.2.2.2.1 s.2.2.2.2.2),(5,.int .u64 (8*(C.length+n):Nat))])
     (fun s H'=>ux H H' bt (C++l) s.1 s.2.1 pC s.2.2.1 uy td uU s.2.2.2.1 s.2.2.2.2.1 s.2.2.2.2.2/\s.2.2.1.length<64/\(pC.length=0\/s.2.2.1=[])/\bu H' H.size (Array.replicate 32 (.int .u8 0)) 85) ?_ ?_
    ·((conv=>whnf);repeat(any_goals(first|(refine Vc.cJ ?_;(conv=>whnf)))))
     refine dt.intro (fun(s:Nat×List UInt8×List UInt8×Option Addr×Nat×Nat)=>[(4,.slice uy td uU),(7,.slice s.2.2.2.1 s.2.2.2.2.1 s.2.2.2.2.2),(5,.int .u64 (8*(C.length+n):Nat))])
      (fun s H'=>ux H H' bt (C++l) s.1 s.2.1 pC s.2.2.1 uy td uU s.2.2.2.1 s.2.2.2.2.1 s.2.2.2.2.2/\(pC.length=0\/s.2.2.1=[])/\bu H' H.size (Array.replicate 32 (.int .u8 0)) 85) (fun s=>s.2.2.1.length) (q2,X2,GN,a1,n1,AF) ⟨rfl,rfl,rfl,aF⟩ ⟨oQ,rV,jK⟩ ?_
     rintro⟨q3,X3,si,a3,n3,rD⟩ H8 ⟨jR,tf,lD⟩;dsimp only at jR tf lD ⊢;have uc:=jR.len;have IG:=jR.oz;have kB:=aZ List.length jR.all;simp only[au]at kB;by_cases uw:64<=n3
     .have wY:pC=[]:=by
       rcases tf with h|h
       .exact bF h
       .rw[h]at uc;simp at uc;omega
      ((conv=>whnf);repeat(any_goals(first|((refine(NG (jD q3 h0 (ints X3)) si (by omega) _ bt jR.st a3 n3 rD uc jR.row (by omega)).mono ?_;rintro _ H9 ⟨rfl,Ci,q8⟩);(conv=>whnf))|((refine dk.nat 64 rfl (by omega) ?_);(conv=>whnf))|(refine Vc.cJ ?_;(conv=>whnf)))))
      refine⟨(q3+1,X3++si.take 64,si.drop 64,jM a3 rD 64 1,n3-64,rD-64),⟨rfl,rfl,rfl,aF⟩,⟨?_,?_,lD.but q8 (by have:=jR.new;omega)⟩,by show(si.drop 64).length<si.length;rw[aO];omega⟩
      .refine jR.step (F:=fun b=>b=bt) (fun b hb=>by omega) q8 (by rw[jR.all,wY];simp) (by rw[au,jR.blocks,aJ];omega) ?_ (jR.own.keep q8 fun p hp=>by have:=(jR.own.block p hp).1;omega) jR.Ei ?_ (by rw[aO,uc]) (by show n3-64<=rD-64;omega) ?_
       .rw[<-Se q3 X3 si jR.blocks (by omega)];exact Ci
       .have:=jR.row.drop rD 64 1 (fun e=>by rw[ik];omega);rw[bQ,JL]at this;exact this
       .intro cz p hp;have rP:si≠ []:=fun e=>cz (by rw[e];simp);unfold jM at hp;split at hp
        .exact jR.EV rP p hp
        .obtain⟨b,o,ha,hb,_⟩:=jR.row.at (by rw[ik];exact bY.2 rP);have:=jR.EV rP _ ha;subst ha;rw[fI,rA]at hp;cases hp;exact this
      .exact .inl (by rw[wY];rfl)
     ·((conv=>whnf);repeat(any_goals(first|(refine Vc.cJ ?_;(conv=>whnf)))))
      exact⟨(q3,X3,si,a3,n3,rD),⟨rfl,rfl,rfl,aF⟩,jR,by show si.length<64;omega,tf,lD⟩
    .rintro⟨q3,X3,si,a3,n3,rD⟩ H8 ⟨jR,jh,tf,lD⟩;dsimp only at jR jh tf lD ⊢;have uc:=jR.len;have lY:C++l=gw (ps.take (k+1)):=by rw[mf]
     by_cases h0:0<n3
     .have wY:pC=[]:=by
       rcases tf with h|h
       .exact bF h
       .rw[h]at uc;simp at uc;omega
      have sU:td=0:=by rw[<-Lj,wY];rfl
      ((conv=>whnf);repeat(any_goals(first|(refine Vc.cJ ?_;(conv=>whnf)))))
      refine cP.append (i:=Tryz.t5) (z:= .int .u8 0) rfl ⟨_,rfl,fun _ h=>by cases h⟩ rfl rfl rfl jR.own (Src.row jR.row (by rw[ik,uc];exact(bQ _).symm) (mj _)) (by unfold maxLen;omega) (by show(td+n3)*1<=_;omega) (by have:=jR.st.lt;omega) ?_;intro CV BZ H9 kv lz _;((conv=>whnf);repeat(any_goals(first|(refine Vc.cJ ?_;(conv=>whnf)))))
      have hF: ∀ b,(∃ p,uy=some p/\p.block=b)->bt+1<=b:=fun b ⟨p,hp,e⟩=>by have:=(jR.own.block p hp).1;omega
      refine⟨(k+1,q3,X3,pC++si,CV,td+n3,BZ),⟨rfl,rfl,?_,aF⟩,⟨by omega,by show(pC++si).length<64;rw[wY];simpa using jh,lD.keep lz (fun h=>by have:=hF _ h;have:=jR.new;omega),?_⟩,by show ps.length-(k+1)<ps.length-k;omega⟩
      .show Value.int _ _=Value.int _ _;rw[oG]
      .show ux H H9 bt (gw (ps.take (k+1))) q3 X3 (pC++si) [] CV (td+n3) BZ none 0 0;rw[<-lY];exact jR.step (F:=fun b=>bt+1<=b) (fun b hb=>by omega) (lz.mono hF) (by rw[jR.all];simp) jR.blocks (jR.st.keep lz fun h=>by have:=hF _ h;omega) (by rw[rh];exact kv) (by rw[au,uc,Lj]) (Row.nil _ _) rfl (aB _) (fun h=>absurd rfl h)
     .have ajJ:si=[]:=bF (by omega);((conv=>whnf);repeat(any_goals(first|(refine Vc.cJ ?_;(conv=>whnf)))))
      refine⟨(k+1,q3,X3,pC,uy,td,uU),⟨rfl,rfl,?_,aF⟩,⟨by omega,cT,lD,?_⟩,by show ps.length-(k+1)<ps.length-k;omega⟩
      .show Value.int _ _=Value.int _ _;rw[oG]
      .show ux H H8 bt (gw (ps.take (k+1))) q3 X3 pC [] uy td uU none 0 0;rw[<-lY];exact jR.step (F:=fun _=>False) (fun b hb=>hb.elim) (ax.refl _) (by rw[jR.all,ajJ]) jR.blocks jR.st jR.own Lj (Row.nil _ _) rfl (aB _) (fun h=>absurd rfl h)
 .obtain rfl:k=ps.length:=by omega
  rw[fB]at*
  have hC:=hM.all;have pK:=hM.Ei;have hXq:=hM.blocks;rw[dD]at hC;((conv=>whnf);repeat(any_goals(first|(refine Vc.cJ ?_;(conv=>whnf)))))
  refine aE.alloc rfl rfl ?_;intro H6 Mb oP cV;have yz:=hM.st.ext cV;have fS:=ij.ext cV;have Wp:=hM.own.row.ext cV;have ak5:=hM.st.lt;have La:=hM.new;have aiD:=hM.own.ext cV;have ajK:ax H H6:=hM.ext.trans cV;generalize hg:H5.size=g at*
  ((conv=>whnf);repeat(any_goals(first|(refine Vc.cJ ?_;(conv=>whnf)))))
  have ajL:bu H6 g (Array.replicate 128 (.int .u8 0)) 242:=oP;clear oP;refine cP.copy (i:=Tryz.t5) (k:=rn) (m:=rn) (cs:=cv rest) rfl rfl (fun w=>rfl) (by show rn=min rn 128;omega) (by rw[ik,pK];exact(bQ _).symm) (fun w hw=>C8 Wp (by rw[ik,pK];exact(bQ _).symm) w hw) (fun _=>rfl) ajL (by rw[ik];simp;omega) (mj _) ?_;intro H7 EO uj dq;((conv=>whnf);repeat(any_goals(first|((refine db.nat rn rfl (by omega) ?_);(conv=>whnf))|(refine Vc.cJ ?_;(conv=>whnf)))))
  refine dc.jB uj rfl rfl rfl (by rw[Dh];simp;omega) ?_;intro H8 L2 qC gx;have wu:=(yz.but dq (by omega)).but gx (by omega);have lD:=(fS.but dq (by omega)).but gx (by omega);have tM:ax H H8:=(ajK.but dq (by omega)).but gx (by omega);have Xj:bu H8 g (tab 128 (DY rest ((gw ps).length*8) (lX rest.length) 0)) 242:=by
   have:=ace rest ((gw ps).length*8) (lX rest.length) Xi;rw[pK]at this ⊢;rw[<-this];exact qC
  clear qC uj yz fS ij hM aiD Wp;have Cc:lX rest.length=64\/lX rest.length=128:=by unfold lX;split<;>omega
  ((conv=>whnf);repeat(any_goals(first|(refine Vc.AY ?_;(conv=>whnf)))))
  refine jO.cut (fun(_:Unit)=>[(11,.int .i64 (lX rest.length:Nat))]) (fun _ H'=>H'=H8) ?_ ?_
  .by_cases h9:rn+9 > 64
   .have:lX rest.length=128:=by unfold lX;rw[pK,av h9]
    rw[this];((conv=>whnf);repeat(any_goals(first|(refine Vc.cJ ?_;(conv=>whnf)))))
    exact⟨(),⟨rfl,aF⟩,rfl⟩
   .have:lX rest.length=64:=by unfold lX;rw[pK,ak h9]
    rw[this];((conv=>whnf);repeat(any_goals(first|(refine Vc.cJ ?_;(conv=>whnf)))))
    exact⟨(),⟨rfl,aF⟩,rfl⟩
  rintro _ _ rfl;generalize he:lX rest.length=e at*
  ((conv=>whnf);repeat(any_goals(first|(refine Vc.cJ ?_;(conv=>whnf)))))
  refine dt.intro (fun(j:Nat)=>[(80,.int .i64 j)]) (fun j H'=>j<=8/\bu H' g (tab 128 (DY rest ((gw ps).length*8) e j)) 242/\bu H' bt (kK (jD q h0 (ints X))) 240/\bu H' H.size (Array.replicate 32 (.int .u8 0)) 85/\ax H H') (fun j=>8-j) 0 ⟨rfl,aF⟩ ⟨by omega,Xj,wu,lD,tM⟩ ?_;intro j H9 ⟨hj,q8,Ci,ly,kA⟩;by_cases hj8:j<8
  ·((conv=>whnf);repeat(any_goals(first|((refine db.nat (e-8+j) (by omega) (by omega) ?_);(conv=>whnf))|((refine fm.AU ?_);(conv=>whnf))|(refine Vc.cJ ?_;(conv=>whnf)))))
   refine dc.jB q8 rfl rfl rfl (by rw[nX];omega) ?_;intro xg ak6 wv qp;((conv=>whnf);repeat(any_goals(first|(refine Vc.cJ ?_;(conv=>whnf)))))
   refine⟨j+1,⟨rfl,aF⟩,⟨by omega,?_,Ci.but qp (by omega),ly.but qp (by omega),kA.but qp (by omega)⟩,by omega⟩;rw[aQ]at wv;have e1:nA .u64 ((8*(gw ps).length:Nat):Int) (56-8*(j:Int)) % 256=((gw ps).length*8:Int) / 2 ^ (8*(7-j)) % 256:=by
    rw[Vn _ _ (by omega) (by omega),show(56-8*(j:Int)).toNat=8*(7-j)by omega,show((8*(gw ps).length:Nat):Int)=(gw ps).length*8 by omega]
   rw[afk _ _ _ _ _ e1]at wv;exact wv
  .obtain rfl:j=8:=by omega
   clear Xj wu lD tM;((conv=>whnf);repeat(any_goals(first|(refine Vc.cJ ?_;(conv=>whnf)))))
   refine dt.intro (fun(b:Nat)=>[(13,.int .i64 (64*b:Nat))]) (fun b H'=>64*b<=e/\bu H' g (tab 128 (DY rest ((gw ps).length*8) e 8)) 242/\bu H' bt (kK (jD b (jD q h0 (ints X)) (pB (ints rest) (gw ps).length))) 240/\bu H' H.size (Array.replicate 32 (.int .u8 0)) 85/\ax H H') (fun b=>128-64*b) 0 ⟨rfl,aF⟩ ⟨by omega,q8,Ci,ly,kA⟩ ?_;intro b xg ⟨hb,wv,KQ,PZ,qp⟩;by_cases uV:64*b<e
   .have hG: ∀ i,i<64->((List.range 64).map fun i=>r8 rest ((gw ps).length*8) e 8 (64*b+i)).getD i 0=r8 rest ((gw ps).length*8) e 8 (64*b+i):=fun i hi=>by
     simp[aT,hi]
    generalize hGl:((List.range 64).map fun i=>r8 rest ((gw ps).length*8) e 8 (64*b+i))=G at hG
    have hGn:G.length=64:=by rw[<-hGl];simp
    have aiE:Row xg (jM (some ⟨g,0,none⟩) 128 (64*b) 1) (cv G):=by
     unfold jM;rw[ak (by omega),fI,rA,aQ,bQ];refine agN wv _ _ fun j hj=> ?_;rw[ik,hGn]at hj;refine⟨by omega,?_⟩;rw[xu (by omega),hG j hj];rfl
    ((conv=>whnf);repeat(any_goals(first|((refine dk.nat (64*b+64) (by omega) (by omega) ?_);(conv=>whnf))|((refine dk.nat (64*b) (by omega) (by omega) ?_);(conv=>whnf))|((refine(NG _ G (by omega) _ bt KQ _ _ _ (by omega) aiE (by omega)).mono ?_;rintro _ Mc ⟨rfl,aiF,sN⟩);(conv=>whnf))|(refine Vc.cJ ?_;(conv=>whnf)))))
    refine⟨b+1,⟨?_,aF⟩,⟨by omega,wv.but sN (by omega),?_,PZ.but sN (by omega),qp.but sN La⟩,by omega⟩
    .show Value.int _ _=Value.int _ _;rw[show((64*b:Nat):Int)+64=(64*(b+1):Nat)by omega]
    .have:=aa7 rest (gw ps).length (by omega) (jD q h0 (ints X)) G b (by rw[he];exact hG) (by rw[he];omega);rw[this];exact aiF
   .have oM:b=e / 64:=by omega
    subst oM;clear q8 Ci ly kA;have KR:=afj X rest q hXq (by omega);rw[he,<-hC]at KR;rw[KR]at KQ;((conv=>whnf);repeat(any_goals(first|(refine Vc.cJ ?_;(conv=>whnf)))))
    refine aE.alloc rfl rfl ?_;intro Mc Xk Ej sN;((conv=>whnf);repeat(any_goals(first|(refine Vc.cJ ?_;(conv=>whnf)))))
    have akE:=KQ.lt;refine dt.intro (fun(i:Nat)=>[(107,.int .i64 i)]) (fun i H'=>i<=32/\bu H' xg.size (tab 32 (tQ (qo (ints (gw ps))) i)) 85/\bu H' bt (kK (qo (ints (gw ps)))) 240/\bu H' H.size (Array.replicate 32 (.int .u8 0)) 85/\ax H H') (fun i=>32-i) 0 ⟨rfl,aF⟩ ⟨by omega,by rw[TJ];exact Ej,KQ.ext sN,PZ.ext sN,qp.trans sN⟩ ?_;intro i Bc ⟨hi,uY,yf,Cj,nD⟩;by_cases ajM:i<32
    .have hv:=Vl (qo (ints (gw ps))) (i / 4) (by omega);((conv=>whnf);repeat(any_goals(first|((refine db.nat (i / 4) (by omega) (by omega) ?_);(conv=>whnf))|((refine db.nat i rfl (by omega) ?_);(conv=>whnf))|(((with_reducible apply aE.mC yf);rfl;(focus(exact hv)));(conv=>whnf))|((refine fm.AU ?_);(conv=>whnf))|(refine Vc.cJ ?_;(conv=>whnf)))))
     refine dc.jB (o:=0+i) uY rfl rfl rfl (by rw[nX];omega) ?_;intro Md Lk tR sO;((conv=>whnf);repeat(any_goals(first|(refine Vc.cJ ?_;(conv=>whnf)))))
     refine⟨i+1,⟨rfl,aF⟩,⟨by omega,?_,yf.but sO (by omega),Cj.but sO (by omega),nD.but sO (by omega)⟩,by omega⟩;have e1:nA .u32 (qo (ints (gw ps)) (i / 4)) (24-8*((i:Int) % 4)) % 256=qo (ints (gw ps)) (i / 4) / 2 ^ (24-8*(i % 4)) % 256:=by
      rw[show(24-8*((i:Int) % 4))=((24-8*(i % 4):Nat):Int)by omega,DH _ (by omega)]
     rw[aQ,e1,Ux]at tR;exact tR
    .obtain rfl:i=32:=by omega
     ((conv=>whnf);repeat(any_goals(first|(refine Vc.cJ ?_;(conv=>whnf)))))
     refine aE.rX uY rfl rfl (by rw[nX];rfl) ?_;((conv=>whnf);repeat(any_goals(first|(refine Vc.cJ ?_;(conv=>whnf)))))
     refine dc.pW Cj rfl (by rw[nX];rfl) (by rw[nX];rfl) (SN _ _) ?_;intro Md Lk tR sO;((conv=>whnf);repeat(any_goals(first|(refine Vc.cJ ?_;(conv=>whnf)))))
     refine aE.rX tR rfl rfl (by rw[nX];rfl) ?_;((conv=>whnf);repeat(any_goals(first|(refine Vc.cJ ?_;(conv=>whnf)))))
     refine⟨rfl,?_⟩
     (conv=>whnf)
     refine⟨?_,nD.but sO (by omega)⟩;rw[TK];rfl
end Go.Proofs.YtphkaogbcfdllaaGreatDoor
namespace Go.cM
open Go.eg Go.cN
open Go.Vc (ck fk kX jX lf jy ka)
end Go.cM
namespace Go.Proofs.YtphkaogbcfdllaaGreatDoor
open Go Go.Vc Go.cN Go.eg Go.cM
theorem j4.strs {F:Nat->Prop} {H H':ae} {a:Option Addr} {A:Tr} (h:j4 H a A) (k:cD F H H') (hF: ∀ b,F b-> ∀ o v,hcell H ⟨b,o,none⟩=some v->Wm v):j4 H' a A:=by
 obtain⟨vs,h1,h2⟩:=h.out;have key: ∀ {A:Tr} {vs:List Value},kg H A vs->kg H' A vs:=by
  intro A vs h;induction h with
  |nil=>exact .nil
  | @cons x A vs a cap hr _ ih=>
   refine .cons (hr.vY k fun cz p hp hf=> ?_) ih;obtain⟨b,o,ha,ct,hc⟩:=hr.at (bY.2 cz);rw[ha]at hp;cases hp;have hl:0<x.2.2.length:=by rw[<-ik];exact bY.2 cz
   exact hF _ hf _ _ (hc 0 _ (xu hl))
 refine⟨vs,h1.vY k fun cz p hp hf=> ?_,key h2⟩;obtain⟨b,o,ha,ct,hc⟩:=h1.at (bY.2 cz);rw[ha]at hp;cases hp;cases h2 with
 |nil=>exact cz rfl
 | @cons x A vs a cap hr _=>exact hF _ hf _ _ (hc 1 (.bool x.2.1) rfl)
theorem Gk.strs {F:Nat->Prop} {H H':ae} {b:Nat} {A:Tr} (h:Gk H b A) (k:cD F H H') (hb: ¬F b) (hF: ∀ b,F b-> ∀ o v,hcell H ⟨b,o,none⟩=some v->Wm v):Gk H' b A:=by
 obtain⟨a,cap,h1,h2⟩:=h.out;exact⟨a,cap,h1.keep k hb,h2.strs k hF⟩
end Go.Proofs.YtphkaogbcfdllaaGreatDoor
namespace Go.Proofs.YtphkaogbcfdllaaGreatDoor
open Go Go.Vc Go.cN Go.eg Go.cM Go.ej
end Go.Proofs.YtphkaogbcfdllaaGreatDoor
namespace Go.Proofs.YtphkaogbcfdllaaGreatDoor
open Go Go.Vc Go.uv
def Af (n:Int):List UInt8:=(len8 n).map fun x=>UInt8.ofNat (x % 256).toNat
theorem RQ (n:Int):(Af n).length=8:=rfl
theorem acf (n:Int): ∀ x∈len8 n,x % 256=x:=by
 intro x hx;simp only[len8,aM,List.not_mem_nil,or_false]at hx;rcases hx with h|h|h|h|h|h|h|h<;>(subst h;omega)
theorem adQ (n:Int):ints (Af n)=len8 n:=by
 unfold ints Af;rw[gV];conv=>rhs;rw[<-List.map_id (len8 n)]
 refine List.map_congr_left fun x hx=> ?_;show((UInt8.ofNat (x % 256).toNat).toNat:Int)=id x;rw[J7,acf n x hx];rfl
theorem acg (n:Int) (k:Nat) (h:k<8):(Af n).take k++[UInt8.ofNat (n / 2 ^ (8*(7-k)) % 256).toNat]=(Af n).take (k+1):=by
 rw[bX];congr 1;unfold Af;rw[dK,Vi n k h];simp only[fI,Option.toList_some];rw[Int.emod_emod_of_dvd _ (Int.dvd_refl 256)]
def tS (l:List UInt8):List UInt8:=l++[128]++List.replicate (zc l.length) 0++Af ((l.length:Int)*8)
theorem Uy (l:List UInt8):ints (tS l)=pad (ints l):=by
 unfold tS pad;rw[Fl,Fl,Fl,adQ,nL];congr 2;simp[ints]
theorem Sf (l:List UInt8):(tS l).length=l.length+1+zc l.length+8:=by simp[tS,RQ];omega
theorem cq.Kx {H:ae} {base:Nat} {e:TypeId} {size:Nat} {a:Option Addr} {n cap:Nat} {xs:List Value} (h:cq H base e size a n cap xs): ∀ b,(∃ p,a=some p/\p.block=b)->base<=b:=fun b ⟨p,hp,e⟩=>by have:=(h.block p hp).1;omega
set_option maxHeartbeats 400000 in
theorem agO (l:List UInt8) (a:Option Addr) (n cap:Nat) (H:ae) (hr:Row H a (cv l)) (hn:l.length=n) (hm:n<=70368744177664):
  az Tryz.prog 156 [.slice a n cap] H fun v H'=>(∃ a' cS,v= .slice a' (tS l).length cS/\cq H' H.size 5 1 a' (tS l).length cS (cv (tS l)))/\ax H H':=by
 refine Vc.az.body Tryz.func156 Tryz.call156 rfl (by decide+kernel) rfl ?_;((conv=>whnf);repeat(any_goals(first|(refine Vc.cJ ?_;(conv=>whnf)))))
 refine cP.append (i:=Tryz.t5) (z:= .int .u8 0) (base:=H.size) rfl ⟨_,rfl,fun _ h=>by cases h⟩ rfl rfl rfl (cq.nil _ _ _ _) (Src.row hr (by rw[ik,hn];exact(bQ _).symm) (mj _)) (by unfold maxLen;omega) (by show(0+n)*1<=_;omega) (aB _) ?_;intro a1 AF H1 fg CF _;((conv=>whnf);repeat(any_goals(first|(refine Vc.cJ ?_;(conv=>whnf)))))
 refine aE.lit (vs:=[_]) rfl rfl rfl rfl rfl rfl rfl ?_;intro H2 sr di bh;have cd:ax H H1:=⟨CF.size,fun b hb _=>CF.same b hb fun⟨p,hp,_⟩=>by cases hp⟩;have cT:Row H2 (some ⟨Array.size H1,0,none⟩) (cv [128]):=di.row;((conv=>whnf);repeat(any_goals(first|(refine Vc.cJ ?_;(conv=>whnf)))))
 refine cP.append (i:=Tryz.t5) (z:= .int .u8 0) rfl ⟨_,rfl,fun _ h=>by cases h⟩ rfl rfl rfl (fg.ext bh) (Src.row cT rfl (mj _)) (by unfold maxLen;omega) (by show(0+n+1)*1<=_;omega) (by have:=cd.size;omega) ?_;intro a3 rD H3 eI vp _;have bw:ax H H3:=cD.trans (cd.trans bh) vp fun b hb h=>by have:=cq.Kx fg b h;omega
 clear bh cT di;((conv=>whnf);repeat(any_goals(first|(refine Vc.cJ ?_;(conv=>whnf)))))
 have hz:=Wo n;refine dt.intro (fun(s:Nat×Option Addr×Nat)=>[(3,.slice s.2.1 (n+1+s.1) s.2.2)]) (fun s H'=>s.1<=zc n/\cq H' H.size 5 1 s.2.1 (n+1+s.1) s.2.2 (cv (l++[128]++List.replicate s.1 0))/\ax H H') (fun s=>zc n-s.1) (0,a3,rD) ⟨by show Value.slice _ _ _=Value.slice _ _ _;rw[show 0+n+1=n+1+0 by omega],aF⟩ ⟨by omega,?_,bw⟩ ?_
 .have h3:cq H3 H.size 5 1 a3 (0+n+1) rD ([]++cv l++cv [128]):=eI;rw[iD,<-rh]at h3;simpa using h3
 rintro⟨j,a4,ajN⟩ H4 ⟨hj,dE,cH⟩;dsimp only at hj dE cH ⊢;have hze:=VO n;by_cases ct:j<zc n
 .have LB:=aff n j ct;((conv=>whnf);repeat(any_goals(first|(refine Vc.cJ ?_;(conv=>whnf)))))
  refine aE.lit (vs:=[_]) rfl rfl rfl rfl rfl rfl rfl ?_;intro H5 qD im cE;have kR:Row H5 (some ⟨Array.size H4,0,none⟩) (cv [0]):=im.row;((conv=>whnf);repeat(any_goals(first|(refine Vc.cJ ?_;(conv=>whnf)))))
  refine cP.append (i:=Tryz.t5) (z:= .int .u8 0) rfl ⟨_,rfl,fun _ h=>by cases h⟩ rfl rfl rfl (dE.ext cE) (Src.row kR rfl (mj _)) (by unfold maxLen;omega) (by show(n+1+j+1)*1<=_;omega) (by have:=cH.size;omega) ?_;intro a6 ajO H6 ei j6 _;((conv=>whnf);repeat(any_goals(first|(refine Vc.cJ ?_;(conv=>whnf)))))
  refine⟨(j+1,a6,ajO),⟨rfl,aF⟩,⟨by omega,?_,cD.trans (cH.trans cE) j6 fun b hb h=>by have:=cq.Kx dE b h;omega⟩,by show zc n-(j+1)<zc n-j;omega⟩;have:=ei;rw[<-rh,bM,<-List.replicate_succ']at this;exact this
 .obtain rfl:j=zc n:=by omega
  clear eI vp bw;((conv=>whnf);repeat(any_goals(first|(refine Vc.cJ ?_;(conv=>whnf)))))
  refine dt.intro (fun(s:Nat×Option Addr×Nat)=>[(5,.int .i64 (7-s.1)),(3,.slice s.2.1 (n+1+zc n+s.1) s.2.2)]) (fun s H'=>s.1<=8/\cq H' H.size 5 1 s.2.1 (n+1+zc n+s.1) s.2.2 (cv (l++[128]++List.replicate (zc n) 0++(Af ((n:Int)*8)).take s.1))/\ax H H') (fun s=>8-s.1) (0,a4,ajN) ⟨rfl,rfl,aF⟩ ⟨by omega,by simpa using dE,cH⟩ ?_;rintro⟨k,a7,ajP⟩ H7 ⟨hk,iY,dq⟩;dsimp only at hk iY dq ⊢;by_cases uu:k<8
  ·((conv=>whnf);repeat(any_goals(first|((refine fm.AU ?_);(conv=>whnf))|(refine Vc.cJ ?_;(conv=>whnf)))))
   refine aE.lit (vs:=[_]) rfl rfl rfl rfl rfl rfl rfl ?_;intro H8 L2 qC gx;have e1:nA .u64 ((n:Int)*8) (8*(7-(k:Int))) % 256=((UInt8.ofNat (((n:Int)*8) / 2 ^ (8*(7-k)) % 256).toNat).toNat:Int):=by
    rw[J7,Vn _ _ (by omega) (by omega),show(8*(7-(k:Int))).toNat=8*(7-k)by omega]
   rw[e1]at qC;have CW:Row H8 (some ⟨Array.size H7,0,none⟩) (cv [UInt8.ofNat (((n:Int)*8) / 2 ^ (8*(7-k)) % 256).toNat]):=qC.row;((conv=>whnf);repeat(any_goals(first|(refine Vc.cJ ?_;(conv=>whnf)))))
   refine cP.append (i:=Tryz.t5) (z:= .int .u8 0) rfl ⟨_,rfl,fun _ h=>by cases h⟩ rfl rfl rfl (iY.ext gx) (Src.row CW rfl (mj _)) (by unfold maxLen;omega) (by show(n+1+zc n+k+1)*1<=_;omega) (by have:=dq.size;omega) ?_;intro a9 ajQ H9 kv lz _;((conv=>whnf);repeat(any_goals(first|(refine Vc.cJ ?_;(conv=>whnf)))))
   refine⟨(k+1,a9,ajQ),⟨?_,rfl,aF⟩,⟨by omega,?_,cD.trans (dq.trans gx) lz fun b hb h=>by have:=cq.Kx iY b h;omega⟩,by show 8-(k+1)<8-k;omega⟩
   .show Value.int _ _=Value.int _ _;rw[show(7:Int)-(k:Int)-1=7-((k+1:Nat):Int)by omega]
   .have:=kv;rw[<-rh,bM,acg _ _ uu]at this;exact this
  .obtain rfl:k=8:=by omega
   ((conv=>whnf);repeat(any_goals(first|(refine Vc.cJ ?_;(conv=>whnf)))))
   have ib:(tS l).length=n+1+zc n+8:=by rw[Sf,hn]
   refine⟨⟨a7,ajP,?_,?_⟩,dq⟩
   .rw[ib];rfl
   .rw[ib];have:=iY;rw[aL (by rw[RQ];omega)]at this;unfold tS;rw[hn];exact this
theorem afl (yS sw a7 a2:Int):(((yS+du .u32 .xor (du .u32 .xor (rr (7:Int).toNat sw) (rr (18:Int).toNat sw)) (nA .u32 sw 3)) % 4294967296+a7) % 4294967296+
  du .u32 .xor (du .u32 .xor (rr (17:Int).toNat a2) (rr (19:Int).toNat a2)) (nA .u32 a2 10)) % 4294967296=grow yS sw a7 a2:=Vk yS sw a7 a2
def ww (f:Nat->Int) (r x:Int):Int:=((((f 7+du .u32 .xor (du .u32 .xor (rr (6:Int).toNat (f 4)) (rr (11:Int).toNat (f 4))) (rr (25:Int).toNat (f 4))) % 4294967296+
   du .u32 .xor (du .u32 .and (f 4) (f 5)) (du .u32 .and (du .u32 .xor (if IntKind.u32.signed then-1 else IntKind.u32.max) (f 4)) (f 6))) % 4294967296+r) % 4294967296+x) % 4294967296
def P1 (f:Nat->Int):Int:=(du .u32 .xor (du .u32 .xor (rr (2:Int).toNat (f 0)) (rr (13:Int).toNat (f 0))) (rr (22:Int).toNat (f 0))+
    du .u32 .xor (du .u32 .xor (du .u32 .and (f 0) (f 1)) (du .u32 .and (f 0) (f 2))) (du .u32 .and (f 1) (f 2))) % 4294967296
theorem agP (f:Nat->Int) (r x:Int):(f 3+ww f r x) % 4294967296=nx f r x 4:=by
 have h:=Pl f r x;have h4:=aZ (fun a:Array Value=>a[4]?) h;rw[DM _ 4 (by omega)]at h4;have e:((s8 (sh f)).setIfInBounds 0 (.int .u32 (ww f r x))).setIfInBounds 4 (.int .u32 ((f 3+ww f r x) % 4294967296))=((s8 (sh f)).setIfInBounds 0 (.int .u32 (ww f r x))).setIfInBounds 4 (.int .u32 ((f 3+ww f r x) % 4294967296)):=rfl;have h5:some (Value.int .u32 ((f 3+ww f r x) % 4294967296))=some (Value.int .u32 (nx f r x 4)):=h4;injection h5 with h5
 injection h5
theorem agQ (f:Nat->Int) (r x:Int):(ww f r x+P1 f) % 4294967296=nx f r x 0:=by
 have h:=Pl f r x;have h4:=aZ (fun a:Array Value=>a[0]?) h;rw[DM _ 0 (by omega)]at h4;have h5:some (Value.int .u32 ((ww f r x+P1 f) % 4294967296))=some (Value.int .u32 (nx f r x 0)):=h4;injection h5 with h5
 injection h5
theorem agR (F x:Nat->Int):((((((((s8 F).setIfInBounds (0+0) (.int .u32 (x 0))).setIfInBounds (0+1) (.int .u32 (x 1))).setIfInBounds (0+2) (.int .u32 (x 2))).setIfInBounds (0+3) (.int .u32 (x 3))).setIfInBounds (0+4) (.int .u32 (x 4))).setIfInBounds (0+5) (.int .u32 (x 5))).setIfInBounds (0+6) (.int .u32 (x 6))).setIfInBounds (0+7) (.int .u32 (x 7))=s8 x:=by kernel_rfl
theorem agS (k:Nat) (h:k<64):w7[0+k]? =some (.int .u32 (rc k)):=by
 have:=VL h0 k h;unfold kK at this;rw[gP (show(s8 h0).size<=8+k by show 8<=_;omega)]at this;rw[aQ,<-this];congr 1;show k=8+k-8;omega
theorem agT {K:Value->ae->Prop} {e:Int} {H:ae} (h: ∀ x,e=x->K (.int .u32 x) H): ∀ v H',v= .int .u32 e/\H=H'->K v H':=by
 rintro _ _ ⟨rfl,rfl⟩;exact h e rfl
theorem ajR {e:Int} {K:Int->Prop} (h: ∀ x,e % 4294967296=x->K x):fm .u32 e K:=⟨h _ rfl⟩
set_option maxHeartbeats 2000000 in
theorem afm (l:List UInt8) (a:Option Addr) (n cap:Nat) (H:ae) (hr:Row H a (cv l)) (hn:l.length=n) (hm:n<=70368744177664):
  az Tryz.prog 93 [.slice a n cap] H fun v H'=>v= .agg (cv (ix l)).toArray/\ax H H':=by
 refine Vc.az.body Tryz.func93 Tryz.call93 rfl (by decide+kernel) rfl ?_;((conv=>whnf);repeat(any_goals(first|(refine Vc.cJ ?_;(conv=>whnf)))))
 refine aE.alloc rfl rfl ?_;intro H1 jr eC cd;((conv=>whnf);repeat(any_goals(first|(refine Vc.cJ ?_;(conv=>whnf)))))
 refine⟨⟨.agg b8,fun w=>by kernel_rfl,?_⟩⟩;((conv=>whnf);repeat(any_goals(first|(refine Vc.cJ ?_;(conv=>whnf)))))
 refine aE.alloc rfl rfl ?_;intro H2 sr di bh;have dT:=eC.ext bh;((conv=>whnf);repeat(any_goals(first|(refine Vc.cJ ?_;(conv=>whnf)))))
 refine dc.pW di rfl rfl rfl (by decide+kernel) ?_;intro H3 nG fR bw;have eJ:=dT.but bw (by omega);clear eC di dT;((conv=>whnf);repeat(any_goals(first|((refine(adL _).mono ?_;rintro _ H4 ⟨rfl,cH⟩);(conv=>whnf))|(refine Vc.cJ ?_;(conv=>whnf)))))
 refine aE.alloc rfl rfl ?_;intro H5 qD im cE;have ij:=(eJ.ext cH).ext cE;have Ef:=(fR.ext cH).ext cE;have ak7:=cH.size;((conv=>whnf);repeat(any_goals(first|(refine Vc.cJ ?_;(conv=>whnf)))))
 refine dc.pW im rfl rfl rfl (by decide+kernel) ?_;intro H6 Mb oP cV;have fS:=ij.but cV (by omega);have yz:=Ef.but cV (by omega);have kj:ax H H6:=((((cd.trans bh).but bw (by omega)).trans cH).trans cE).but cV (by omega);clear ij Ef eJ fR im;((conv=>whnf);repeat(any_goals(first|((refine(agO l a n cap _ (hr.ext kj) hn hm).mono ?_;rintro _ H7 ⟨⟨a',cS,rfl,iY⟩,dq⟩);(conv=>whnf))|(refine Vc.cJ ?_;(conv=>whnf)))))
 have ib:=Sf l;have hzl:=Wo l.length;have hpb:(tS l).length % 64=0:=by have:=VO l.length;omega
 have Eg:bu H7 H1.size (s8 (jD 0 h0 (ints (tS l)))) 235:=yz.ext dq;have jK:=fS.ext dq;have Me:=oP.ext dq;have Wq:=iY.row;have mq:ax H H7:=kj.trans dq;have ak8:=dq.size;generalize Mf:tS l=PL at*
 generalize cW:H1.size=st at*
 generalize CB:H4.size=tb at*
 have aky:H.size<st:=by omega
 have akz:st<tb:=by omega
 have aja:tb<H7.size:=by omega
 have yE: ∀ p,a'=some p->p.block≠st/\p.block≠tb/\p.block<H7.size:=fun p hp=>by have:=iY.block p hp;omega
 clear cd bh bw cH cE cV dq jr sr nG qD Mb yz fS oP kj;refine dt.intro (fun(b:Nat)=>[(6,.int .i64 (64*b:Nat))]) (fun b H'=>64*b<=PL.length/\bu H' H.size (Array.replicate 32 (.int .u8 0)) 84/\bu H' st (s8 (jD b h0 (ints PL))) 235/\bu H' tb w7 237/\Row H' a' (cv PL)/\ax H H'/\H7.size<=H'.size) (fun b=>PL.length-64*b) 0 ⟨rfl,aF⟩ ⟨by omega,jK,Eg,Me,Wq,mq,aB _⟩ ?_;intro b H8 ⟨hb,lD,wu,uu,CW,gx,ak9⟩;clear jK Eg Me Wq mq iY;by_cases ct:64*b<PL.length
 .as_aux_lemma=>
  have sq:64<=(PL.drop (64*b)).length:=by rw[aO];omega
  obtain⟨W,hW⟩: ∃ W,W=wd (fun i=>(ints (PL.drop (64*b))).getD i 0) 64:=⟨_,rfl⟩;obtain⟨rM,EB,Ma⟩:Words (fun i=>(ints (PL.drop (64*b))).getD i 0) W:=hW▸Ut _;generalize hF:jD b h0 (ints PL)=F at wu
  ((conv=>whnf);repeat(any_goals(first|(refine Vc.cJ ?_;(conv=>whnf)))))
  refine aE.alloc rfl rfl ?_;intro H9 hs9 q8 kA;have Xm:bu H9 H8.size (Vc.qM 64 (s9 W) z32 0) 237:=by rw[Vc.Sn];exact q8
  clear q8;have Ci:=wu.ext kA;have ly:=lD.ext kA;have EL:=uu.ext kA;have L8:=CW.ext kA;have ajS:=gx.trans kA;generalize hw:H8.size=wb at*
  ((conv=>whnf);repeat(any_goals(first|(refine Vc.cJ ?_;(conv=>whnf)))))
  refine dt.intro (fun(k:Nat)=>[(8,.int .i64 k)]) (fun k H'=>k<=16/\bu H' wb (Vc.qM 64 (s9 W) z32 k) 237/\fw wb H9 H') (fun k=>16-k) 0 ⟨rfl,aF⟩ ⟨by omega,Xm,cD.refl _ _⟩ ?_;intro k xg ⟨hk,wv,qp⟩;by_cases ajT:k<16
  .as_aux_lemma=>
   have ajU:=L8.keep qp fun p hp=>by have:=yE p hp;omega
   ((conv=>whnf);repeat(any_goals(first|((refine cm.bytes ajU rfl (by omega) (by omega) ?_;intro _ _ _ hc);(conv=>whnf))|(((with_reducible apply aE.load);rfl;(focus(exact hc)));(conv=>whnf))|((refine fm.Vw ?_);(conv=>whnf))|((refine db.nat k rfl (by omega) ?_);(conv=>whnf))|(refine Vc.cJ ?_;(conv=>whnf)))))
   refine dc.jB wv rfl rfl rfl (by rw[Vc.yZ];omega) ?_;intro Mc Xk Ej sN;((conv=>whnf);repeat(any_goals(first|(refine Vc.cJ ?_;(conv=>whnf)))))
   refine⟨k+1,⟨rfl,aF⟩,⟨by omega,?_,qp.trans sN fun _ _=>id⟩,by omega⟩;have e:du .u32 .or (du .u32 .or (du .u32 .or (rv .u32 (PL.getD (((64*b:Nat):Int)+4*(k:Int)).toNat 0).toNat 24) (rv .u32 (PL.getD (((64*b:Nat):Int)+4*(k:Int)+1).toNat 0).toNat 16)) (rv .u32 (PL.getD (((64*b:Nat):Int)+4*(k:Int)+2).toNat 0).toNat 8)) (PL.getD (((64*b:Nat):Int)+4*(k:Int)+3).toNat 0).toNat=W k:=by
    have hd: ∀ i,(PL.drop (64*b)).getD i 0=PL.getD (64*b+i) 0:=fun i=>by simp[aT]
    rw[(Dz _).1,(Dz _).2.1,(Dz _).2.2,rM k ajT];simp only[word,J6,Ko,hd];rw[show(((64*b:Nat):Int)+4*(k:Int)).toNat=64*b+4*k by omega,show(((64*b:Nat):Int)+4*(k:Int)+1).toNat=64*b+(4*k+1)by omega,show(((64*b:Nat):Int)+4*(k:Int)+2).toNat=64*b+(4*k+2)by omega,show(((64*b:Nat):Int)+4*(k:Int)+3).toNat=64*b+(4*k+3)by omega]
   rw[aQ,e]at Ej;rw[<-Vc.JN 64 (s9 W) z32 k (by omega)];exact Ej
  .as_aux_lemma=>
   obtain rfl:k=16:=by omega
   ((conv=>whnf);repeat(any_goals(first|(refine Vc.cJ ?_;(conv=>whnf)))))
   refine dt.intro (fun(k:Nat)=>[(9,.int .i64 k)]) (fun k H'=>16<=k/\k<=64/\bu H' wb (Vc.qM 64 (s9 W) z32 k) 237/\fw wb H9 H') (fun k=>64-k) 16 ⟨rfl,aF⟩ ⟨by omega,by omega,wv,qp⟩ ?_;intro k Bc ⟨qV,uf,uY,nD⟩;by_cases GO:k<64
   .as_aux_lemma=>
    have hc: ∀ j,j<k->(Vc.qM 64 (s9 W) z32 k)[0+j]? =some (.int .u32 (W j)):=fun j hj=>by rw[aQ,Vc.NV _ _ _ _ _ (by omega) hj];rfl
    ((conv=>whnf);repeat(any_goals(first|((refine fm.B5 ?_);(conv=>whnf))|((refine db.nat (k-15) (by omega) (by omega) ?_);(conv=>whnf))|((refine db.nat (k-2) (by omega) (by omega) ?_);(conv=>whnf))|((refine db.nat (k-16) (by omega) (by omega) ?_);(conv=>whnf))|((refine db.nat (k-7) (by omega) (by omega) ?_);(conv=>whnf))|((refine db.nat k rfl (by omega) ?_);(conv=>whnf))|(((with_reducible apply aE.mC uY);rfl;(focus(exact hc _ (by omega))));(conv=>whnf))|((refine(Uu _ _ (by omega) (by omega) _).mono ?_;rintro _ _ ⟨rfl,rfl⟩);(conv=>whnf))|(((with_reducible refine Vc.cy.held [0,1,2,3,4,5,7,10,11,14,15,16,17,19,21,24,25,6,8,9,12,13,18,20,22,23,26,27,28,29] [(6,[4,17]),(8,[4,17]),(20,[4,17]),(22,[4,17])] mixed (by decide+kernel) ?_));(conv=>whnf))|((refine kL.load rfl rfl rfl rfl rfl rfl (aE.mC uY rfl (hc _ (by omega)) rfl) ?_);(conv=>whnf))|(refine Vc.cJ ?_;(conv=>whnf)))))
    refine dc.jB uY rfl rfl rfl (by rw[Vc.yZ];omega) ?_;intro Md Lk tR sO;((conv=>whnf);repeat(any_goals(first|(refine Vc.cJ ?_;(conv=>whnf)))))
    refine⟨k+1,⟨rfl,aF⟩,⟨by omega,by omega,?_,nD.trans sO fun _ _=>id⟩,by omega⟩;rw[aQ,afl,<-EB k qV GO]at tR;rw[<-Vc.JN 64 (s9 W) z32 k (by omega)];exact tR
   .as_aux_lemma=>
    obtain rfl:k=64:=by omega
    clear wv qp Xm;have yf:=Ci.but nD (by omega);have Cj:=ly.but nD (by omega);have P2:=EL.but nD (by omega);have ajV:=L8.keep nD fun p hp=>by have:=yE p hp;omega
    have aiG:ax H Bc:=ajS.but nD (by omega);have akF:=nD.size;((conv=>whnf);repeat(any_goals(first|((refine db.nat _ rfl (by decide) ?_);(conv=>whnf))|(((with_reducible apply aE.mC yf);rfl;rfl);(conv=>whnf))|(refine Vc.cJ ?_;(conv=>whnf)))))
    refine dt.intro (fun(k:Nat)=>[(20,.int .i64 k),(12,.int .u32 (rounds F W k 0)),(13,.int .u32 (rounds F W k 1)),(14,.int .u32 (rounds F W k 2)),(15,.int .u32 (rounds F W k 3)),(16,.int .u32 (rounds F W k 4)),(17,.int .u32 (rounds F W k 5)),(18,.int .u32 (rounds F W k 6)),(19,.int .u32 (rounds F W k 7))])
     (fun k H'=>k<=64/\H'=Bc) (fun k=>64-k) 0 ⟨rfl,rfl,rfl,rfl,rfl,rfl,rfl,rfl,rfl,aF⟩ ⟨by omega,rfl⟩ ?_
    rintro k _ ⟨hk,rfl⟩;by_cases GO:k<64
    .as_aux_lemma=>
     have YO:=Wn k;have YP:=Ma k;have II:=TF 64 (s9 W) z32 64 k GO GO;have jL:=agS k GO;replace II:(qM 64 (s9 W) z32 64)[0+k]? =some (.int .u32 (W k)):=II;generalize pu:rc k=rk at jL YO
     generalize CJ:W k=wk at II YP
     generalize hR:rounds F W k=R
     ((conv=>whnf);repeat(any_goals(first|((with_reducible refine ajR ?_;intro x hx);(conv=>whnf))|((refine db.nat k rfl (by omega) ?_);(conv=>whnf))|((refine(Uu _ _ (by omega) (by omega) _).mono ?_;with_reducible refine agT ?_;intro x hx);(conv=>whnf))|(((with_reducible apply aE.mC uY);rfl;(focus(exact II)));(conv=>whnf))|(((with_reducible apply aE.mC P2);rfl;(focus(exact jL)));(conv=>whnf))|(((with_reducible refine Vc.cy.held [0,1,3,6,10,11,12,13,14,15,16,17,19,20,21,23,24,25,2,4,5,7,8,9,18,22,26,27] [(2,[21,25]),(4,[21,25]),(7,[21,25])] mixed (by decide+kernel) ?_));(conv=>whnf))|((refine kL.load rfl rfl rfl rfl rfl rfl (aE.mC P2 rfl jL rfl) ?_);(conv=>whnf))|((refine kL.load rfl rfl rfl rfl rfl rfl (aE.mC uY rfl II rfl) ?_);(conv=>whnf))|(refine Vc.cJ ?_;(conv=>whnf)))))
     rename_i y1 e1 y2 e2 y3 e3 y4 e4 y5 e5 y6 e6 y7 e7 y8 e8 y9 e9 y10 e10 y11 e11 y12 e12;have uq:rounds F W (k+1)=nx R rk wk:=by show nx (rounds F W k) (rc k) (W k)=_;rw[hR,pu,CJ]
     have q4:x=nx R rk wk 4:=by rw[<-agP];unfold ww;rw[e1,e2,e3,e4,e5,e6,e7,hx]
     have q0:y12=nx R rk wk 0:=by rw[<-agQ];unfold ww P1;rw[e1,e2,e3,e4,e5,e6,e7,e8,e9,e10,e11,e12]
     refine⟨k+1,?_,⟨by omega,rfl⟩,by omega⟩;dsimp only;rw[uq,<-q4,<-q0];exact⟨rfl,rfl,rfl,rfl,rfl,rfl,rfl,rfl,rfl,aF⟩
    .as_aux_lemma=>
     obtain rfl:k=64:=by omega
     generalize hR:rounds F W 64=R
     ((conv=>whnf);repeat(any_goals(first|((refine fm.B5 ?_);(conv=>whnf))|((refine db.nat _ rfl (by decide) ?_);(conv=>whnf))|(((with_reducible apply aE.mC yf);rfl;rfl);(conv=>whnf))|(refine Vc.cJ ?_;(conv=>whnf)))))
     refine dc.jB (o:=0+0) yf rfl rfl rfl (by show 0+0<8;omega) ?_;intro K1 jr qV EW;((conv=>whnf);repeat(any_goals(first|((refine db.nat _ rfl (by decide) ?_);(conv=>whnf))|(refine Vc.cJ ?_;(conv=>whnf)))))
     refine dc.jB (o:=0+1) qV rfl rfl rfl (by simp only[cZ];show 0+1<8;omega) ?_;intro K2 sr uf IJ;((conv=>whnf);repeat(any_goals(first|((refine db.nat _ rfl (by decide) ?_);(conv=>whnf))|(refine Vc.cJ ?_;(conv=>whnf)))))
     refine dc.jB (o:=0+2) uf rfl rfl rfl (by simp only[cZ];show 0+2<8;omega) ?_;intro K3 nG hk3 IK;((conv=>whnf);repeat(any_goals(first|((refine db.nat _ rfl (by decide) ?_);(conv=>whnf))|(refine Vc.cJ ?_;(conv=>whnf)))))
     refine dc.jB (o:=0+3) hk3 rfl rfl rfl (by simp only[cZ];show 0+3<8;omega) ?_;intro K4 rN YS EX;((conv=>whnf);repeat(any_goals(first|((refine fm.B5 ?_);(conv=>whnf))|((refine db.nat _ rfl (by decide) ?_);(conv=>whnf))|(((with_reducible apply aE.mC YS);rfl;rfl);(conv=>whnf))|(refine Vc.cJ ?_;(conv=>whnf)))))
     refine dc.jB (o:=0+4) YS rfl rfl rfl (by simp only[cZ];show 0+4<8;omega) ?_;intro K5 qD hk5 EY;((conv=>whnf);repeat(any_goals(first|((refine db.nat _ rfl (by decide) ?_);(conv=>whnf))|(refine Vc.cJ ?_;(conv=>whnf)))))
     refine dc.jB (o:=0+5) hk5 rfl rfl rfl (by simp only[cZ];show 0+5<8;omega) ?_;intro K6 Mb hk6 hy6;((conv=>whnf);repeat(any_goals(first|((refine db.nat _ rfl (by decide) ?_);(conv=>whnf))|(refine Vc.cJ ?_;(conv=>whnf)))))
     refine dc.jB (o:=0+6) hk6 rfl rfl rfl (by simp only[cZ];show 0+6<8;omega) ?_;intro K7 EO Me X9;((conv=>whnf);repeat(any_goals(first|((refine db.nat _ rfl (by decide) ?_);(conv=>whnf))|(refine Vc.cJ ?_;(conv=>whnf)))))
     refine dc.jB (o:=0+7) Me rfl rfl rfl (by simp only[cZ];show 0+7<8;omega) ?_;intro K8 L2 uu Ya;((conv=>whnf);repeat(any_goals(first|(refine Vc.cJ ?_;(conv=>whnf)))))
     rename_i Bc;have hy:fw st Bc K8:=(((((((EW.trans IJ fun _ _=>id).trans IK fun _ _=>id).trans EX fun _ _=>id).trans EY fun _ _=>id).trans hy6 fun _ _=>id).trans X9 fun _ _=>id).trans Ya fun _ _=>id);have hs:=hy.size;refine⟨b+1,⟨?_,aF⟩,⟨by omega,Cj.but hy (by omega),?_,P2.but hy (by omega),ajV.keep hy fun p hp=>(by have:=yE p hp;omega),aiG.but hy (by omega),by omega⟩,by omega⟩
     .show Value.int _ _=Value.int _ _;rw[show((64*b:Nat):Int)+64=(64*(b+1):Nat)by omega]
     .have e8:=agR F (PX F R);have lY:jD (b+1) h0 (ints PL)=PX F R:=by
       rw[MV,Og,hF,adO];unfold cL;rw[<-hW,hR]
      rw[lY,<-e8];exact uu
 .as_aux_lemma=>
  have oM:b=PL.length / 64:=by omega
  subst oM;have KR:jD (PL.length / 64) h0 (ints PL)=qo (ints l):=by
   unfold qo;rw[<-Mf,Uy,<-Uy,nL]
  rw[KR]at wu;have ala:=wu.lt;((conv=>whnf);repeat(any_goals(first|(refine Vc.cJ ?_;(conv=>whnf)))))
  refine aE.alloc rfl rfl ?_;intro Mc Xk Ej sN;((conv=>whnf);repeat(any_goals(first|(refine Vc.cJ ?_;(conv=>whnf)))))
  refine dt.intro (fun(i:Nat)=>[(24,.int .i64 i)]) (fun i H'=>i<=32/\bu H' H8.size (tab 32 (tQ (qo (ints l)) i)) 84/\bu H' st (s8 (qo (ints l))) 235/\bu H' H.size (Array.replicate 32 (.int .u8 0)) 84/\ax H H') (fun i=>32-i) 0 ⟨rfl,aF⟩ ⟨by omega,by rw[TJ];exact Ej,wu.ext sN,lD.ext sN,gx.trans sN⟩ ?_;intro i Bc ⟨hi,uY,yf,Cj,nD⟩;by_cases ajM:i<32
  .as_aux_lemma=>
   have hv:=Vm (qo (ints l)) (i / 4) (by omega);((conv=>whnf);repeat(any_goals(first|((refine db.nat (i / 4) (by omega) (by omega) ?_);(conv=>whnf))|((refine db.nat i rfl (by omega) ?_);(conv=>whnf))|(((with_reducible apply aE.mC yf);rfl;(focus(exact hv)));(conv=>whnf))|((refine fm.AU ?_);(conv=>whnf))|(refine Vc.cJ ?_;(conv=>whnf)))))
   refine dc.jB (o:=0+i) uY rfl rfl rfl (by rw[nX];omega) ?_;intro Md Lk tR sO;((conv=>whnf);repeat(any_goals(first|(refine Vc.cJ ?_;(conv=>whnf)))))
   refine⟨i+1,⟨rfl,aF⟩,⟨by omega,?_,yf.but sO (by omega),Cj.but sO (by omega),nD.but sO (by omega)⟩,by omega⟩;have e1:nA .u32 (qo (ints l) (i / 4)) (24-8*((i:Int) % 4)) % 256=qo (ints l) (i / 4) / 2 ^ (24-8*(i % 4)) % 256:=by
    rw[show(24-8*((i:Int) % 4))=((24-8*(i % 4):Nat):Int)by omega,DH _ (by omega)]
   rw[aQ,e1,Ux]at tR;exact tR
  .as_aux_lemma=>
   obtain rfl:i=32:=by omega
   ((conv=>whnf);repeat(any_goals(first|(refine Vc.cJ ?_;(conv=>whnf)))))
   refine aE.rX uY rfl rfl (by rw[nX];rfl) ?_;((conv=>whnf);repeat(any_goals(first|(refine Vc.cJ ?_;(conv=>whnf)))))
   refine dc.pW Cj rfl (by rw[nX];rfl) (by rw[nX];rfl) (SN _ _) ?_;intro Md Lk tR sO;((conv=>whnf);repeat(any_goals(first|(refine Vc.cJ ?_;(conv=>whnf)))))
   refine aE.rX tR rfl rfl (by rw[nX];rfl) ?_;((conv=>whnf);repeat(any_goals(first|(refine Vc.cJ ?_;(conv=>whnf)))))
   refine⟨rfl,?_⟩
   (conv=>whnf)
   refine⟨?_,nD.but sO (by omega)⟩;rw[TK];rfl
theorem Fz (ps:List Part) (pa:Option Addr) (pn PY:Nat) (H:ae) (hp:v8 H pa ps) (hn:ps.length=pn) (lO:pn<=140737488355328) (ajH:(gw ps).length<=70368744177664):
  az Tryz.prog 40 [.slice pa pn PY] H fun v H'=>v= .agg (cv (ix (gw ps))).toArray/\ax H H':=by
 refine Vc.az.body Tryz.func40 Tryz.call40 rfl (by decide+kernel) rfl ?_;((conv=>whnf);repeat(any_goals(first|(refine Vc.cJ ?_;(conv=>whnf)))))
 refine aE.alloc rfl rfl ?_;intro H1 jr eC cd;((conv=>whnf);repeat(any_goals(first|(refine Vc.cJ ?_;(conv=>whnf)))))
 refine dt.intro (fun(s:Nat×Option Addr×Nat)=>[(4,.int .i64 s.1),(3,.slice s.2.1 (gw (ps.take s.1)).length s.2.2)]) (fun s H'=>s.1<=ps.length/\cq H' (H.size+1) 5 1 s.2.1 (gw (ps.take s.1)).length s.2.2 (cv (gw (ps.take s.1)))/\bu H' H.size (Array.replicate 32 (.int .u8 0)) 85/\ax H H') (fun s=>ps.length-s.1) (0,none,0) ⟨rfl,rfl,aF⟩ ⟨aI _,cq.nil _ _ _ _,eC,cd⟩ ?_;rintro⟨k,a1,AF⟩ H2 ⟨hk,dy,dT,bh⟩;dsimp only at hk dy dT bh ⊢;by_cases ct:k<ps.length
 .have hP:=hp.each ps[k] (List.getElem_mem ct);have rQ:=hp.ext bh;have mf:=TI ps k ct;have wT:=RP ps (k+1);have hlen:(gw (ps.take (k+1))).length=(gw (ps.take k)).length+ps[k].l.length:=by rw[mf,au]
  have YT:=(hP.ext bh).row;have w8:=hP.len;generalize Q8:ps[k]=p at*
  obtain⟨a,n,cap,l⟩:=p;dsimp only at w8 YT hlen mf;((conv=>whnf);repeat(any_goals(first|((refine cm.part rQ hn k rfl ct ?_;intro _ _ _ hc;rw[Q8]at hc;replace hc:hcell _ _=some (.slice a n cap):=hc);(conv=>whnf))|(((with_reducible apply aE.load);rfl;(focus(exact hc)));(conv=>whnf))|(refine Vc.cJ ?_;(conv=>whnf)))))
  refine cP.append (i:=Tryz.t5) (z:= .int .u8 0) rfl ⟨_,rfl,fun _ h=>by cases h⟩ rfl rfl rfl dy (Src.row YT (by rw[ik,w8];exact(bQ _).symm) (mj _)) (by unfold maxLen;omega) (by show((gw (ps.take k)).length+n)*1<=_;omega) (by have:=dT.lt;omega) ?_;intro a3 rD H3 eI vp _;((conv=>whnf);repeat(any_goals(first|(refine Vc.cJ ?_;(conv=>whnf)))))
  have hF:=cq.Kx dy;refine⟨(k+1,a3,rD),⟨rfl,?_,aF⟩,⟨by omega,?_,dT.keep vp fun h=>(by have:=hF _ h;omega),cD.trans bh vp fun b hb h=>(by have:=hF b h;omega)⟩,by show ps.length-(k+1)<ps.length-k;omega⟩
  .show Value.slice _ _ _=Value.slice _ _ _;rw[hlen,<-w8]
  .show cq H3 _ _ 1 a3 (gw (ps.take (k+1))).length rD (cv (gw (ps.take (k+1))));rw[hlen,mf,rh,w8];exact eI
 .obtain rfl:k=ps.length:=by omega
  rw[fB]at*
  ((conv=>whnf);repeat(any_goals(first|((refine(afm (gw ps) a1 _ AF _ dy.row rfl (by omega)).mono ?_;rintro _ H3 ⟨rfl,bw⟩);(conv=>whnf))|(refine Vc.cJ ?_;(conv=>whnf)))))
  refine dc.pW (dT.ext bw) rfl (by simp[cv,vG];rfl) (by simp[cv,vG]) (by simpa using mj _) ?_;intro H4 rN iX cH;((conv=>whnf);repeat(any_goals(first|(refine Vc.cJ ?_;(conv=>whnf)))))
  refine aE.rX iX rfl rfl (by simp[cv,vG];rfl) ?_;((conv=>whnf);repeat(any_goals(first|(refine Vc.cJ ?_;(conv=>whnf)))))
  refine⟨rfl,?_⟩
  (conv=>whnf)
  exact⟨rfl,(bh.trans bw).but cH (aB _)⟩
theorem adR (H:ae) (a:Option Addr):v8 H a []:=⟨Row.nil _ _,fun p hp=>by cases hp⟩
theorem ahP {H:ae} {g:Nat} {e:TypeId} {p:Part} (hb:bu H g #[p.val] e) (hp:BN H p):v8 H (some ⟨g,0,none⟩) [p]:=
 ⟨bu.row (c:=[p.val]) hb,fun q hq=>by rw[aW.1 hq];exact hp⟩
theorem afn (p:Part):gw [p]=p.l:=by simp[gw]
end Go.Proofs.YtphkaogbcfdllaaGreatDoor
namespace Go.Proofs.YtphkaogbcfdllaaGreatDoor
open Go Go.Vc Go.cN Go.eg Go.cM Go.ej Go.uv
theorem FM {H:ae} {g n cap:Nat} {a:Option Addr} {b:Bs} {t:TypeId} (hb:bu H g #[.slice a n cap] t) (hr:Row H a (cv b)) (hn:b.length=n) (hc:n<=cap):v8 H (some ⟨g,0,none⟩) [⟨a,n,cap,b⟩]:=by
 refine⟨bu.row (c:=[.slice a n cap]) hb,fun p hp=> ?_⟩;rw[aW.1 hp];exact⟨hn,hc,hr⟩
theorem tu (p:Part):gw [p]=p.l:=by unfold gw;simp
end Go.Proofs.YtphkaogbcfdllaaGreatDoor
namespace Go.Proofs.YtphkaogbcfdllaaGreatDoor
open Go Go.Vc Go.RowKit Go.Extern Go.Extern.Stop Go.Stop
abbrev hT (t:Nat):Value:= .pointer (some ⟨7,t,none⟩)
abbrev lU (t:Nat):Value:= .iface 318 (.agg #[hT t])
theorem aE.sP {P:Program} {H:ae} {s:Sem Value} {v:Value} {K:Value->ae->Prop} (h: ∀ w:World,w.heap=H->s.run P w= .ok v w) (hk:K v H):aE P s H K:=⟨fun w hw=>⟨v,w,h w hw,dC.refl w,hw▸hk⟩⟩
theorem YU (z:Sem Value) (f:TypeId->Addr->Nat->Nat->Sem Value) (v:Value):
  ReflectliteValue.method z f #[v]=(do match <-ReflectliteValue.parts v with|none=>z|some (t,a,fl)=>f t a fl (fl % 32)):=rfl
theorem rls (v x:Value):ReflectliteValue.set #[v,x]=(do
  let (some (dst,a,fl),some (src,b,_)):=(<-ReflectliteValue.parts v,<-ReflectliteValue.parts x)
   |unsupported (.noEntry "extern/(internal/reflectlite.Value).Set.zeroValue")
  if fl / ReflectliteValue.flagAddr % 2==0 then unsupported (.noEntry "extern/(internal/reflectlite.Value).Set.unaddressable")
  let val <-loadVar src b
  if <-Rtype.directlyAssignable dst src then storeVar dst a val
  else if <-Rtype.implements dst src then
   if(<-Rtype.kind src)==20 then
    match val with
    | .nilIface=>unsupported (.noEntry "extern/reflectlite: a nil value of one interface type handed on as a value of another")
    |_=>storeVar dst a val
   else storeVar dst a (.iface src val)
  else panicString ("reflectlite.Set: value of type " ++(<-Rtype.spelt src)++ " is not assignable to type " ++(<-Rtype.spelt dst))
  pure (.tuple #[])):=rfl
theorem adS (t:Addr) (H:ae):az Tryz.prog 178 [.iface 219 (.pointer (some t))] H fun v H'=>v= .agg #[hT 219,.pointer (some ⟨H.size,0,none⟩),.int .u64 150]/\bu H' H.size #[.pointer (some t)] 219/\H'.size=H.size+1/\ax H H':=by
 refine az.extern Tryz.func178 (by kernel_rfl) (by kernel_rfl) (by kernel_rfl) (by kernel_rfl) (e:=(fun args=>ReflectliteValue.unpack (args.getD 0 (.tuple #[])))) ⟨fun w hw=> ?_⟩;have h:(ReflectliteValue.unpack (.iface 219 (.pointer (some t)))).run Tryz.prog w= .ok (.agg #[hT 219,.pointer (some ⟨w.heap.size,0,none⟩),.int .u64 150]) (w.alloc (.cells #[.pointer (some t)] 219)):=by kernel_rfl
 exact⟨_,_,h,⟨rfl,rfl,rfl⟩,by rw[hw],hw▸bu.new (rj _ _),by rw[<-hw];simp,hw▸cD.push _ _ _⟩
theorem agU (a:Addr) (H:ae):az Tryz.prog 179 [.agg #[hT 219,.pointer (some a),.int .u64 150]] H fun v H'=>v=lU 219/\H=H':=by
 refine az.extern Tryz.func179 (by kernel_rfl) (by kernel_rfl) (by kernel_rfl) (by kernel_rfl) (e:=ReflectliteValue.methodAny (ReflectliteValue.valueError "reflectlite.Value.Type" 0) (fun t _ _ _=>ReflectliteType.toType t)) (aE.sP (v:=lU 219) (fun w _=>by kernel_rfl) ⟨rfl,rfl⟩)
theorem ahQ (H:ae) {K:Value->ae->Prop} (hk:K (.int .u8 22) H):cP Tryz.prog (callMethod (lU 219) "Kind" #[]) H K:=by
 refine cP.method (f:=307) (args:=[hT 219]) (fun w=>by kernel_rfl) ?_;refine az.extern Tryz.func307 (by kernel_rfl) (by kernel_rfl) (by kernel_rfl) (by kernel_rfl) (e:=ReflectliteType.abiMethod fun t=>do pure (.int .u8 (<-Rtype.kind t))) (aE.sP (v:= .int .u8 22) (fun w _=>by kernel_rfl) hk)
theorem agV (H:ae) {K:Value->ae->Prop} (hk:K (.int .u8 2) H):cP Tryz.prog (callMethod (lU 34) "Kind" #[]) H K:=by
 refine cP.method (f:=307) (args:=[hT 34]) (fun w=>by kernel_rfl) ?_;refine az.extern Tryz.func307 (by kernel_rfl) (by kernel_rfl) (by kernel_rfl) (by kernel_rfl) (e:=ReflectliteType.abiMethod fun t=>do pure (.int .u8 (<-Rtype.kind t))) (aE.sP (v:= .int .u8 2) (fun w _=>by kernel_rfl) hk)
theorem agW (H:ae) {K:Value->ae->Prop} (hk:K (lU 34) H):cP Tryz.prog (callMethod (lU 219) "Elem" #[]) H K:=by
 refine cP.method (f:=321) (args:=[.agg #[hT 219]]) (fun w=>by kernel_rfl) ?_;refine az.extern Tryz.func321 (by kernel_rfl) (by kernel_rfl) (by kernel_rfl) (by kernel_rfl) (e:=ReflectliteType.method ReflectliteType.elem) (aE.sP (v:=lU 34) (fun w _=>by kernel_rfl) hk)
theorem aaI (H:ae) {K:Value->ae->Prop} (hk:K (.bool true) H):cP Tryz.prog (callMethod (lU 34) "Implements" #[lU 30]) H K:=by
 refine cP.method (f:=322) (args:=[.agg #[hT 34],lU 30]) (fun w=>by kernel_rfl) ?_;refine az.extern Tryz.func322 (by kernel_rfl) (by kernel_rfl) (by kernel_rfl) (by kernel_rfl) (e:=ReflectliteType.relation "Implements" ReflectliteType.implements_) (aE.sP (v:= .bool true) (fun w _=>by kernel_rfl) hk)
theorem Uz (a:Addr) (w:World):(ReflectliteValue.parts (.agg #[hT 219,.pointer (some a),.int .u64 150])).run Tryz.prog w= .ok (some (219,a,150)) w:=by kernel_rfl
theorem agX (a p:Addr) (H:ae) (ha:hcell H a=some (.pointer (some p))):az Tryz.prog 180 [.agg #[hT 219,.pointer (some a),.int .u64 150]] H fun v H'=>v= .bool false/\H=H':=by
 refine az.extern Tryz.func180 (by kernel_rfl) (by kernel_rfl) (by kernel_rfl) (by kernel_rfl) (e:=ReflectliteValue.method (ReflectliteValue.valueError "reflectlite.Value.IsNil" 0) ReflectliteValue.isNil) (aE.sP (v:= .bool false) (fun w hw=> ?_) ⟨rfl,rfl⟩);have ha:w.cell? a=some (.pointer (some p)):=by rw[vJ,hw];exact ha
 show(ReflectliteValue.method _ ReflectliteValue.isNil #[_]).run _ _=_;rw[YU];simp only[Sem.run_bind,Uz,Result.andThen];simp[ReflectliteValue.isNil,loadVar,isAgg,underlying,Tryz.underlying136,ha,Result.andThen]
theorem afo (w:World):(Rtype.elem? 219).run Tryz.prog w= .ok (some 34) w:=by kernel_rfl
theorem aiH (p:Addr) (w:World):(ReflectliteValue.mk 34 p ReflectliteValue.flagAddr).run Tryz.prog w= .ok (.agg #[hT 34,.pointer (some p),.int .u64 386]) w:=by kernel_rfl
theorem Vo (a p:Addr) (H:ae) (ha:hcell H a=some (.pointer (some p))):az Tryz.prog 220 [.agg #[hT 219,.pointer (some a),.int .u64 150]] H fun v H'=>v= .agg #[hT 34,.pointer (some p),.int .u64 386]/\H=H':=by
 refine az.extern Tryz.func220 (by kernel_rfl) (by kernel_rfl) (by kernel_rfl) (by kernel_rfl) (e:=ReflectliteValue.method (ReflectliteValue.valueError "reflectlite.Value.Elem" 0) ReflectliteValue.elem) (aE.sP (fun w hw=> ?_) ⟨rfl,rfl⟩);have ha:w.cell? a=some (.pointer (some p)):=by rw[vJ,hw];exact ha
 show(ReflectliteValue.method _ ReflectliteValue.elem #[_]).run _ _=_;rw[YU];simp only[Sem.run_bind,Uz,Result.andThen];simp[ReflectliteValue.elem,loadVar,isAgg,underlying,Tryz.underlying136,ha,Result.andThen,afo,aiH]
theorem UA (n:Int) (H:ae):az Tryz.prog 219 [.iface 34 (.int .i64 n)] H fun v H'=>v=lU 34/\H=H':=by
 refine az.extern Tryz.func219 (by kernel_rfl) (by kernel_rfl) (by kernel_rfl) (by kernel_rfl) (e:=ReflectliteType.typeOf) (aE.sP (v:=lU 34) (fun w _=>by kernel_rfl) ⟨rfl,rfl⟩)
theorem SO (n:Int) (H:ae):az Tryz.prog 178 [.iface 34 (.int .i64 n)] H fun v H'=>v= .agg #[hT 34,.pointer (some ⟨H.size,0,none⟩),.int .u64 130]/\bu H' H.size #[.int .i64 n] 34/\H'.size=H.size+1/\ax H H':=by
 refine az.extern Tryz.func178 (by kernel_rfl) (by kernel_rfl) (by kernel_rfl) (by kernel_rfl) (e:=(fun args=>ReflectliteValue.unpack (args.getD 0 (.tuple #[])))) ⟨fun w hw=> ?_⟩;have h:(ReflectliteValue.unpack (.iface 34 (.int .i64 n))).run Tryz.prog w= .ok (.agg #[hT 34,.pointer (some ⟨w.heap.size,0,none⟩),.int .u64 130]) (w.alloc (.cells #[.int .i64 n] 34)):=by kernel_rfl
 exact⟨_,_,h,⟨rfl,rfl,rfl⟩,by rw[hw],hw▸bu.new (rj _ _),by rw[<-hw];simp,hw▸cD.push _ _ _⟩
theorem afp (a:Addr) (w:World):(ReflectliteValue.parts (.agg #[hT 34,.pointer (some a),.int .u64 386])).run Tryz.prog w= .ok (some (34,a,386)) w:=by kernel_rfl
theorem afq (a:Addr) (w:World):(ReflectliteValue.parts (.agg #[hT 34,.pointer (some a),.int .u64 130])).run Tryz.prog w= .ok (some (34,a,130)) w:=by kernel_rfl
theorem afr (w:World):(Rtype.directlyAssignable 34 34).run Tryz.prog w= .ok true w:=by kernel_rfl
theorem Ws (n:Int) (tb:Nat) (b:Addr) (old:Value) (H:ae) (hb:hcell H b=some (.int .i64 n)) (ht:bu H tb #[old] 34):az Tryz.prog 221 [.agg #[hT 34,.pointer (some ⟨tb,0,none⟩),.int .u64 386],.agg #[hT 34,.pointer (some b),.int .u64 130]] H fun v H'=>v= .tuple #[]/\H'.size=H.size/\bu H' tb #[.int .i64 n] 34/\fw tb H H':=by
 refine az.extern Tryz.func221 (by kernel_rfl) (by kernel_rfl) (by kernel_rfl) (by kernel_rfl) (e:=ReflectliteValue.set) ⟨fun w hw=> ?_⟩;have hb:w.cell? b=some (.int .i64 n):=by rw[vJ,hw];exact hb
 have ht:bu w.heap tb #[old] 34:=by rw[hw];exact ht
 obtain⟨fr,h1,h2⟩:=ht.out;have hc:w.cell? ⟨tb,0,none⟩=some old:=by simp[World.cell?,h1]
 have hf:w.frozen? ⟨tb,0,none⟩=false:=by
  simp only[World.frozen?,h1];rcases h2 with h2|h2
  .cases fr;simp at h2 ⊢;intro;omega
  .cases fr;simp at h2 ⊢;intro;omega
 have tK:(ReflectliteValue.set #[.agg #[hT 34,.pointer (some ⟨tb,0,none⟩),.int .u64 386],.agg #[hT 34,.pointer (some b),.int .u64 130]]).run Tryz.prog w= .ok (.tuple #[]) (w.setCell ⟨tb,0,none⟩ (.int .i64 n)):=by
  rw[rls];simp only[Sem.run_bind,afp,afq,Result.andThen];simp[ReflectliteValue.flagAddr,loadVar,isAgg,underlying,Tryz.underlying25,hb,Result.andThen,afr,storeVar,Value.cells,storeCells,Addr.add];rw[run_store Tryz.prog w ⟨tb,0,none⟩ _ _ (by rfl)];simp[hc,hf]
 obtain⟨k1,k2,k3⟩:=aaT (i:=0) (v:= .int .i64 n) ht;exact⟨_,_,tK,k3,rfl,by rw[OV h1];simp[hw],k1,hw▸k2⟩
theorem UB (p:Option Addr) (H:ae):az Tryz.prog 219 [.iface 208 (.pointer p)] H fun v H'=>v=lU 208/\H=H':=by
 refine az.extern Tryz.func219 (by kernel_rfl) (by kernel_rfl) (by kernel_rfl) (by kernel_rfl) (e:=ReflectliteType.typeOf) (aE.sP (v:=lU 208) (fun w _=>by kernel_rfl) ⟨rfl,rfl⟩)
theorem TL (H:ae) {K:Value->ae->Prop} (hk:K (.bool true) H):cP Tryz.prog (callMethod (lU 34) "AssignableTo" #[lU 34]) H K:=by
 refine cP.method (f:=319) (args:=[.agg #[hT 34],lU 34]) (fun w=>by kernel_rfl) ?_;refine az.extern Tryz.func319 (by kernel_rfl) (by kernel_rfl) (by kernel_rfl) (by kernel_rfl) (e:=ReflectliteType.relation "AssignableTo" ReflectliteType.assignableTo) (aE.sP (v:= .bool true) (fun w _=>by kernel_rfl) hk)
theorem TM (H:ae) {K:Value->ae->Prop} (hk:K (.bool false) H):cP Tryz.prog (callMethod (lU 208) "AssignableTo" #[lU 34]) H K:=by
 refine cP.method (f:=319) (args:=[.agg #[hT 208],lU 34]) (fun w=>by kernel_rfl) ?_;refine az.extern Tryz.func319 (by kernel_rfl) (by kernel_rfl) (by kernel_rfl) (by kernel_rfl) (e:=ReflectliteType.relation "AssignableTo" ReflectliteType.assignableTo) (aE.sP (v:= .bool false) (fun w _=>by kernel_rfl) hk)
theorem adT (H:ae) {K:Value->ae->Prop} (hk:K (.bool false) H):cP Tryz.prog (callMethod (lU 220) "AssignableTo" #[lU 34]) H K:=by
 refine cP.method (f:=319) (args:=[.agg #[hT 220],lU 34]) (fun w=>by kernel_rfl) ?_;refine az.extern Tryz.func319 (by kernel_rfl) (by kernel_rfl) (by kernel_rfl) (by kernel_rfl) (e:=ReflectliteType.relation "AssignableTo" ReflectliteType.assignableTo) (aE.sP (v:= .bool false) (fun w _=>by kernel_rfl) hk)
theorem afs (p:Option Addr) (H:ae):az Tryz.prog 219 [.iface 220 (.pointer p)] H fun v H'=>v=lU 220/\H=H':=by
 refine az.extern Tryz.func219 (by kernel_rfl) (by kernel_rfl) (by kernel_rfl) (by kernel_rfl) (e:=ReflectliteType.typeOf) (aE.sP (v:=lU 220) (fun w _=>by kernel_rfl) ⟨rfl,rfl⟩)
end Go.Proofs.YtphkaogbcfdllaaGreatDoor
namespace Go.Proofs.YtphkaogbcfdllaaGreatDoor
open Go Go.Vc Go.RowKit Go.Sort
theorem Sg {H:ae} {g:Nat} {op nm:ByteArray} {v:Value} (hb:bu H g #[.string op,.string nm,v] 210):az Tryz.prog 311 [.pointer (some ⟨g,0,none⟩)] H fun u H'=>u=v/\H=H':=by
 refine Vc.az.body Tryz.func311 Tryz.call311 rfl (by decide+kernel) rfl ?_;((conv=>whnf);repeat(any_goals((first|refine Vc.aq ?_|refine Vc.bz ?_ ?_)<;>(intros;(conv=>whnf)))))
 exact⟨rfl,rfl⟩
theorem J8 {H:ae} {ws:lK} {n:Int} {v:Value} (h:re H ws (Ed n) v):jt v=true/\ ∃ t x,v= .iface t x:=by
 cases ws with
 |nil=>have h:v=_:=h;subst h;exact⟨rfl,_,_,rfl⟩
 |cons x ws=>obtain⟨g,v',rfl,_⟩:=h;exact⟨rfl,_,_,rfl⟩
theorem ach {H:ae} {a:Option Addr} {n cap:Nat} {vs:List Value} (hr:Row H a vs) (hn:vs.length=n) (h0:0<n) (hm:n<=1000) (hp: ∀ v∈vs,jt v=true):az Tryz.prog 313 [.slice a n cap] H fun u H'=>(∃ a' cS,u= .slice a' n cS/\Row H' a' vs)/\ax H H':=by
 obtain⟨b,o,ha,_⟩:=hr.at (by omega);refine Vc.az.body Tryz.func313 Tryz.call313 rfl (by decide+kernel) rfl ?_;subst ha;((conv=>whnf);repeat(any_goals((first|(refine eN.neg rfl ?_)|((with_reducible apply aE.lit (vs:=[]));rfl;rfl;rfl;rfl;rfl;rfl;rfl;(intro _ _ _ _;(conv=>whnf)))|refine Vc.aq ?_)<;>(intros;(conv=>whnf)))))
 rename_i H1 jr eC cd;have fg:cq H1 H.size 30 1 (some ⟨H.size,0,none⟩) 0 0 []:=Kf (xs:=[]) eC (aB _) rfl (aI _);refine cP.append (i:=Tryz.t30) (z:= .nilIface) (base:=H.size) rfl ⟨_,rfl,fun _ h=>by cases h⟩ rfl rfl rfl fg (Src.row (hr.ext cd) (by rw[hn];exact(bQ n).symm) hp) (by unfold maxLen;omega) (by show(0+n)*16<=_;omega) cd.size ?_;intro a2 c2 H2 dy pO _;((conv=>whnf);repeat(any_goals((first|refine Vc.aq ?_)<;>(intros;(conv=>whnf)))))
 refine⟨⟨a2,c2,by rw[aQ];rfl,?_⟩,cd.wr fg (aB _) pO⟩;have:=dy.row;rwa[iD]at this
theorem cm.val {H:ae} {a:Option Addr} {vs:List Value} {n:Nat} {i:Int} {K:Addr->Prop} (h:Row H a vs) (hn:vs.length=n) (j:Nat) (v:Value) (hi:i=j) (hv:vs[j]? =some v)
  (hk: ∀ b o,hcell H ⟨b,o+j,none⟩=some v->K ⟨b,o+j,none⟩):cm a n 1 i K:=by
 have hj:=(aH.1 hv).1;refine(Go.Vc.cm.row (size:=1) h (by rw[hn,bQ]) (by decide) j hi (by omega) fun b o h1 h2 h3=> ?_);have h3:=h3 0 v (by rw[bQ,Nat.add_zero];exact hv);rw[bQ];rw[bQ]at h3;exact hk b o (by simpa using h3)
theorem aa8 {H:ae} {g:Nat} {a:Option Addr} {n cap:Nat} {vs:List Value} (hb:bu H g #[.slice a n cap] 223) (hr:Row H a vs) (hn:vs.length=n) (h0:0<n) (hm:n<=1000) (hp: ∀ v∈vs,jt v=true):az Tryz.prog 312 [.pointer (some ⟨g,0,none⟩)] H fun u H'=>(∃ a' cS,u= .slice a' n cS/\Row H' a' vs)/\ax H H':=by
 refine Vc.az.body Tryz.func312 Tryz.call312 rfl (by decide+kernel) rfl ?_;((conv=>whnf);repeat(any_goals((first|(refine(ach hr hn h0 hm hp).mono ?_;rintro _ H1 ⟨⟨a1,c1,rfl,iz⟩,cd⟩)|refine Vc.aq ?_|refine Vc.bz ?_ ?_)<;>(intros;(conv=>whnf)))))
 exact⟨⟨a1,c1,rfl,iz⟩,cd⟩
def gR (m:Int):pQ->Bool
 | .num n=>n==m
 | .join l=>l.any fun c=>c.2==m
def Ag:pQ->Prop
 | .num n=>EM n
 | .join l=>0<l.length/\l.length<=20/\ ∀ c∈l,Small c.1/\EM c.2
theorem aci {H:ae} {l:List (lK×Int)} {vs:List Value} (hl:vs.length=l.length) (h: ∀ (i:Nat) c v,l[i]? =some c->vs[i]? =some v->re H c.1 (Ed c.2) v): ∀ v∈vs,jt v=true:=by
 intro v hv;obtain⟨i,hi⟩:=List.getElem?_of_mem hv;have yH:i<l.length:=by have:=(aH.1 hi).1;omega
 exact(J8 (h i _ v (aD yH) hi)).1
structure IL (H:ae) (tb:Nat) (vb:Addr) (T E:TypeId) (old:Value):Prop where
 cell:hcell H vb=some (.pointer (some ⟨tb,0,none⟩))
 cL:bu H tb #[old] E
 ne:vb.block≠tb
theorem IL.ext {H H':ae} {tb:Nat} {vb:Addr} {T E:TypeId} {old:Value} (h:IL H tb vb T E old) (k:ax H H'):IL H' tb vb T E old:=⟨jj h.cell k id,h.cL.ext k,h.ne⟩
set_option maxHeartbeats 1000000 in
theorem ahR: ∀ (ws:lK) (n:Int) (H:ae) (v:Value) (tb:Nat) (vb:Addr) (old:Value),re H ws (Ed n) v->IL H tb vb 219 34 old->az Tryz.prog 181 [v,.iface 219 (.pointer (some ⟨tb,0,none⟩)),.agg #[hT 219,.pointer (some vb),.int .u64 150],lU 34] H fun u H'=>u= .bool true/\bu H' tb #[.int .i64 n] 34/\fw tb H H':=by
 intro ws n H v tb vb old h ht;refine Vc.az.body Tryz.func181 Tryz.call181 rfl (by decide+kernel) rfl ?_;((conv=>whnf);repeat(any_goals((first|refine Vc.aq ?_|refine Vc.bz ?_ ?_)<;>(intros;(conv=>whnf)))))
 rename_i H1 jr eC cd;have pj:=ht.ext cd;have h1:=re.mono cd (fun _ h=>h) _ _ h;have ajW:=eC;refine dt.intro (fun(x:lK×Value)=>[(0,x.2)]) (fun x H'=>H1=H'/\re H1 x.1 (Ed n) x.2) (fun x=>x.1.length) (ws,v) ⟨rfl,aF⟩ ⟨rfl,h1⟩ ?_;rintro⟨ws,v⟩ _ ⟨rfl,h⟩;dsimp only at h ⊢;cases ws with
 |nil=>
  have h:v=_:=h;subst h;((conv=>whnf);repeat(any_goals((first|(refine(UA n _).mono ?_;rintro _ _ ⟨rfl,rfl⟩)|(refine TL _ ?_)|(refine(Vo vb ⟨tb,0,none⟩ _ pj.cell).mono ?_;rintro _ _ ⟨rfl,rfl⟩)|(refine(SO n _).mono ?_;rintro _ H2 ⟨rfl,di,sr,bh⟩;have dT:=bh.size)|refine Vc.aq ?_|refine Vc.bz ?_ ?_)<;>(intros;(conv=>whnf)))))
  have q9:hcell H2 ⟨H1.size,0,none⟩=some (.int .i64 n):=by rw[di.cell];rfl
  ((conv=>whnf);repeat(any_goals((first|(refine(Ws n tb ⟨H1.size,0,none⟩ old _ q9 (pj.cL.ext bh)).mono ?_;rintro _ H3 ⟨rfl,nG,fR,bw⟩;have eJ:=bw.size)|refine Vc.aq ?_|refine Vc.bz ?_ ?_)<;>(intros;(conv=>whnf)))))
  exact⟨rfl,fR,cD.trans (cd.trans bh).only bw fun _ _ h=>h⟩
 |cons x ws=>
  obtain⟨g,v',rfl,hb,hw⟩:=h;obtain⟨_,ty,pl,rfl⟩:=J8 hw;((conv=>whnf);repeat(any_goals((first|(refine(UB _ _).mono ?_;rintro _ _ ⟨rfl,rfl⟩)|(refine TM _ ?_)|(with_reducible apply xH)|(with_reducible apply xI)|(with_reducible apply xJ)|(with_reducible apply zO)|(with_reducible apply zP)|(with_reducible apply zQ)|(with_reducible apply zR)|(with_reducible apply xK)|(with_reducible apply xM)|(with_reducible apply zT)|(with_reducible apply zU)|(with_reducible apply xN)|(with_reducible apply zV)|(with_reducible apply xO)|(with_reducible apply xP)|(with_reducible apply xQ)|(with_reducible apply xR)|(with_reducible apply zW)|(with_reducible apply xT)|(with_reducible apply xU)|(with_reducible apply xV)|(with_reducible apply Gm)|(with_reducible apply Gn)|(with_reducible apply Gp)|(refine cP.method (Uj _) ?_;refine(Sg hb).mono ?_;rintro _ _ ⟨rfl,rfl⟩)|refine Vc.aq ?_|refine Vc.bz ?_ ?_)<;>(intros;(conv=>whnf)))))
  exact⟨(ws,.iface ty pl),⟨rfl,aF⟩,⟨rfl,hw⟩,by show ws.length<ws.length+1;omega⟩
def B2:pQ->Int
 | .num n=>n
 | .join l=>(l.headD ([],0)).2
set_option maxHeartbeats 1000000 in
theorem ahS: ∀ (ws:lK) (b:pQ) (H:ae) (v:Value) (tb:Nat) (vb:Addr) (old:Value),Ag b->j7 H ws b v->IL H tb vb 219 34 old->az Tryz.prog 181 [v,.iface 219 (.pointer (some ⟨tb,0,none⟩)),.agg #[hT 219,.pointer (some vb),.int .u64 150],lU 34] H fun u H'=>u= .bool true/\bu H' tb #[.int .i64 (B2 b)] 34/\fw tb H H':=by
 intro ws b H v tb vb old kZ h ht;refine Vc.az.body Tryz.func181 Tryz.call181 rfl (by decide+kernel) rfl ?_;((conv=>whnf);repeat(any_goals((first|refine Vc.aq ?_|refine Vc.bz ?_ ?_)<;>(intros;(conv=>whnf)))))
 rename_i H1 jr eC cd;have pj:=ht.ext cd;have h1:=j7.ext h cd;have ajW:=eC;refine dt.intro (fun(x:lK×Value)=>[(0,x.2)]) (fun x H'=>H1=H'/\j7 H1 x.1 b x.2) (fun x=>x.1.length) (ws,v) ⟨rfl,aF⟩ ⟨rfl,h1⟩ ?_;rintro⟨ws,v⟩ _ ⟨rfl,h⟩;dsimp only at h ⊢;cases ws with
 |nil=>
  cases b with
  |num n=>
   have h:v=_:=h;subst h;((conv=>whnf);repeat(any_goals((first|(refine(UA n _).mono ?_;rintro _ _ ⟨rfl,rfl⟩)|(refine TL _ ?_)|(refine(Vo vb ⟨tb,0,none⟩ _ pj.cell).mono ?_;rintro _ _ ⟨rfl,rfl⟩)|(refine(SO n _).mono ?_;rintro _ H2 ⟨rfl,di,sr,bh⟩;have dT:=bh.size)|refine Vc.aq ?_|refine Vc.bz ?_ ?_)<;>(intros;(conv=>whnf)))))
   have q9:hcell H2 ⟨H1.size,0,none⟩=some (.int .i64 n):=by rw[di.cell];rfl
   ((conv=>whnf);repeat(any_goals((first|(refine(Ws n tb ⟨H1.size,0,none⟩ old _ q9 (pj.cL.ext bh)).mono ?_;rintro _ H3 ⟨rfl,nG,fR,bw⟩;have eJ:=bw.size)|refine Vc.aq ?_|refine Vc.bz ?_ ?_)<;>(intros;(conv=>whnf)))))
   exact⟨rfl,fR,cD.trans (cd.trans bh).only bw fun _ _ h=>h⟩
  |join l=>
   obtain⟨g,a,cap,vs,rfl,hb,hc,hr,nH,ii⟩:=h;obtain⟨h0,Bd,jd⟩:=kZ;have ib:=aci nH ii;have hU:=aa8 hb hr nH h0 (by omega) ib;obtain⟨c,l,rfl⟩: ∃ c l',l=c::l':=by cases l with|nil=>simp at h0|cons c l=>exact⟨c,l,rfl⟩
   obtain⟨e,vs,rfl⟩: ∃ e Hj,vs=e::Hj:=by cases vs with|nil=>simp at nH|cons e vs=>exact⟨e,vs,rfl⟩
   have EC:=ii 0 c e rfl rfl;obtain⟨_,ty,pl,rfl⟩:=J8 EC;((conv=>whnf);repeat(any_goals((first|(refine(afs _ _).mono ?_;rintro _ _ ⟨rfl,rfl⟩)|(refine adT _ ?_)|(with_reducible apply xH)|(with_reducible apply xI)|(with_reducible apply xJ)|(with_reducible apply zO)|(with_reducible apply zP)|(with_reducible apply zQ)|(with_reducible apply zR)|(with_reducible apply xK)|(with_reducible apply xM)|(with_reducible apply zT)|(with_reducible apply zU)|(with_reducible apply xN)|(with_reducible apply zV)|(with_reducible apply xO)|(with_reducible apply xP)|(with_reducible apply xQ)|(with_reducible apply xR)|(with_reducible apply zW)|(with_reducible apply xT)|(with_reducible apply xU)|(with_reducible apply xV)|(with_reducible apply Gm)|(with_reducible apply Gn)|(with_reducible apply Gp)|(refine cP.method (aeW _) ?_;refine hU.mono ?_;rintro _ H2 ⟨⟨a1,c1,rfl,iz⟩,bh⟩;have dT:=bh.size)|refine Vc.aq ?_|refine Vc.bz ?_ ?_)<;>(intros;(conv=>whnf)))))
   have P3:=re.mono bh (fun _ h=>h) _ _ EC;have P4:=ahR c.1 c.2 H2 (.iface ty pl) tb vb old P3 (pj.ext bh);have oG:((c::l).length:Int)=l.length+1:=by simp
   refine dt.intro (fun(i:Nat)=>[(50,.int .i64 i)]) (fun i H'=>H2=H'/\i=0) (fun i=>1) 0 ⟨rfl,aF⟩ ⟨rfl,rfl⟩ ?_;rintro i _ ⟨rfl,rfl⟩;((conv=>whnf);repeat(any_goals((first|(refine cm.val iz nH 0 (.iface ty pl) rfl rfl ?_;intro _ _ _)|(refine P4.mono ?_;rintro _ H3 ⟨rfl,fR,bw⟩;have eJ:=bw.size)|refine Vc.aq ?_|refine Vc.bz ?_ ?_)<;>(intros;(conv=>whnf)))))
   exact⟨rfl,fR,cD.trans (cd.trans bh).only bw fun _ _ h=>h⟩
 |cons x ws=>
  obtain⟨g,v',rfl,hb,hw⟩:=h;obtain⟨ty,pl,rfl⟩:=j7.iface hw;((conv=>whnf);repeat(any_goals((first|(refine(UB _ _).mono ?_;rintro _ _ ⟨rfl,rfl⟩)|(refine TM _ ?_)|(with_reducible apply xH)|(with_reducible apply xI)|(with_reducible apply xJ)|(with_reducible apply zO)|(with_reducible apply zP)|(with_reducible apply zQ)|(with_reducible apply zR)|(with_reducible apply xK)|(with_reducible apply xM)|(with_reducible apply zT)|(with_reducible apply zU)|(with_reducible apply xN)|(with_reducible apply zV)|(with_reducible apply xO)|(with_reducible apply xP)|(with_reducible apply xQ)|(with_reducible apply xR)|(with_reducible apply zW)|(with_reducible apply xT)|(with_reducible apply xU)|(with_reducible apply xV)|(with_reducible apply Gm)|(with_reducible apply Gn)|(with_reducible apply Gp)|(refine cP.method (Uj _) ?_;refine(Sg hb).mono ?_;rintro _ _ ⟨rfl,rfl⟩)|refine Vc.aq ?_|refine Vc.bz ?_ ?_)<;>(intros;(conv=>whnf)))))
  exact⟨(ws,.iface ty pl),⟨rfl,aF⟩,⟨rfl,hw⟩,by show ws.length<ws.length+1;omega⟩
set_option maxHeartbeats 1000000 in
theorem OH {ws:lK} {b:pQ} {H:ae} {v:Value} {tb:Nat} {old:Value} (hg:kS H) (kZ:Ag b) (h:j7 H ws b v) (ht:bu H tb #[old] 34):az Tryz.prog 133 [v,.iface 219 (.pointer (some ⟨tb,0,none⟩))] H fun u H'=>u= .bool true/\bu H' tb #[.int .i64 (B2 b)] 34/\fw tb H H':=by
 obtain⟨ty,pl,rfl⟩:=j7.iface h;have ct:=ht.lt;have get:=hg.et;refine Vc.az.body Tryz.func133 Tryz.call133 rfl (by decide+kernel) rfl ?_;((conv=>whnf);repeat(any_goals((first|(refine(adS ⟨tb,0,none⟩ _).mono ?_;rintro _ H1 ⟨rfl,eC,jr,cd⟩;have eR:=cd.size)|(refine(agU _ _).mono ?_;rintro _ _ ⟨rfl,rfl⟩)|(refine ahQ _ ?_)|(refine agV _ ?_)|(refine agW _ ?_)|(refine aaI _ ?_)|(refine(agX _ ⟨tb,0,none⟩ _ (Go.Vc.jj (show hcell H1 ⟨H.size,0,none⟩=some (.pointer (some ⟨tb,0,none⟩))by rw[eC.cell];rfl) (show ax H1 _ by exact Vc.xt) id)).mono ?_;rintro _ _ ⟨rfl,rfl⟩)|refine Vc.aq ?_|refine Vc.bz ?_ ?_)<;>(intros;(conv=>whnf)))))
 rename_i H2 sr di bh H3 nG fR bw;have YV:ax H1 H3:=by exact Vc.xt
 have k3:ax H H3:=cd.trans YV;refine(ahS ws b H3 _ tb ⟨H.size,0,none⟩ old kZ (j7.ext h k3) ⟨jj (show hcell H1 ⟨H.size,0,none⟩=some (.pointer (some ⟨tb,0,none⟩))by rw[eC.cell];rfl) YV id,ht.ext k3,by show H.size≠tb;omega⟩).mono ?_;rintro _ H4 ⟨rfl,iX,cH⟩;((conv=>whnf);repeat(any_goals((first|refine Vc.aq ?_|refine Vc.bz ?_ ?_)<;>(intros;(conv=>whnf)))))
 exact⟨rfl,iX,cD.trans k3.only cH fun _ _ h=>h⟩
def wx:pQ->List Bs
 | .num _=>[]
 | .join l=>(l.headD ([],0)).1.map (·.1)
def Gq (H:ae) (v:Value) (n:Int) (ops:List Bs):Prop:=∃ a cap,v= .tuple #[.int .i64 n,.slice a ops.length cap,.bool true]/\ops.length<=cap/\Row H a (strs ops)
theorem UC {H:ae} (hg:kS H) (n:Int) (h:EM n):az Tryz.prog 72 [.iface 34 (.int .i64 n)] H fun u H'=>Gq H' u n []/\ax H H':=by
 refine Vc.az.body Tryz.func72 Tryz.call72 rfl (by decide+kernel) rfl ?_;((conv=>whnf);repeat(any_goals((first|refine Vc.aq ?_|refine Vc.bz ?_ ?_)<;>(intros;(conv=>whnf)))))
 rename_i H1 jr eC cd;refine(OH (ws:=[]) (b:= .num n) (hg.ext cd) h rfl eC).mono ?_;rintro _ H2 ⟨rfl,di,bh⟩;have di:bu H2 H.size #[.int .i64 n] 34:=di;((conv=>whnf);repeat(any_goals((first|(with_reducible apply xH)|(with_reducible apply xI)|(with_reducible apply xJ)|(with_reducible apply zO)|(with_reducible apply zP)|(with_reducible apply zQ)|(with_reducible apply zR)|(with_reducible apply xK)|(with_reducible apply xM)|(with_reducible apply zT)|(with_reducible apply zU)|(with_reducible apply xN)|(with_reducible apply zV)|(with_reducible apply xO)|(with_reducible apply xP)|(with_reducible apply xQ)|(with_reducible apply xR)|(with_reducible apply zW)|(with_reducible apply xT)|(with_reducible apply xU)|(with_reducible apply xV)|(with_reducible apply Gm)|(with_reducible apply Gn)|(with_reducible apply Gp)|refine Vc.aq ?_|refine Vc.bz ?_ ?_)<;>(intros;(conv=>whnf)))))
 exact⟨⟨none,0,rfl,aB _,Row.nil _ _⟩,cd.but bh (aB _)⟩
set_option maxHeartbeats 1000000 in
theorem OI {b:pQ} (kZ:Ag b) (hO:(wx b).length<=100) (Xn: ∀ H v,kS H->Av H b v->az Tryz.prog 72 [v] H fun u H'=>Gq H' u (B2 b) (wx b)/\ax H H'):
  ∀ (ws:lK) (H:ae) (v:Value),Small ws->kS H->j7 H ws b v->az Tryz.prog 72 [v] H fun u H'=>Gq H' u (B2 b) (ws.map (·.1)++wx b)/\ax H H'
 |[],H,v,_,hg,h=>Xn H v hg h
 |x::ws,H,v,jd,hg,h=>by
  have Pm:=h;obtain⟨g,v',hv,hb,hw⟩:=h;subst hv;have ih:=fun H' (k:ax H H')=>OI kZ hO Xn ws H' v' jd.tail (hg.ext k) (j7.ext hw k);obtain⟨ty,pl,rfl⟩:=j7.iface hw;have hwn:=jd.1;simp only[ay]at hwn;obtain⟨ops,P5⟩: ∃ ops,ws.map (·.1)++wx b=ops:=⟨_,rfl⟩;have j5:ops.length<=200:=by rw[<-P5,au,dn];omega
  have aiI:(x::ws).map (·.1)++wx b=x.1::ops:=by rw[<-P5];rfl
  rw[P5]at ih;rw[aiI];refine Vc.az.body Tryz.func72 Tryz.call72 rfl (by decide+kernel) rfl ?_;((conv=>whnf);repeat(any_goals((first|refine Vc.aq ?_|refine Vc.bz ?_ ?_)<;>(intros;(conv=>whnf)))))
  rename_i H1 jr eC cd;refine(OH (ws:=x::ws) (b:=b) (hg.ext cd) kZ (j7.ext Pm cd) eC).mono ?_;rintro _ H2 ⟨rfl,di,bh⟩;have nD:ax H H2:=cd.but bh (aB _);have dT:=nD.size;((conv=>whnf);repeat(any_goals((first|(with_reducible apply xH)|(with_reducible apply xI)|(with_reducible apply xJ)|(with_reducible apply zO)|(with_reducible apply zP)|(with_reducible apply zQ)|(with_reducible apply zR)|(with_reducible apply xK)|(with_reducible apply xM)|(with_reducible apply zT)|(with_reducible apply zU)|(with_reducible apply xN)|(with_reducible apply zV)|(with_reducible apply xO)|(with_reducible apply xP)|(with_reducible apply xQ)|(with_reducible apply xR)|(with_reducible apply zW)|(with_reducible apply xT)|(with_reducible apply xU)|(with_reducible apply xV)|(with_reducible apply Gm)|(with_reducible apply Gn)|(with_reducible apply Gp)|(refine(ih _ (by exact Vc.xt)).mono ?_;rintro _ H3 ⟨⟨a3,c3,rfl,IG,jh⟩,bw⟩;have eJ:=bw.size)|refine Vc.aq ?_|refine Vc.bz ?_ ?_)<;>(intros;(conv=>whnf)))))
  rename_i H4 rN iX cH;have dE:cq H4 H3.size 9 1 (some ⟨H3.size,0,none⟩) 1 1 [.string (ag x.1)]:=Kf (xs:=[.string (ag x.1)]) iX (aB _) rfl (aS rfl);refine cP.append (i:=Tryz.t9) (z:= .string ⟨#[]⟩) (base:=H3.size) rfl ⟨_,rfl,fun _ h=>by cases h⟩ rfl rfl rfl dE (Src.row (jh.ext cH) (by rw[Ff];exact(bQ _).symm) (abu ops)) (by unfold maxLen;omega) (by show(1+ops.length)*16<=_;omega) cH.size ?_;intro a5 c5 H5 eW EU _;((conv=>whnf);repeat(any_goals((first|refine Vc.aq ?_|refine Vc.bz ?_ ?_)<;>(intros;(conv=>whnf)))))
  have cE:ax H3 H5:=cH.wr dE (aB _) EU;refine⟨⟨a5,c5,by rw[ay,iE];rfl,?_,?_⟩,nD.trans (bw.trans cE)⟩
  .have:=eW.jC;rw[ay];omega
  .exact eW.row
set_option maxHeartbeats 1000000 in
theorem adU {l:List (lK×Int)} {H:ae} {v:Value} (kZ:Ag (.join l)) (hg:kS H) (h:Av H (.join l) v):az Tryz.prog 72 [v] H fun u H'=>Gq H' u (B2 (.join l)) (wx (.join l))/\ax H H':=by
 have Pm:=h;obtain⟨g,a,cap,vs,hv,hb,hc,hr,nH,ii⟩:=h;subst hv;have ajX:=kZ;obtain⟨h0,Bd,jd⟩:=kZ;obtain⟨c,l,rfl⟩: ∃ c l',l=c::l':=by cases l with|nil=>simp at h0|cons c l=>exact⟨c,l,rfl⟩
 obtain⟨e,vs,rfl⟩: ∃ e Hj,vs=e::Hj:=by cases vs with|nil=>simp at nH|cons e vs=>exact⟨e,vs,rfl⟩
 have EC:=ii 0 c e rfl rfl;obtain⟨_,ty,pl,rfl⟩:=J8 EC;have hcs:=jd c (by simp);have oG:((c::l).length:Int)=l.length+1:=by simp
 refine Vc.az.body Tryz.func72 Tryz.call72 rfl (by decide+kernel) rfl ?_;((conv=>whnf);repeat(any_goals((first|refine Vc.aq ?_|refine Vc.bz ?_ ?_)<;>(intros;(conv=>whnf)))))
 rename_i H1 jr eC cd;refine(OH (ws:=[]) (b:= .join (c::l)) (hg.ext cd) ajX (Av.ext cd _ _ Pm) eC).mono ?_;rintro _ H2 ⟨rfl,di,bh⟩;have nD:ax H H2:=cd.but bh (aB _);have dT:=nD.size;have cT:=hr.ext nD;have P3:=re.mono nD (fun _ h=>h) _ _ EC;have P4:=OI (b:= .num c.2) hcs.2 (aI _) (fun H v hg h=>by obtain rfl:=h;exact UC hg c.2 hcs.2) c.1 H2 (.iface ty pl) hcs.1 (hg.ext nD) P3;((conv=>whnf);repeat(any_goals((first|(with_reducible apply xH)|(with_reducible apply xI)|(with_reducible apply xJ)|(with_reducible apply zO)|(with_reducible apply zP)|(with_reducible apply zQ)|(with_reducible apply zR)|(with_reducible apply xK)|(with_reducible apply xM)|(with_reducible apply zT)|(with_reducible apply zU)|(with_reducible apply xN)|(with_reducible apply zV)|(with_reducible apply xO)|(with_reducible apply xP)|(with_reducible apply xQ)|(with_reducible apply xR)|(with_reducible apply zW)|(with_reducible apply xT)|(with_reducible apply xU)|(with_reducible apply xV)|(with_reducible apply Gm)|(with_reducible apply Gn)|(with_reducible apply Gp)|refine Vc.aq ?_|refine Vc.bz ?_ ?_)<;>(intros;(conv=>whnf)))))
 refine dt.intro (fun(i:Nat)=>[(54,.int .i64 i)]) (fun i H'=>H2=H'/\i=0) (fun i=>1) 0 ⟨rfl,aF⟩ ⟨rfl,rfl⟩ ?_;rintro i _ ⟨rfl,rfl⟩;((conv=>whnf);repeat(any_goals((first|(refine cm.val cT nH 0 (.iface ty pl) rfl rfl ?_;intro _ _ _)|(refine P4.mono ?_;rintro _ H3 ⟨⟨a3,c3,rfl,IG,jh⟩,bw⟩;have eJ:=bw.size)|refine Vc.aq ?_|refine Vc.bz ?_ ?_)<;>(intros;(conv=>whnf)))))
 have e:wx (.join (c::l))=c.1.map (·.1)++wx (.num c.2):=by show c.1.map (·.1)=_++[];rw[dD]
 rw[e];exact⟨⟨a3,c3,rfl,IG,jh⟩,nD.trans bw⟩
theorem aft {b:pQ} (h:Ag b):(wx b).length<=100:=by
 cases b with
 |num n=>exact aI _
 |join l=>
  obtain⟨h0,Bd,jd⟩:=h;obtain⟨c,l,rfl⟩: ∃ c l',l=c::l':=by cases l with|nil=>simp at h0|cons c l=>exact⟨c,l,rfl⟩
  have:=(jd c (by simp)).1.1;show(c.1.map (·.1)).length<=_;rw[dn];omega
theorem adV {ws:lK} {b:pQ} {H:ae} {v:Value} (hg:kS H) (jd:Small ws) (kZ:Ag b) (h:j7 H ws b v):az Tryz.prog 72 [v] H fun u H'=>Gq H' u (B2 b) (ws.map (·.1)++wx b)/\ax H H':=
 OI kZ (aft kZ) (fun H v hg h=>by
  cases b with
  |num n=>obtain rfl:=h;exact UC hg n kZ
  |join l=>exact adU kZ hg h) ws H v jd hg h
theorem UD {ws:lK} {b:pQ} {H:ae} {v:Value} (hg:kS H) (jd:Small ws) (kZ:Ag b) (h:j7 H ws b v):az Tryz.prog 24 [v] H fun u H'=>u= .int .i64 (B2 b)/\ax H H':=by
 refine Vc.az.body Tryz.func24 Tryz.call24 rfl (by decide+kernel) rfl ?_;((conv=>whnf);repeat(any_goals((first|(refine(adV hg jd kZ h).mono ?_;rintro _ H3 ⟨⟨a3,c3,rfl,IG,jh⟩,bw⟩;have eJ:=bw.size)|refine Vc.aq ?_|refine Vc.bz ?_ ?_)<;>(intros;(conv=>whnf)))))
 exact⟨rfl,bw⟩
theorem afu (H:ae):az Tryz.prog 72 [.nilIface] H fun u H'=>u= .tuple #[.int .i64 0,.slice none 0 0,.bool false]/\ax H H':=by
 refine Vc.az.body Tryz.func72 Tryz.call72 rfl (by decide+kernel) rfl ?_;((conv=>whnf);repeat(any_goals((first|refine Vc.aq ?_|refine Vc.bz ?_ ?_)<;>(intros;(conv=>whnf)))))
 exact⟨rfl,by exact Vc.xt⟩
theorem afv (H:ae):az Tryz.prog 24 [.nilIface] H fun u H'=>u= .int .i64 0/\ax H H':=by
 refine Vc.az.body Tryz.func24 Tryz.call24 rfl (by decide+kernel) rfl ?_;((conv=>whnf);repeat(any_goals((first|(refine(afu _).mono ?_;rintro _ H3 ⟨rfl,bw⟩;have eJ:=bw.size)|refine Vc.aq ?_|refine Vc.bz ?_ ?_)<;>(intros;(conv=>whnf)))))
 exact⟨rfl,bw⟩
end Go.Proofs.YtphkaogbcfdllaaGreatDoor
namespace Go.lb
open Go.cN Go.eg Go.cM Go.Run
def GQ:ap:=[98,117,105,108,100]
theorem TN {n v:ap} {A:Tr} (h:dr A):dr (oX n v A).2:=by
 unfold oX;split
 .split
  .exact dr.nN h _
  .exact Ug _ _ _ _ (dr.nN h _)
 .exact h
end Go.lb
namespace Go.Proofs.YtphkaogbcfdllaaGreatDoor
open Go Go.Vc Go.cN Go.eg Go.cM Go.bu Go.Run Go.ew Go.lb Go.ej Go.uv
def pF (H:ae) (n:ap) (e:Nat) (v:Value):Prop:=if e=0 then v= .nilIface else ∃ ws:lK,(ws=[]\/ ∃ k:Nat,k<=1000000/\ws=[([108,105,110,101],Lib.itoa (k:Int))])/\j7 H ((GQ,n)::ws) (.num e) v
def Ek (H:ae) (base:Nat) (n:ap) (r:Tr×Nat) (v:Value):Prop:=∃ a cap fs er,v= .tuple #[.slice a r.1.length cap,er]/\cq H base 71 3 a r.1.length cap (fs.flatMap fN)/\gE H fs r.1/\pF H n r.2 er
theorem Ek.no {H:ae} {base e:Nat} {n:ap} {v er:Value} {ws:lK} (he:e≠0) (hv:v= .tuple #[.slice none 0 0,er]) (lP:ws=[]\/ ∃ k:Nat,k<=1000000/\ws=[([108,105,110,101],Lib.itoa (k:Int))]) (h:j7 H ((GQ,n)::ws) (.num e) er):Ek H base n ([],e) v:=⟨none,0,[],er,hv,cq.nil _ _ _ _,aF,by unfold pF;rw[ak he];exact⟨ws,lP,h⟩⟩
theorem uD {H H0:ae} {b o:Nat} {l:List UInt8} {K:Value->ae->Prop} (hl:l.length=32) (hc: ∀ k u,(cv l)[k]? =some u->hcell H0 ⟨b,o+k,none⟩=some u) (he:ax H0 H) (hk:K (.agg (cv l).toArray) H):aE Tryz.prog (Instr.loadAt 85 (.pointer (some ⟨b,o,none⟩))) H K:=by
 have:=Go.Vc.aE.tv (P:=Tryz.prog) (t:=85) (H:=H) (b:=b) (o:=o) (vs:=cv l) (K:=K) rfl rfl (by rw[ik,hl];rfl) (fun j u hu=>jj (hc j u hu) he id) hk;exact this
theorem NH {H H0:ae} {b:Nat} {c:List Value} {K:Value->ae->Prop} (hl:c.length=37) (hc: ∀ k u,c[k]? =some u->hcell H0 ⟨b,0+k,none⟩=some u) (he:ax H0 H) (hk:K (.agg c.toArray) H):aE Tryz.prog (Instr.loadAt 90 (.pointer (some ⟨b,0,none⟩))) H K:=by
 have:=Go.Vc.aE.tv (P:=Tryz.prog) (t:=90) (H:=H) (b:=b) (o:=0) (vs:=c) (K:=K) rfl rfl (by rw[hl];rfl) (fun j u hu=>jj (hc j u hu) he id) hk;exact this
theorem NI (nm:Bs) {H:ae} {ws:lK} {e:Nat} {v:Value} (hb:DV ws (.num e)=false) (h:j7 H ws (.num e) v):az Tryz.prog 62 [.string (ag [98,117,105,108,100]),.string (ag nm),v] H fun u H'=>j7 H' ((GQ,nm)::ws) (.num e) u/\ax H H':=by
 refine(N7 [98,117,105,108,100] nm h).mono ?_;rintro u H' ⟨h1,h2⟩;rw[hb,ak Bool.false_ne_true]at h1;exact⟨h1,h2⟩
theorem cP.aiJ {H:ae} {u ty:TypeId} {f:SF} {a:Option Addr} {n cap g base:Nat} {fs:List SF} {cb:Array Bool} {K:Value->ae->Prop}
  (tL:bu H g (fN f).toArray 71) (jZ:cq H base 71 3 a n cap (fs.flatMap fN)) (hx:base<=H.size) (hn:n<=1000000000) (hu: ∃ d,Tryz.prog.underlying u=some d/\(∀ k,d≠ .int k))
  (hk: ∀ a' cS H',cq H' base 71 3 a' (n+1) cS ((fs++[f]).flatMap fN)->(∀ p,a'=some p->a'=a\/H.size<=p.block)->Wr a H H'->K (.slice a' (n+1) cS) H'):
  cP Tryz.prog (builtin .append #[46,u] ty cb #[.slice a n cap,.slice (some ⟨g,0,none⟩) 1 1]) H K:=by
 refine Go.Vc.cP.append (i:=Tryz.t71) (z:= .agg #[.string ⟨#[]⟩,.bool false,.slice none 0 0]) (m:=1) (news:=fN f) rfl hu rfl rfl rfl jZ (Src.row (bu.row (c:=fN f) tL) rfl (by simp[fN,jt])) (by unfold maxLen;omega) ?_ hx fun a' cS H' h1 h2 h3=>hk a' cS H' (by rw[dZ,show [f].flatMap fN=fN f by simp];exact h1) h3 h2;show(n+1)*_<=_;refine dh (fC (n+1) (show _<=64 from by decide)) (by omega)
theorem UE {H:ae} {base n cap size:Nat} {e:TypeId} {a:Option Addr} {xs:List Value} (h:cq H base e size a n cap xs) (he:e≠5): ∀ b c,(∃ p,a=some p/\p.block=b)-> ¬bu H b c 5:=by
 rintro b c ⟨p,hp,rfl⟩ k;rcases h.out with ⟨h1,_⟩|⟨g,eE,h1,_,hb,_⟩
 .rw[h1]at hp;cases hp
 .rw[h1]at hp;cases hp;exact he (pw hb k).1
theorem Vp: ∀ (fs:List SF) (i:Nat) (f:SF),fs[i]? =some f-> ∀ k u,(fN f)[k]? =some u->(fs.flatMap fN)[i*3+k]? =some u
 |[],i,f,h,k,u,hu=>by simp at h
 |g::fs,0,f,h,k,u,hu=>by
  simp only[dB,dO]at h;subst h;have hk:=(aH.1 hu).1;rw[eG,gX,aQ,bV hk];exact hu
 |g::fs,i+1,f,h,k,u,hu=>by
  rw[eG,bA (by show(3:Nat)<=(i+1)*3+k;omega),show(i+1)*3+k-(fN g).length=i*3+k by show(i+1)*3+k-3=_;omega];exact Vp fs i f (by simpa using h) k u hu
theorem gE.nth {H:ae}: ∀ {fs:List SF} {xs:Tr} {i:Nat} {x:Bs×cM.Node},gE H fs xs->xs[i]? =some x-> ∃ f,fs[i]? =some f/\Told H f x
 |[],[],i,x,_,h=>by simp at h
 |g::fs,y::xs,0,x,⟨h1,h2⟩,hx=>by
  simp only[dB,dO]at hx;subst hx;exact⟨g,rfl,h1⟩
 |g::fs,y::xs,i+1,x,h,hx=>by
  obtain⟨f,h3,h4⟩:=gE.nth (fs:=fs) (xs:=xs) (i:=i) (x:=x) h.2 (by simpa using hx);exact⟨f,by simpa using h3,h4⟩
 |[],_::_,_,_,h,_=>h.elim
 |_::_,[],_,_,h,_=>h.elim
theorem cm.sf {H H':ae} {a:Option Addr} {fs:List SF} {A:Tr} {n:Nat} {i:Int} {K:Addr->Prop} (hr:Row H a (fs.flatMap fN)) (ht:gE H' fs A) (hn:A.length=n) (j:Nat) (x:ap×cM.Node) (hi:i=j) (hx:A[j]? =some x)
  (hk: ∀ b o f,Told H' f x->(∀ k v,(kU x f.2.2.1 f.2.2.2.2)[k]? =some v->hcell H ⟨b,o+k,none⟩=some v)->K ⟨b,o,none⟩):cm a n 3 i K:=by
 obtain⟨f,hf,EZ⟩:=ht.nth hx;have hj:=(aH.1 hx).1;have hl:(fs.flatMap fN).length=n*3:=by rw[ht.files.len,hn]
 have e:fN f=kU x f.2.2.1 f.2.2.2.2:=by unfold fN kU;rw[EZ.path,EZ.dir,EZ.len]
 refine Go.Vc.cm.row (size:=3) hr hl (by decide) j hi (by omega) fun b o k1 k2 k3=> ?_;exact hk b (o+j*3) f EZ fun k v hv=>k3 k v (Vp fs j f hf k v (by rw[e];exact hv))
theorem nC.one {ma:Nat} {pre:List Bs} (h:ma<=1000) (hl:pre.length<=1) (hp: ∀ m∈pre,m.length<=16):nC ⟨ma,0,0,pre⟩:=⟨by show ma<=_;omega,by show 0<=_;omega,by show 0<=_;omega,by show pre.length<=_;omega,hp⟩
theorem VP {H:ae} {base n cap size:Nat} {e:TypeId} {a:Option Addr} {xs:List Value} (h:cq H base e size a n cap xs):cap<=maxLen:=by
 rcases h.out with ⟨_,_,h1⟩|⟨_,_,_,_,_,_,hm,_⟩
 .omega
 .exact hm
structure BoS where
 i:Nat
 fs:List SF
 a:Option Addr
 cap:Nat
set_option maxHeartbeats 4000000 in
theorem De {H:ae} (p:nU) (c:List Value) (hc:sL H p c) (hv:nC p.v) (lO:p.name.length<=1000) (b:ap) (a:Option Addr) (n cap:Nat) (hr:Row H a (cv b)) (hn:b.length=n) (oz:n<=cap) (hm:cap<=maxLen) (wO:n<=1000000) (hg:kS H) (hH:2<=H.size):
  az Tryz.prog 37 [.agg c.toArray,.slice a n cap] H fun v H'=>Ek H' H.size p.name (jN (decide (ix b=p.sum)) p.name (km p.v) b) v/\ax H H':=by
 obtain⟨pa,pc,ec,oA,ib,pf⟩:=id hc;have hsl:=vG b;unfold jN;refine Vc.az.body Tryz.func37 Tryz.call37 rfl (by decide+kernel) rfl ?_;((conv=>whnf);repeat(any_goals((first|((with_reducible refine Vc.cy.held [0,3,4,1,2,5] [(1,[4]),(2,[4])] mixed (by decide+kernel) ?_))|refine Vc.aq ?_)<;>(intros;(conv=>whnf)))))
 rename_i H1 z1 b1 x1;have eC:bu H1 H.size c.toArray 90:=by simpa [Value.cells]using b1
 have iF:hcell H1 ⟨H.size,0+0,none⟩=some (.string (ag p.name)):=zX eC 0 0 _ (by rw[ec];rfl);have Be: ∀ (k:Nat) (u:Value),(cv p.sum)[k]? =some u->hcell H1 ⟨H.size,0+5+k,none⟩=some u:=fun k u hu=>zX eC (0+5) k u (by
  rw[ec,bA (by show 5<=0+5+k;omega),show 0+5+k-([.string (ag p.name),.int .i64 p.v.ma,.int .i64 p.v.mi,.int .i64 p.v.pa,.slice pa p.v.pre.length pc]:List Value).length=k by show 0+5+k-5=k;omega];exact hu)
 have Mg: ∀ (k:Nat) (u:Value),c[k]? =some u->hcell H1 ⟨H.size,0+k,none⟩=some u:=fun k u hu=>zX eC 0 k u (by rw[aQ];exact hu);have cU:c.length=37:=oS.ok.len hc;have qs: ∀ {H'},ax H H'->sL H' p c:=fun{H'} k=>⟨pa,pc,ec,oA,ib,pf.ext k⟩;clear b1;by_cases hs:ix b=p.sum
 rotate_left
 .rw[aN hs,av rfl];have LM:(!(ix b==p.sum))=true:=by simp[hs]
  ((conv=>whnf);repeat(any_goals((first|((with_reducible apply uD);(exact oA);(exact Be);(exact Vc.xt);(conv=>whnf))|(refine Vc.kL.load rfl rfl rfl rfl rfl rfl (by first|exact uD oA Be (by exact Vc.xt) rfl|exact aE.nZ rfl iF (by exact Vc.xt) rfl) ?_)|(refine aE.nZ rfl iF (by exact Vc.xt) ?_)|((with_reducible apply da.Nn);rfl;rfl;rfl;rfl;rfl;(focus(exact hsl));(focus(exact oA));(conv=>whnf))|((fail_if_success (have:=bw));rename_i H2 z2 b2 x2;have hp:=FM b2 (hr.ext (x1.trans x2)) hn oz;refine(OG _ _ 1 1 _ hp rfl (by decide) (by rw[tu];dsimp only;omega)).mono ?_;rintro _ H3 ⟨rfl,bw⟩;have eJ:=bw.size;rw[tu])|(refine(NI p.name (ws:=[]) (e:=74) rfl (show j7 _ [] (.num 74) _ from rfl)).mono ?_;rintro er H5 ⟨jA,cE⟩;have ij:=cE.size)|refine Vc.aq ?_)<;>(intros;(conv=>whnf)))))
  exact⟨Ek.no (by decide) rfl (.inl rfl) jA,by exact Vc.xt⟩
 .rw[bB hs,ak (by simp)];have LM:(!(ix b==p.sum))=false:=by simp[hs]
  have mL:=fun H' (k:ax H H')=>adH b a n cap H' (hr.ext k) hn oz hm wO;unfold Q5 at mL;have YW:=NE b;obtain⟨O,hO⟩: ∃ O,ej.kh b=O:=⟨_,rfl⟩;simp only[hO]at mL YW ⊢;by_cases h0:O.2=0
  rotate_left
  .rw[av h0];have HZ:DV [] (.num (O.2:Int))=false:=by show((O.2:Int)==0)=false;rw[bK];omega
   have h0b:((O.2:Int) != 0)=true:=by rw[dM];omega
   ((conv=>whnf);repeat(any_goals((first|((with_reducible apply uD);(exact oA);(exact Be);(exact Vc.xt);(conv=>whnf))|(refine Vc.kL.load rfl rfl rfl rfl rfl rfl (by first|exact uD oA Be (by exact Vc.xt) rfl|exact aE.nZ rfl iF (by exact Vc.xt) rfl) ?_)|(refine aE.nZ rfl iF (by exact Vc.xt) ?_)|((with_reducible apply da.Nn);rfl;rfl;rfl;rfl;rfl;(focus(exact hsl));(focus(exact oA));(conv=>whnf))|((fail_if_success (have:=bw));rename_i H2 z2 b2 x2;have hp:=FM b2 (hr.ext (x1.trans x2)) hn oz;refine(OG _ _ 1 1 _ hp rfl (by decide) (by rw[tu];dsimp only;omega)).mono ?_;rintro _ H3 ⟨rfl,bw⟩;have eJ:=bw.size;rw[tu])|(refine(mL _ (by exact Vc.xt)).mono ?_;rintro _ H4 ⟨⟨a4,c4,rfl,YX,Xd⟩,cH⟩;have gA:=cH.size)|(refine(NI p.name (ws:=[]) (e:=O.2) HZ (show j7 _ [] (.num (O.2:Int)) _ from rfl)).mono ?_;rintro er H5 ⟨jA,cE⟩;have ij:=cE.size)|refine Vc.aq ?_)<;>(intros;(conv=>whnf)))))
   exact⟨Ek.no h0 rfl (.inl rfl) jA,by exact Vc.xt⟩
  .rw[ak (by omega)];obtain⟨IP,iM⟩:=YW h0;rw[h0]at mL;obtain⟨T,hT⟩: ∃ T,O.1=T:=⟨_,rfl⟩;rw[hT]at mL IP iM ⊢;have hTb: ∀ f∈T,f.2.2.length<=1000000000:=fun f hf=>by have:=(IP.file _ _ (jy IP.sorted.nodup hf)).1;omega
   ((conv=>whnf);repeat(any_goals((first|((with_reducible apply uD);(exact oA);(exact Be);(exact Vc.xt);(conv=>whnf))|(refine Vc.kL.load rfl rfl rfl rfl rfl rfl (by first|exact uD oA Be (by exact Vc.xt) rfl|exact aE.nZ rfl iF (by exact Vc.xt) rfl) ?_)|(refine aE.nZ rfl iF (by exact Vc.xt) ?_)|((with_reducible apply da.Nn);rfl;rfl;rfl;rfl;rfl;(focus(exact hsl));(focus(exact oA));(conv=>whnf))|((fail_if_success (have:=bw));rename_i H2 z2 b2 x2;have hp:=FM b2 (hr.ext (x1.trans x2)) hn oz;refine(OG _ _ 1 1 _ hp rfl (by decide) (by rw[tu];dsimp only;omega)).mono ?_;rintro _ H3 ⟨rfl,bw⟩;have eJ:=bw.size;rw[tu])|(refine(mL _ (by exact Vc.xt)).mono ?_;rintro _ H4 ⟨⟨a4,c4,rfl,YX,Xd⟩,cH⟩;have gA:=cH.size)|(have GR:=OZ T a4 _ c4 _ YX rfl (by omega) hTb;rw[iM]at GR;refine GR.mono ?_;rintro _ H5 ⟨⟨tb,tmb,rfl,yL,_,im,qY⟩,cE⟩;have ij:=cE.size)|refine Vc.aq ?_)<;>(intros;(conv=>whnf)))))
   have El:ax H1 H5:=by exact Vc.xt
   have iR:ax H H5:=x1.trans El;have alb:=El.size;have kB:=yL.cL.lt;have ET:=yL.map.lt;obtain⟨PL,Mf⟩: ∃ PL,oX p.name (km p.v) T=PL:=⟨_,rfl⟩;have sU:=fun H' (k:H5=H')=>afd p c (qs (k▸iR)) hv (by omega) (k▸yL) IP (k▸hg.ext iR) ⟨by omega,by omega⟩ (by rw[<-k];omega);have GU:dr PL.2:=by rw[<-Mf];exact TN IP
   rw[Mf]at sU ⊢;by_cases wV:PL.1=0
   rotate_left
   .rw[av wV];((conv=>whnf);repeat(any_goals((first|((with_reducible apply NH);(exact cU);(exact Mg);(exact El);(conv=>whnf))|(refine(sU _ rfl).mono ?_;rintro er H6 ⟨jA,HW,ei⟩;have fS:=ei.size;unfold Lg at jA;rw[ak wV]at jA;obtain⟨ws,lP,jA⟩:=jA;obtain⟨ty,pl,rfl⟩:=j7.iface jA;have rR:DV ws (.num (PL.1:Int))=false:=(by rcases lP with rfl|⟨_,_,rfl⟩;(show((PL.1:Int)==0)=false;rw[bK];omega);rfl);have Ck:ax H1 H6:=cD.trans El ei fun y hy e=>by rcases e with rfl|rfl<;>omega)|(have:=Ck;refine(NI p.name rR jA).mono ?_;rintro er2 H7 ⟨ajY,dq⟩;have jK:=dq.size)|refine Vc.aq ?_)<;>(intros;(conv=>whnf)))))
    exact⟨Ek.no wV rfl lP ajY,x1.trans (Ck.trans dq)⟩
   .rw[ak (by omega)];have wZ:=GU.count;have hPf: ∀ k n,ck PL.2 k=some n->n.2.length<=1000000000:=fun k n hk=>by have:=(GU.file k n hk).1;omega
    ((conv=>whnf);repeat(any_goals((first|((with_reducible apply NH);(exact cU);(exact Mg);(exact El);(conv=>whnf))|(refine(sU _ rfl).mono ?_;rintro er H6 ⟨jA,HW,ei⟩;have fS:=ei.size;unfold Lg at jA;rw[av wV]at jA;subst jA;have Ck:ax H1 H6:=cD.trans El ei fun y hy e=>by rcases e with rfl|rfl<;>omega)|(refine aE.nZ rfl iF (by first|exact Ck|exact Vc.xt) ?_)|((with_reducible apply tC);(conv=>whnf))|(have:=Ck;rename_i H7 z7 b7 x7;refine(SK (HW.ext x7) GU.sorted (by omega) hPf).mono ?_;rintro _ H8 ⟨⟨a8,c8,fs,rfl,iT,ajZ⟩,gx⟩;have lD:=gx.size)|refine Vc.aq ?_)<;>(intros;(conv=>whnf)))))
    have oP:bu H8 H6.size (fN (p.name,true,none,0,0)).toArray 71:=Go.Vc.bu.ext (c:=(fN (p.name,true,none,0,0)).toArray) b7 gx;have GV:ax H1 H8:=Ck.trans (x7.trans gx);have alc:=GV.size;have ald:=Ck.size;have CW:=iT.row;have ha8:=iT.block;have rM:(mu p.name PL.2).length=PL.2.length+1:=by simp[mu,BM]
    refine dt.intro (fun(x:BoS)=>[(63,.int .i64 x.i),(10,.slice x.a (x.i+1) x.cap)]) (fun x H'=>x.i<=PL.2.length/\cq H' H6.size 71 3 x.a (x.i+1) x.cap (x.fs.flatMap fN)/\(∀ q,x.a=some q->q.block=H6.size\/H8.size<=q.block)/\gE H' x.fs ((mu p.name PL.2).take (x.i+1))/\fw H6.size H8 H') (fun x=>PL.2.length-x.i) ⟨0,[(p.name,true,none,0,0)],some ⟨H6.size,0,none⟩,1⟩ ⟨rfl,rfl,aF⟩ ⟨aI _,⟨rfl,.inr ⟨_,_,rfl,aB _,oP,aB _,by show 1<=maxLen;decide,rfl,rfl⟩⟩,fun q hq=>(by cases hq;exact .inl rfl),⟨⟨rfl,rfl,rfl,cq.nil _ _ _ _⟩,aF⟩,cD.refl _ _⟩ ?_;rintro⟨i,gs,oa,oc⟩ Hi ⟨hi,oD,Ra,Mh,rG⟩;dsimp only at hi oD Ra Mh rG ⊢;have hzi:=rG.size;have P6:ax H1 Hi:=cD.trans GV rG fun y hy e=>by subst e;omega
    have aj0:ax H Hi:=x1.trans P6;by_cases ct:i<PL.2.length
    .obtain⟨x,hx⟩: ∃ x,PL.2[i]? =some x:=⟨_,aD ct⟩;have ic:Row Hi a8 (fs.flatMap fN):=CW.keep rG fun q hq e=>by have:=(ha8 q hq).1;omega
     have aj1:gE Hi fs PL.2:=ajZ.keep rG fun y c e hb=>by subst e;exact absurd (pw hb oP).1 (by decide)
     have CU:=jy GU.sorted.nodup (aU hx);obtain⟨ve,_⟩:=GU.clean _ _ CU;have pH:x.1.length<=200:=by obtain⟨l,e,hl⟩:=ve;rw[e];exact hl.long
     have EP:(ag p.name).size=p.name.length:=rfl;have szX:(ag x.1).size=x.1.length:=rfl;have YY:(⟨#[47]⟩:ByteArray).size=1:=rfl;have jI:(mu p.name PL.2)[i+1]? =some (p.name++47::x.1,x.2):=by
      unfold mu BM;rw[gG,dK,hx];rfl
     ((conv=>whnf);repeat(any_goals((first|(refine cm.sf ic aj1 rfl i x rfl hx ?_;intro bi oi f EZ dp)|((with_reducible apply aE.nr);(exact dp);(exact ax.refl _);(conv=>whnf))|(refine aE.nZ rfl iF (by first|exact P6|(rename_i Ha za ba xa Hb zb bb xb;exact P6.trans (xa.but xb (aB _)))|exact Vc.xt) ?_)|(refine kM.mk ⟨by(simp only[cO,EP,szX,YY];omega),?_⟩)|(rename_i Ha za ba xa Hb zb bb xb Hc zc bc xc Hd zd bd xd;have CX:ax Hi Hd:=((xa.but xb (aB _)).but xc (aB _)).trans xd;have bd':bu Hd Hc.size (fN (p.name++47::x.1,x.2.1,f.2.2.1,x.2.2.length,f.2.2.2.2)).toArray 71:=(by unfold fN;rw[show p.name++47::x.1=(p.name++[47])++x.1 by simp,<-kC,<-kC];exact bd);refine cP.aiJ bd' (oD.ext CX) (by have:=CX.size;omega) (by omega) ⟨_,rfl,fun _ h=>by cases h⟩ ?_;intro a9 c9 H9 kv q8 lz)|refine Vc.aq ?_)<;>(intros;(conv=>whnf)))))
     have ale:=CX.size;have uk:Told Hd (p.name++47::x.1,x.2.1,f.2.2.1,x.2.2.length,f.2.2.2.2) (p.name++47::x.1,x.2):=⟨rfl,rfl,rfl,EZ.own.ext CX⟩;have vC:gE H9 (gs++[(p.name++47::x.1,x.2.1,f.2.2.1,x.2.2.length,f.2.2.2.2)]) ((mu p.name PL.2).take (i+1+1)):=by
      rw[bX,jI];exact(gE.snoc uk (Mh.ext CX)).keep lz (UE (oD.ext CX) (by decide))
     exact⟨⟨i+1,_,a9,c9⟩,⟨rfl,rfl,aF⟩,⟨by show i+1<=PL.2.length;omega,kv,fun q hq=>by
      rcases q8 q hq with e|e
      .exact Ra q (by rw[<-e];exact hq)
      .exact .inr (by omega),vC,cD.trans (rG.ext CX) lz fun y hy ⟨q,hq,e⟩=>by
      rcases Ra q hq with h|h
      .rw[<-e];exact h
      .omega⟩,by show PL.2.length-(i+1)<PL.2.length-i;omega⟩
    .obtain rfl:i=PL.2.length:=by omega
     ((conv=>whnf);repeat(any_goals((first|refine Vc.aq ?_)<;>(intros;(conv=>whnf)))))
     refine⟨⟨oa,oc,gs,.nilIface,by show Value.tuple #[.slice oa (PL.2.length+1) oc,.nilIface]=Value.tuple #[.slice oa (mu p.name PL.2).length oc,.nilIface];rw[rM],?_,?_,?_⟩,aj0⟩
     .show cq Hi H.size _ 3 oa (mu p.name PL.2).length oc _;rw[rM];exact oD.base (by omega)
     .show gE Hi gs (mu p.name PL.2);rw[aL (by omega)]at Mh;exact Mh
     .show pF Hi p.name 0 .nilIface;unfold pF;rw[av rfl]
end Go.Proofs.YtphkaogbcfdllaaGreatDoor
namespace Go.ew
open Go.cN Go.cM
structure Found (R:List iN) (N:List gC) (ks js:List ap) (P:List nU) (c:CT):Prop where
 sol:Yv R N c
 over: ∀ k∈ks,c k=W5 R P k
 best: ∀ d,Yv R N d->(∀ k∈ks,d k=W5 R P k)->(∀ k∈js,c k=d k)\/Wh R js c d
inductive F8 (R:List iN) (N:List gC) (P:List nU):ap->Prop
 |root {n:gC}:n∈N->F8 R N P n.name
 |step {r:iN} {n:gC}:F8 R N P r.name->r∈R->W4 r∈P->n∈r.needs->F8 R N P n.name
end Go.ew
namespace Go.Proofs.YtphkaogbcfdllaaGreatDoor
open Go Go.Vc Go.cN Go.ew
theorem Vq {H:ae} {v:fp} {a:Option Addr} {cap:Nat} (h:v.pre.length<=cap) (hr:Row H a (strs v.pre)):yu H v (mW v a cap):=⟨a,cap,rfl,h,hr⟩
theorem J9 {H:ae} {v:fp} {a:Option Addr} {cap:Nat} (h:v.pre.length<=cap) (hr:Row H a (strs v.pre)):yu H v (.agg #[.int .i64 v.ma,.int .i64 v.mi,.int .i64 v.pa,.slice a v.pre.length cap]):=⟨a,cap,rfl,h,hr⟩
end Go.Proofs.YtphkaogbcfdllaaGreatDoor
namespace Go.Vc
open Go.ChangeShapes Go.WideShapes Go.RowKit
section
variable {H:Type} {enc:TypeId×Value->H} {P:Program}
theorem afw {W W':World} (hs:dC W W') (hx:ax W.heap W'.heap):Below W.heap.size W W':=
 ⟨hs.os,hs.tape,hs.output,hx.size,fun k hk=>hx.same k hk id⟩
theorem RG (hl:laidOutB P=true) {W W':World} (hb:Below W.heap.size W W') {sp:Nat->Bool}: ∀ {ts:List TypeId} {vs:List Value} {ds:List (DataW H)} {ps:List MemPlace},(∀ t∈ts,P.readableRec t=true/\t<P.types.size)->
  DataW.TrodAll enc P W 0 (fun _=>true) true ts vs ds ps->(∀ p∈ps,p.block<W.heap.size)->(∀ p∈ps,sp p.block=true)->DataW.TrodAll enc P W' 0 sp true ts vs ds ps
 |[],[],[],_,_,h,_,_=>h
 |t::ts,v::vs,d::ds,_,hT,⟨p,q,h1,h2,e⟩,ct,hs=>by
  subst e;exact⟨p,q,WideElems.Trod_stays hl (hT t (by simp)).1 (hT t (by simp)).2 h1 (fun x hx=>hb.same (ct x (by simp[hx]))) (fun x hx=>hs x (by simp[hx])),
   RG hl hb (fun t ht=>hT t (by simp[ht])) h2 (fun x hx=>ct x (by simp[hx])) (fun x hx=>hs x (by simp[hx])),rfl⟩
theorem afx {f:Func} {s:ChangeSpec} {apart fresh handsOn again:Bool} {W W':World} {args:Array Value} {ds gs:List (DataW H)} {before:List MemPlace} {tb:TypeId}
  (hW:DataW.Whole enc P f.params.toList s.vars apart W args.toList ds gs before) (hv:s.vars=[]) (hs:s.fn H (ds++gs)={results:=[.lit (.bool true)],args:=ds,vars:=[]})
  (hr:f.resultTypes= #[tb]) (hb:P.underlying tb=some .bool) (hl:laidOutB P=true) (Pn: ∀ t∈f.params.toList,P.readableRec t=true/\t<P.types.size)
  (nQ:dC W W') (hx:ax W.heap W'.heap):s.post enc P f apart fresh handsOn again W args (.bool true) W':=by
 have ct:=hW.lt;have CY:=hW;obtain⟨p,q,hA,hV,rfl,Ql,nW⟩:=hW;rw[hv]at hV;obtain⟨rfl,rfl⟩:=trodVars_none hV;have P7:=afw nQ hx;have Lb:(Value.bool true).resultList f.resultTypes.size=[.bool true]:=by rw[hr];rfl
 have CH: ∀ (b:Nat) (sp:Nat->Bool) (hd:Bool),DataW.TrodAll enc P W' b sp hd f.resultTypes.toList ((Value.bool true).resultList f.resultTypes.size) (s.fn H (ds++[])).results []:=fun b sp hd=>by
  rw[Lb,hr,hs];exact trodAll_cons_mk (shut_bool hb true) trodAll_mk0
 have yk: ∀ x∈p,x.block<W.heap.size:=fun x hx=>ct x (by simp[hx]);have fy: ∀ sp:Nat->Bool,(∀ x∈p,sp x.block=true)->DataW.TrodAll enc P W' 0 sp true f.params.toList args.toList (s.fn H (ds++[])).args p:=fun sp jq=>by
  rw[hs];exact RG hl P7 Pn hA yk jq
 refine⟨ds,[],p++[],[],p,[],CY,CH _ _ _,fy _ (fun x hx=>by simpa using yk x hx),?_,P7.frame _,fun _=>⟨?_,_,[],([]++p)++[],⟨[]++p,[],trodAll_append (fy _ (fun _ _=>rfl)) (CH _ _ _),?_,rfl,?_,?_⟩,?_⟩⟩
 .rw[hv,hs];exact rfl
 .intro j t r hj CZ;rw[Lb]at CZ;rw[hr]at hj
  match j,hj,CZ with
  |0,hj,CZ=>
   simp at hj CZ;subst hj;subst CZ;exact okWide_bool_mk hb true
 .rw[hv];exact rfl
 .intro b off hp;have pN:MemPlace.cell b off∈p:=by simpa using hp
  have Cw:=yk _ pN;rw[P7.frozen (p:=⟨b,off,none⟩) Cw];exact Ql b off (by simpa using pN)
 .intro ha;have:=nW ha;simpa using this
 .intro x hx _;simpa using hx
theorem afy {f:FuncId} {args:Array Value} {W:World} {R:Value->ae->Prop} (hc:(callFunc f args).run P W= .ok (.enter f args) W) (h:az P f args.toList W.heap R):
  Calls P f args W fun e w=>dC W w/\ ∃ v,e= .returned v/\R v w.heap:=by
 have:=h.out W rfl;rw[Array.toArray_toList,hc]at this;exact this.2
theorem NJ {f:FuncId} {fn:Func} {s:ChangeSpec} {apart fresh handsOn again:Bool} {W:World} {args:Array Value} {ds gs:List (DataW H)} {before:List MemPlace} {tb:TypeId}
  (hc:(callFunc f args).run P W= .ok (.enter f args) W) (h:az P f args.toList W.heap fun v H'=>v= .bool true/\ax W.heap H')
  (hW:DataW.Whole enc P fn.params.toList s.vars apart W args.toList ds gs before) (hv:s.vars=[]) (hs:s.fn H (ds++gs)={results:=[.lit (.bool true)],args:=ds,vars:=[]})
  (hr:fn.resultTypes= #[tb]) (hb:P.underlying tb=some .bool) (hl:laidOutB P=true) (Pn:(fn.params.toList.all fun t=>P.readableRec t&&decide (t<P.types.size))=true):
  Calls P f args W fun e W'=>∃ v,e= .returned v/\s.post enc P fn apart fresh handsOn again W args v W':=
 Calls.mono (afy hc h) fun e w' ⟨nQ,v,he,vt,hx⟩=>⟨v,he,vt▸afx hW hv hs hr hb hl (fun t ht=>by simpa using cB.1 Pn t ht) nQ hx⟩
variable {w:World} {base:Nat} {sp:Nat->Bool} {held:Bool}
theorem acj {a:Addr} {v:Value} (h:w.cell? a=some v): ∃ b o,a=⟨b,o,none⟩:=by
 obtain⟨b,o,s⟩:=a;have hs:s=none:=by simpa using World.cell?_spot h
 exact⟨b,o,by rw[hs]⟩
end
end Go.Vc
namespace Go.Vc
open Go.ChangeShapes Go.WideShapes Go.RowKit
section
variable {H:Type} {enc:TypeId×Value->H} {P:Program} {w:World} {base:Nat} {sp:Nat->Bool} {held:Bool}
theorem adW {t e:TypeId} {fuel k:Nat} {cs:List Value} {x:DataW H×List MemPlace} (ht:P.underlying t=some (.slice e)) (hc:P.cellsOf e=k) (hk:0<k)
  (h:DataW.trod enc P w base sp held fuel t cs=some x): ∃ (a:Option Addr) (n cap:Nat) (l:List Value),cs=[.slice a n cap]/\l.length=n*k/\n<=cap/\cap<=maxLen/\Row w.heap a l/\(a=none->cap=0)/\
   ∀ i<n,∃ m y,DataW.trod enc P w base sp held m e ((l.drop (i*k)).take k)=some y:=by
 rcases DataW.trod_slice ht h with ⟨rfl,_⟩|⟨a,len,cap,elems,rest,n,_,rfl,rfl,hb,hl,hm,hlen,vu,jq,Et⟩
 .exact⟨none,0,0,[],rfl,by simp,aB _,aI _,Row.nil _ _,fun _=>rfl,fun i hi=>absurd hi (Nat.not_lt_zero _)⟩
 .have each: ∀ i,i<len-> ∃ vs y,vs.length=k/\(∀ j,j<k->w.cell? (a.add (i*k+j))=vs[j]?)/\DataW.trod enc P w base sp held n e vs=some y:=by
   intro i hi;have:=vu i hi;rw[aD (by omega),hc,Option.bind_eq_some_iff]at this;obtain⟨vs,jo,hy⟩:=this;obtain⟨_,lu,hcell⟩:=World.cells?_some jo;refine⟨vs,_,lu,fun j hj=> ?_,hy⟩;have nk:=hcell j hj;rw[<-nk];by_cases z1:i*k=0<;>by_cases z2:j=0<;>simp[Addr.add,eF,z1,z2]
  let f:Nat->Value:=fun i=>(w.cell? (a.add i)).getD undef
  have hf: ∀ i,i<len*k->w.cell? (a.add i)=some (f i):=fun i hi=>by
   obtain⟨vs,y,h1,h2,_⟩:=each (i / k) ((Nat.div_lt_iff_lt_mul hk).2 hi);have:=h2 (i % k) (eB _ hk);rw[show i / k*k+i % k=i from by rw[Nat.mul_comm];exact Nat.div_add_mod i k,aD (by rw[h1];exact eB _ hk)]at this;simp[f,this]
  refine⟨some a,len,cap,(List.range (len*k)).map f,rfl,by simp,hl,hm,?_,by simp,?_⟩
  .by_cases h0:len*k=0
   .rw[h0];simp[Row.nil]
   .have Ez:=hf 0 (by omega);have e0:a.add 0=a:=by simp[Addr.add]
    rw[e0]at Ez;obtain⟨b,o,rfl⟩:=acj Ez;refine⟨.inr ⟨b,o,rfl,fun j v hv=> ?_⟩⟩;have hj:j<len*k:=by have:=(aH.1 hv).1;simpa using this
    have:=hf j hj;rw[rA]at this;rw[<-vJ,this,<-hv];simp[hj]
  .intro i hi;obtain⟨vs,y,h1,h2,hy⟩:=each i hi;have YZ:i*k+k<=len*k:=by rw[<-iB];exact eZ k hi
   refine⟨n,y,?_⟩;rw[<-hy];congr 1;apply fF;intro j;by_cases hj:j<k
   .have:=h2 j hj;rw[hf _ (by omega)]at this;rw[<-this,dU,av hj,List.getElem?_drop,dK,List.getElem?_range (by omega)];rfl
   .rw[dU,ak hj,dX (by omega)]
theorem UF {k:Nat} (hk:0<k) {Q:List Value->Prop}: ∀ (m:Nat) (vs:List Value),vs.length=m*k->(∀ i<m,Q ((vs.drop (i*k)).take k))-> ∃ L:List (List Value),vs=L.flatten/\L.length=m/\ ∀ c∈L,c.length=k/\Q c
 |0,vs,h,_=>⟨[],by rw[List.flatten_nil];exact bF (by simpa using h),rfl,fun c hc=>by cases hc⟩
 |m+1,vs,h,hq=>by
  obtain⟨L,e,hl,hc⟩:=UF hk (Q:=Q) m (vs.drop k) (by rw[aO,h,fK];omega) fun i hi=>by
   have:=hq (i+1) (by omega);rwa[List.drop_drop,show k+i*k=(i+1)*k by rw[fK];omega]
  refine⟨vs.take k::L,by rw[List.flatten_cons,<-e,dF],by simp[hl],fun c h'=> ?_⟩;rcases aM.1 h' with rfl|h'
  .refine⟨by rw[aJ,h,fK];omega,?_⟩;have:=hq 0 (by omega);simpa using this
  .exact hc c h'
end
end Go.Vc
namespace Go.Proofs.YtphkaogbcfdllaaGreatDoor
open Go Go.Vc Go.cN Go.eg Go.cM Go.ChangeShapes Go.WideShapes Go.RowKit
section
variable {H:Type} {enc:TypeId×Value->H} {w:World} {base:Nat} {sp:Nat->Bool} {held:Bool}
end
end Go.Proofs.YtphkaogbcfdllaaGreatDoor
