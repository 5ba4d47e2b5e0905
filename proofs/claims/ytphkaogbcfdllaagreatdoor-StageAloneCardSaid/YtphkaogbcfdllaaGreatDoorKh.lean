import Derived.Test.YtphkaogbcfdllaaGreatDoorKg
import Derived.Test.YtphkaogbcfdllaaGreatDoorKe
import Derived.Test.YtphkaogbcfdllaaGreatDoorKd
import Derived.Test.YtphkaogbcfdllaaGreatDoorKo
set_option linter.unusedVariables false
set_option linter.unusedSimpArgs false
set_option maxRecDepth 100000
/- Build scripts, the code: a line out of its words, whole. -/
namespace Go.Proofs.YtphkaogbcfdllaaGreatDoor
open Go Go.Vc Go.cN
set_option maxHeartbeats 40000000 in
theorem agw (w:Bs) (ws:List Bs) (a:Option Addr) (n cap:Nat) (H:ae) (hr:Row H a (strs (w::ws))) (hn:(w::ws).length=n) (hc:n<=cap) (hm:n<=1000000000) (cz: ∀ x∈w::ws,x≠ []) (ug: ∀ x∈w::ws,x.length<=1000000000) (hp:BT w=7\/ ∀ x y,ws≠ [x,y]):az Tryz.prog 200 [.slice a n cap] H fun v H'=>KL v (r5 (w::ws))/\ax H H':=by
 subst hn;refine Vc.az.body Tryz.func200 Tryz.call200 rfl (by decide+kernel) rfl ?_;((conv=>whnf);repeat(any_goals(first|(refine Vc.cJ ?_;(conv=>whnf)))))
 refine aE.alloc rfl rfl ?_;intro H1 jr eC cd;((conv=>whnf);repeat(any_goals(first|(refine Vc.AY ?_;(conv=>whnf)))))
 obtain⟨I,hI⟩: ∃ I:Int,(if qv.findIdx (· ==w)<12 then(qv.findIdx (· ==w):Int)else-1)=I:=⟨_,rfl⟩;refine jO.cut (fun(g:Nat)=>[(4,.pointer (some ⟨g,0,none⟩))]) (fun g H'=>H1.size<=g/\bu H' g (py I [] [] [] 0 false) 43/\ax H1 H') ?_ ?_
 .have kb:=fun a H (h:Row H a (strs qv))=>Tf qv w a 12 12 H h rfl (by decide);rw[hI]at kb;have hlen:(w::ws).length=ws.length+1:=rfl;((conv=>whnf);repeat(any_goals((first|(refine cm.fe hr rfl 0 _ rfl rfl ?_;intro _ _ _ _ _)|(refine(U7 _).mono ?_;rintro _ Hk ⟨rfl,pu,wQ⟩;have Yj:=wQ.size)|(refine(kb _ _ (Row.ext pu (by exact Vc.xt))).mono ?_;rintro _ _ ⟨rfl,rfl⟩)|(refine da.xC (py I [] [] [] 0 false) (by kernel_rfl) ?_)|(first|(with_reducible refine Vc.cy.ku (id:=1) mixed ?_)|(with_reducible refine Vc.cg.split (es:=[]) 0 6 (by decide) (by decide) (by decide) ?_ ?_)|(with_reducible refine Vc.cg.split (es:=[(0,6)]) 4 6 (by decide) (by decide) (by decide) ?_ ?_)|(with_reducible refine Vc.cg.held (es:=[(4,6),(0,6)]) [1,2,3,0,4,5,6,7] [(0,[3])] (by decide+kernel) ?_)|(with_reducible refine Vc.cg.held (es:=[(6,4),(0,6)]) [1,2,3,0,6,4,5,7] [(0,[3]),(6,[3])] (by decide+kernel) ?_)|(with_reducible refine Vc.cg.held (es:=[(6,0)]) [1,2,3,6,0,4,5,7] [(6,[3]),(0,[3])] (by decide+kernel) ?_))|((with_reducible refine Vc.cy.held [0,1,2,3,4,5,6,7,8,9] [(7,[5])] mixed (by decide+kernel) ?_))|refine Vc.aq ?_|refine Vc.bz ?_ ?_)<;>(intros;(conv=>whnf)))))
  all_goals exact⟨_,⟨rfl,aF⟩,by omega,by assumption,by exact Vc.xt⟩
 .rintro g H2 ⟨hg,di,bh⟩;have W1:=eC.lt;have ajn:=eC.ext bh;have ajo:=di.lt;have hle:=List.findIdx_le_length (p:=(· ==w)) (xs:=qv);have jQ:qv.length=12:=rfl;have Le:=N8 hr hc;have eR:=cd.size;have dT:=bh.size;obtain⟨K,hK⟩: ∃ K,qv.findIdx (· ==w)=K:=⟨_,rfl⟩;have hK':BT w=K:=hK;rw[hK]at hI hle;rw[jQ]at hle;by_cases h7:K=7
  .subst h7;rw[av (by decide)]at hI;subst hI;have hlen:(w::ws).length=ws.length+1:=rfl;have iz:=Le;have hq:=fun H (h:Row H (jM a cap 1 1) (strs ws))=>adl ws (jM a cap 1 1) ((w::ws).length-1) (cap-1) H h (by omega) (by omega) (by omega) fun x hx=>cz x (by simp[hx]);have oG:r5 (w::ws)=zI ws:=by show(match BT w with|0=>_|1=>_|2=>_|3=>_|4=>_|5=>_|6=>_|7=>_|8=>_|9=>_|10=>_|11=>_|_=>_)=_;rw[hK'];rfl
   rw[oG];cases A4:zI ws with
   |none=>
    rw[A4]at hq;((conv=>whnf);repeat(any_goals((first|(refine cm.fe iz rfl 0 _ rfl rfl ?_;intro _ _ _ _ _)|(refine cm.fe iz rfl 1 _ rfl rfl ?_;intro _ _ _ _ _)|(refine dk.nat 1 rfl (by omega) ?_)|(refine(tt _ (by assumption) _).mono ?_;rintro _ _ ⟨rfl,rfl⟩)|(refine(Dv _ (by assumption) (by omega) _).mono ?_;rintro _ _ ⟨rfl,rfl⟩)|(refine(hq _ (Row.ext iz (by exact Vc.xt))).mono ?_;rintro _ H4 ⟨⟨k4,a4,b4,t4,n4,q4,rfl⟩,cH⟩;have gA:=cH.size)|(first|(with_reducible refine Vc.cy.ku (id:=1) mixed ?_)|(with_reducible refine Vc.cg.split (es:=[]) 0 6 (by decide) (by decide) (by decide) ?_ ?_)|(with_reducible refine Vc.cg.split (es:=[(0,6)]) 4 6 (by decide) (by decide) (by decide) ?_ ?_)|(with_reducible refine Vc.cg.held (es:=[(4,6),(0,6)]) [1,2,3,0,4,5,6,7] [(0,[3])] (by decide+kernel) ?_)|(with_reducible refine Vc.cg.held (es:=[(6,4),(0,6)]) [1,2,3,0,6,4,5,7] [(0,[3]),(6,[3])] (by decide+kernel) ?_)|(with_reducible refine Vc.cg.held (es:=[(6,0)]) [1,2,3,6,0,4,5,7] [(6,[3]),(0,[3])] (by decide+kernel) ?_))|((with_reducible refine Vc.cy.held [0,1,2,3,4,5,6,7,8,9] [(7,[5])] mixed (by decide+kernel) ?_))|refine Vc.aq ?_|refine Vc.bz ?_ ?_)<;>(intros;(conv=>whnf)))))
    exact⟨⟨_,_,_,_,_,_,rfl⟩,by exact Vc.xt⟩
   |some x=>
    rw[A4]at hq;((conv=>whnf);repeat(any_goals((first|(refine cm.fe iz rfl 0 _ rfl rfl ?_;intro _ _ _ _ _)|(refine cm.fe iz rfl 1 _ rfl rfl ?_;intro _ _ _ _ _)|(refine dk.nat 1 rfl (by omega) ?_)|(refine(tt _ (by assumption) _).mono ?_;rintro _ _ ⟨rfl,rfl⟩)|(refine(Dv _ (by assumption) (by omega) _).mono ?_;rintro _ _ ⟨rfl,rfl⟩)|(refine(hq _ (Row.ext iz (by exact Vc.xt))).mono ?_;rintro _ H4 ⟨rfl,cH⟩;have gA:=cH.size)|(first|(with_reducible refine Vc.cy.ku (id:=1) mixed ?_)|(with_reducible refine Vc.cg.split (es:=[]) 0 6 (by decide) (by decide) (by decide) ?_ ?_)|(with_reducible refine Vc.cg.split (es:=[(0,6)]) 4 6 (by decide) (by decide) (by decide) ?_ ?_)|(with_reducible refine Vc.cg.held (es:=[(4,6),(0,6)]) [1,2,3,0,4,5,6,7] [(0,[3])] (by decide+kernel) ?_)|(with_reducible refine Vc.cg.held (es:=[(6,4),(0,6)]) [1,2,3,0,6,4,5,7] [(0,[3]),(6,[3])] (by decide+kernel) ?_)|(with_reducible refine Vc.cg.held (es:=[(6,0)]) [1,2,3,6,0,4,5,7] [(6,[3]),(0,[3])] (by decide+kernel) ?_))|((with_reducible refine Vc.cy.held [0,1,2,3,4,5,6,7,8,9] [(7,[5])] mixed (by decide+kernel) ?_))|refine Vc.aq ?_|refine Vc.bz ?_ ?_)<;>(intros;(conv=>whnf)))))
    exact⟨rfl,by exact Vc.xt⟩
  have ce:K=0\/K=1\/K=2\/K=3\/K=4\/K=5\/K=6\/K=8\/K=9\/K=10\/K=11\/K=12:=by omega
  have iz:=Le;rcases ws with _|⟨x,_|⟨y,_|⟨z,t⟩⟩⟩
  .have hlen:(w::([]:List Bs)).length=0+1:=rfl;have BX:([]:List Bs).length=0:=rfl;rcases ce with rfl|rfl|rfl|rfl|rfl|rfl|rfl|rfl|rfl|rfl|rfl|rfl;all_goals
    (first|rw[av (by decide)]at hI|rw[ak (by decide)]at hI);subst hI
    as_aux_lemma=>
     ((conv=>whnf);repeat(any_goals((first|(refine cm.fe iz rfl 0 _ rfl rfl ?_;intro _ _ _ _ _)|(refine cm.fe iz rfl 1 _ rfl rfl ?_;intro _ _ _ _ _)|(refine dk.nat 1 rfl (by omega) ?_)|(refine(tt _ (by assumption) _).mono ?_;rintro _ _ ⟨rfl,rfl⟩)|(refine(Dv _ (by assumption) (by omega) _).mono ?_;rintro _ _ ⟨rfl,rfl⟩)|(first|(with_reducible refine Vc.cy.ku (id:=1) mixed ?_)|(with_reducible refine Vc.cg.split (es:=[]) 0 6 (by decide) (by decide) (by decide) ?_ ?_)|(with_reducible refine Vc.cg.split (es:=[(0,6)]) 4 6 (by decide) (by decide) (by decide) ?_ ?_)|(with_reducible refine Vc.cg.held (es:=[(4,6),(0,6)]) [1,2,3,0,4,5,6,7] [(0,[3])] (by decide+kernel) ?_)|(with_reducible refine Vc.cg.held (es:=[(6,4),(0,6)]) [1,2,3,0,6,4,5,7] [(0,[3]),(6,[3])] (by decide+kernel) ?_)|(with_reducible refine Vc.cg.held (es:=[(6,0)]) [1,2,3,6,0,4,5,7] [(6,[3]),(0,[3])] (by decide+kernel) ?_))|((with_reducible refine Vc.cy.held [0,1,2,3,4,5,6,7,8,9] [(7,[5])] mixed (by decide+kernel) ?_))|refine Vc.aq ?_|refine Vc.bz ?_ ?_)<;>(intros;(conv=>whnf)))))
     (refine⟨?_,by exact Vc.xt⟩;simp[r5,hK',kW,xY,Ap,Ab,BU,zz];first|rfl|exact⟨_,_,_,_,_,_,rfl⟩)
  .have hlen:(w::([x]:List Bs)).length=1+1:=rfl;have BX:([x]:List Bs).length=1:=rfl;have uq:x≠ []:=cz x (by simp);have rJ:x.length<=1000000000:=ug x (by simp);rcases ce with rfl|rfl|rfl|rfl|rfl|rfl|rfl|rfl|rfl|rfl|rfl|rfl;all_goals try((first|have:=(hK':BT w=3)|have:=(hK':BT w=4)|have:=(hK':BT w=11));cases rQ:p8 x)
   all_goals
    (first|rw[av (by decide)]at hI|rw[ak (by decide)]at hI);subst hI
    as_aux_lemma=>
     ((conv=>whnf);repeat(any_goals((first|(refine cm.fe iz rfl 0 _ rfl rfl ?_;intro _ _ _ _ _)|(refine cm.fe iz rfl 1 _ rfl rfl ?_;intro _ _ _ _ _)|(refine dk.nat 1 rfl (by omega) ?_)|(refine(tt _ (by assumption) _).mono ?_;rintro _ _ ⟨rfl,rfl⟩)|(refine(Dv _ (by assumption) (by omega) _).mono ?_;rintro _ _ ⟨rfl,rfl⟩)|(refine(abL x rJ _).mono ?_;intro _ _ QS;cases A4:vN x<;>(rw[A4]at QS;obtain⟨⟨nn,rfl,CK⟩,rfl⟩:=QS;(try obtain rfl:=CK _ rfl);(conv=>whnf)))|(first|(with_reducible refine Vc.cy.ku (id:=1) mixed ?_)|(with_reducible refine Vc.cg.split (es:=[]) 0 6 (by decide) (by decide) (by decide) ?_ ?_)|(with_reducible refine Vc.cg.split (es:=[(0,6)]) 4 6 (by decide) (by decide) (by decide) ?_ ?_)|(with_reducible refine Vc.cg.held (es:=[(4,6),(0,6)]) [1,2,3,0,4,5,6,7] [(0,[3])] (by decide+kernel) ?_)|(with_reducible refine Vc.cg.held (es:=[(6,4),(0,6)]) [1,2,3,0,6,4,5,7] [(0,[3]),(6,[3])] (by decide+kernel) ?_)|(with_reducible refine Vc.cg.held (es:=[(6,0)]) [1,2,3,6,0,4,5,7] [(6,[3]),(0,[3])] (by decide+kernel) ?_))|((with_reducible refine Vc.cy.held [0,1,2,3,4,5,6,7,8,9] [(7,[5])] mixed (by decide+kernel) ?_))|refine Vc.aq ?_|refine Vc.bz ?_ ?_)<;>(intros;(conv=>whnf)))))
     all_goals(refine⟨?_,by exact Vc.xt⟩;(first|simp[r5,hK',zz,A4]|simp[r5,hK',Ap,BU,rQ]|simp[r5,hK',kW,xY,Ap,Ab,BU,zz]);first|rfl|exact⟨_,_,_,_,_,_,rfl⟩)
  .exact(hp.resolve_left (fun e=>h7 (hK'.symm.trans e)) x y rfl).elim
  .have hlen:(w::(x::y::z::t:List Bs)).length=t.length+3+1:=rfl;have BX:(x::y::z::t:List Bs).length=t.length+3:=rfl;have uq:x≠ []:=cz x (by simp);have rJ:x.length<=1000000000:=ug x (by simp);have Ip:y≠ []:=cz y (by simp);have tZ:y.length<=1000000000:=ug y (by simp);have L0:z≠ []:=cz z (by simp);have hlz:z.length<=1000000000:=ug z (by simp);rcases ce with rfl|rfl|rfl|rfl|rfl|rfl|rfl|rfl|rfl|rfl|rfl|rfl;all_goals
    (first|rw[av (by decide)]at hI|rw[ak (by decide)]at hI);subst hI
    as_aux_lemma=>
     ((conv=>whnf);repeat(any_goals((first|(refine cm.fe iz rfl 0 _ rfl rfl ?_;intro _ _ _ _ _)|(refine cm.fe iz rfl 1 _ rfl rfl ?_;intro _ _ _ _ _)|(refine dk.nat 1 rfl (by omega) ?_)|(refine(tt _ (by assumption) _).mono ?_;rintro _ _ ⟨rfl,rfl⟩)|(refine(Dv _ (by assumption) (by omega) _).mono ?_;rintro _ _ ⟨rfl,rfl⟩)|(first|(with_reducible refine Vc.cy.ku (id:=1) mixed ?_)|(with_reducible refine Vc.cg.split (es:=[]) 0 6 (by decide) (by decide) (by decide) ?_ ?_)|(with_reducible refine Vc.cg.split (es:=[(0,6)]) 4 6 (by decide) (by decide) (by decide) ?_ ?_)|(with_reducible refine Vc.cg.held (es:=[(4,6),(0,6)]) [1,2,3,0,4,5,6,7] [(0,[3])] (by decide+kernel) ?_)|(with_reducible refine Vc.cg.held (es:=[(6,4),(0,6)]) [1,2,3,0,6,4,5,7] [(0,[3]),(6,[3])] (by decide+kernel) ?_)|(with_reducible refine Vc.cg.held (es:=[(6,0)]) [1,2,3,6,0,4,5,7] [(6,[3]),(0,[3])] (by decide+kernel) ?_))|((with_reducible refine Vc.cy.held [0,1,2,3,4,5,6,7,8,9] [(7,[5])] mixed (by decide+kernel) ?_))|refine Vc.aq ?_|refine Vc.bz ?_ ?_)<;>(intros;(conv=>whnf)))))
     (refine⟨?_,by exact Vc.xt⟩;simp[r5,hK',kW,xY,Ap,Ab,BU,zz];first|rfl|exact⟨_,_,_,_,_,_,rfl⟩)
theorem ado (w:Bs) (ws:List Bs) (a:Option Addr) (n cap:Nat) (H:ae) (hr:Row H a (strs (w::ws))) (hn:(w::ws).length=n) (hc:n<=cap) (hm:n<=1000000000) (cz: ∀ x∈w::ws,x≠ []) (ug: ∀ x∈w::ws,x.length<=1000000000):az Tryz.prog 200 [.slice a n cap] H fun v H'=>KL v (r5 (w::ws))/\ax H H':=by
 by_cases hp:BT w=7\/ ∀ x y,ws≠ [x,y]
 .exact agw w ws a n cap H hr hn hc hm cz ug hp
 .obtain⟨h7,h2⟩:=fT.1 hp;rcases ws with _|⟨x,_|⟨y,_|⟨z,t⟩⟩⟩
  .exact(h2 fun _ _ h=>by cases h).elim
  .exact(h2 fun _ _ h=>by cases h).elim
  .exact adn w x y a n cap H hr hn hc hm cz ug h7
  .exact(h2 fun _ _ h=>by cases h).elim
structure wo (H H':ae) (g:Nat) (al:Option Addr) (cl:Nat) (L:List Bs) (out:List Ln) (ao:Option Addr) (co:Nat) (o:List Nat) (a:Option Addr) (cap:Nat):Prop where
 sh:A3 H' H.size g o a cap
 lines:cq H' (g+1) 9 1 al L.length cl (strs L)
 own:cq H' H.size 43 6 ao out.length co (lL out)
 d1:xZ al a
 d2:xZ ao a
 d3:xZ al ao
 d4: ∀ p,ao=some p->p.block≠g
 ext:ax H H'
theorem wo.grow {H H' lG:ae} {g:Nat} {al:Option Addr} {cl:Nat} {L:List Bs} {out:List Ln} {ao:Option Addr} {co:Nat} {o:List Nat} {a:Option Addr} {cap:Nat} (h:wo H H' g al cl L out ao co o a cap) (k:ax H' lG):wo H lG g al cl L out ao co o a cap:=
 ⟨h.sh.ext k,h.lines.ext k,h.own.ext k,h.d1,h.d2,h.d3,h.d4,h.ext.trans k⟩
theorem wo.take {H H' lG:ae} {g:Nat} {al:Option Addr} {cl:Nat} {L:List Bs} {out:List Ln} {ao:Option Addr} {co:Nat} {o o':List Nat} {a a':Option Addr} {cap cS:Nat} (h:wo H H' g al cl L out ao co o a cap) (k:cD (tN g a) H' lG) (hs:A3 lG H.size g o' a' cS) (hf:Gh H' a a'):wo H lG g al cl L out ao co o' a' cS:=by
 have ng: ∀ p,al=some p-> ¬tN g a p.block:=fun p hp hh=>by
  rcases hh with e|⟨q,hq,e⟩
  .have:=(h.lines.block p hp).1;omega
  .exact h.d1 p q hp hq e.symm
 have hao: ∀ p,ao=some p-> ¬tN g a p.block:=fun p hp hh=>by
  rcases hh with e|⟨q,hq,e⟩
  .exact h.d4 p hp e
  .exact h.d2 p q hp hq e.symm
 refine⟨hs,h.lines.keep k ng,h.own.keep k hao,fun p q hp hq e=> ?_,fun p q hp hq e=> ?_,h.d3,h.d4,cD.trans h.ext k fun b hb hh=> ?_⟩
 .rcases hf q hq with e1|e1
  .exact h.d1 p q hp (e1▸hq) e
  .have:=(h.lines.block p hp).2;omega
 .rcases hf q hq with e1|e1
  .exact h.d2 p q hp (e1▸hq) e
  .have:=(h.own.block p hp).2;omega
 .rcases hh with e|⟨q,hq,e⟩
  .have:=h.sh.low;omega
  .have:=(h.sh.own.block q hq).1;omega
theorem wo.push {H H' lG:ae} {g:Nat} {al:Option Addr} {cl:Nat} {L:List Bs} {out:List Ln} {x:Ln} {ao L1:Option Addr} {co Yk:Nat} {o:List Nat} {a:Option Addr} {cap:Nat} (h:wo H H' g al cl L out ao co o a cap) (ho:cq lG H.size 43 6 L1 (out.length+1) Yk (lL out++(qX x).toList)) (k:Wr ao H' lG) (hf: ∀ p,L1=some p->L1=ao\/H'.size<=p.block):wo H lG g al cl L (out++[x]) L1 Yk o a cap:=by
 have e:lL (out++[x])=lL out++(qX x).toList:=by rw[aaV];simp[lL]
 have hb:=h.sh.cL.lt;refine⟨⟨h.sh.cL.keep k fun⟨p,hp,e⟩=>h.d4 p hp e,h.sh.own.keep k fun p hp ⟨q,hq,e⟩=>h.d2 q p hq hp e,h.sh.apart,h.sh.low⟩,h.lines.keep k fun p hp ⟨q,hq,e⟩=>h.d3 p q hp hq e.symm,by rw[e,au];exact ho,h.d1,fun p q hp hq e=> ?_,fun p q hp hq e=> ?_,fun p hp e=> ?_,h.ext.wr h.own (aB _) k⟩
 .rcases hf p hp with e1|e1
  .exact h.d2 p q (e1▸hp) hq e
  .have:=(h.sh.own.block q hq).2;omega
 .rcases hf q hq with e1|e1
  .exact h.d3 p q hp (e1▸hq) e
  .have:=(h.lines.block p hp).2;omega
 .rcases hf p hp with e1|e1
  .exact h.d4 p (e1▸hp) e
  .omega
set_option maxHeartbeats 8000000 in
theorem Tx (s:Bs) (hl:s.length<=10000000) (H:ae):az Tryz.prog 153 [.string (ag s)] H fun v H'=>ahu H' H.size v (iU s)/\ax H H':=by
 have ez:(ag s).size=s.length:=rfl;refine Vc.az.body Tryz.func153 Tryz.call153 rfl (by decide+kernel) rfl ?_;by_cases Au:65536<s.length
 .have e:iU s=(none,0):=by unfold iU;rw[av Au]
  ((conv=>whnf);repeat(any_goals((first|refine Vc.aq ?_|refine Vc.bz ?_ ?_)<;>(intros;(conv=>whnf)))))
  rw[e];exact⟨rfl,ax.refl _⟩
 .have e:iU s=oT (sE s) 0 [] []:=by unfold iU;rw[ak Au]
  rw[e];obtain⟨q,m,hq,hL⟩:=aa1 s;have jq:=fun H=>acQ s 10 (by omega) H;rw[hq]at jq;obtain⟨hLn,yG⟩:=abZ s;generalize sE s=L at*
  have ud:=(Dd 10 s).1;rw[hq,au]at ud;simp only[ay,cu]at ud;have oG:(q++[m]).length=q.length+1:=by simp
  ((conv=>whnf);repeat(any_goals((first|refine Vc.pe ?_|refine Vc.bz ?_ ?_)<;>(intros;(conv=>whnf)))))
  refine Vc.jO.go ?_;((conv=>whnf);repeat(any_goals((first|(refine da.uJ #[.slice none 0 0] (by kernel_rfl) ?_)|(refine(jq _).mono ?_;rintro _ H2 ⟨⟨al,rfl,A9⟩,bh⟩;have dT:=bh.size)|refine Vc.pe ?_|refine Vc.bz ?_ ?_)<;>(intros;(conv=>whnf)))))
  rename_i H1 jr eC cd;have oF:cq H2 H1.size 9 1 al L.length (List.count 10 s+1) (strs L):=by
   rw[hL];by_cases hm:m=[]
   .rw[av hm];have:=A9.cut q.length (by simp);rw[bQ]at this;have e:(strs (q++[m])).take q.length=strs q:=by rw[Jt,List.take_left' (Ff q)]
    rw[e]at this;exact this
   .rw[ak hm];exact A9
  refine jO.cut (fun(_:Unit)=>[(7,.slice al L.length (List.count 10 s+1))]) (fun _ H'=>H2=H') ?_ ?_
  .have oz:=A9.jC;rcases m with _|⟨c,t⟩
   .rw[av rfl]at hL;subst hL;((conv=>whnf);repeat(any_goals((first|(refine dk.nat L.length (by omega) (by omega) ?_)|(refine cm.fe A9.row rfl L.length [] (by omega) (by simp) ?_;intro _ _ _ _ _)|refine Vc.aq ?_)<;>(intros;(conv=>whnf)))))
    exact⟨(),⟨rfl,aF⟩,rfl⟩
   .have cz:=xv c t;rw[ak (by simp)]at hL;subst hL;((conv=>whnf);repeat(any_goals((first|(refine cm.fe A9.row rfl q.length (c::t) (by omega) (by simp) ?_;intro _ _ _ _ _)|refine Vc.aq ?_)<;>(intros;(conv=>whnf)))))
    exact⟨(),⟨rfl,aF⟩,rfl⟩
  .rintro _ _ rfl;obtain⟨R,hR⟩: ∃ R,oT L 0 [] []=R:=⟨_,rfl⟩;rw[hR];((conv=>whnf);repeat(any_goals(first|(refine Vc.cJ ?_;(conv=>whnf)))))
   refine dt.intro (fun(x:PSt)=>[(34,.int .i64 x.i),(5,.slice x.ao x.out.length x.co)]) (fun x H'=>x.i<=L.length/\x.out.length<=200/\x.o.length<=8/\R=oT (L.drop x.i) x.i x.out x.o/\wo H H' H.size al (List.count 10 s+1) L x.out x.ao x.co x.o x.a x.cap) (fun x=>L.length-x.i) ⟨0,[],none,0,[],none,0⟩ ⟨rfl,rfl,aF⟩ ⟨aI _,aI _,aI _,hR.symm,⟨⟨eC.ext bh,cq.nil _ _ _ _,fun p hp=>(by cases hp),aB _⟩,jr▸oF,cq.nil _ _ _ _,fun p q _ hq=>(by cases hq),fun p q hp=>(by cases hp),fun p q _ hq=>(by cases hq),fun p hp=>(by cases hp),cd.trans bh⟩⟩ ?_;rintro⟨i,out,ao,co,o,a,cap⟩ H3 ⟨hi,mG,iT,hinv,rU⟩;dsimp only at hi mG iT hinv rU ⊢;have eJ:=rU.ext.size;have akR:=rU.sh.cL.lt;by_cases ct:i<L.length
   .have hd:L.drop i=L.getD i []::L.drop (i+1):=by
     rw[bP ct,aT,aD ct];rfl
    have iW:L.getD i []∈L:=by
     rw[aT,aD ct];exact List.getElem_mem ct
    have rC:L[i]? =some (L.getD i []):=by rw[aT,aD ct];rfl
    have lx:=yG _ iW;generalize L.getD i []=l at*
    rw[hd,aa2]at hinv;have kB:=fun H=>aaD l (by omega) H;obtain⟨D,hD⟩: ∃ D,l.dropWhile gR=D:=⟨_,rfl⟩;have Yl:=C5 (p:=gR) l;rw[hD]at kB Yl;have jz:=rU.lines.row;cases D with
    |nil=>
     rw[adj hD,av rfl]at hinv;((conv=>whnf);repeat(any_goals((first|(refine cm.fe jz rfl i l rfl rC ?_;intro _ _ _ _ _)|(refine(kB _).mono ?_;rintro _ H4 ⟨rfl,cH⟩;have gA:=cH.size)|refine Vc.aq ?_|refine Vc.bz ?_ ?_)<;>(intros;(conv=>whnf)))))
     exact⟨⟨i+1,out,ao,co,o,a,cap⟩,⟨rfl,rfl,aF⟩,⟨by show i+1<=_;omega,mG,iT,hinv,rU.grow (by exact Vc.xt)⟩,by show L.length-(i+1)<L.length-i;omega⟩
    |cons c t=>
     rw[ab0 hD]at hinv;have cz:=xv c t;have iL:(ag (c::t)).data.toList.getD 0 0=c:=rfl;have akS:(ag (c::t)).size=t.length+1:=rfl;simp only[ay]at Yl;by_cases QT:c=35
     .subst QT;rw[show((35:UInt8)==35)=true from rfl,av rfl]at hinv;((conv=>whnf);repeat(any_goals((first|(refine cm.fe jz rfl i l rfl rC ?_;intro _ _ _ _ _)|(refine(kB _).mono ?_;rintro _ H4 ⟨rfl,cH⟩;have gA:=cH.size)|(refine db.nat 0 rfl (by omega) ?_;(conv=>whnf);rw[iL])|refine Vc.aq ?_|refine Vc.bz ?_ ?_)<;>(intros;(conv=>whnf)))))
      exact⟨⟨i+1,out,ao,co,o,a,cap⟩,⟨rfl,rfl,aF⟩,⟨by show i+1<=_;omega,mG,iT,hinv,rU.grow (by exact Vc.xt)⟩,by show L.length-(i+1)<L.length-i;omega⟩
     .have n35:=vT 35 (by decide) QT;rw[ak (by simpa using QT)]at hinv;have hw:=fun H=>acZ (c::t) (by simp only[ay];omega) H;rw[show li (c::t)=li l by rw[<-hD,MS]]at hw;cases lP:li l with
      |none=>
       rw[lP]at hw hinv;dsimp only at hinv;((conv=>whnf);repeat(any_goals((first|(refine cm.fe jz rfl i l rfl rC ?_;intro _ _ _ _ _)|(refine(kB _).mono ?_;rintro _ H4 ⟨rfl,cH⟩;have gA:=cH.size)|(refine db.nat 0 rfl (by omega) ?_;(conv=>whnf);rw[iL])|(refine(hw _).mono ?_;rintro _ H5 ⟨rfl,cE⟩;have ij:=cE.size)|refine Vc.aq ?_|refine Vc.bz ?_ ?_)<;>(intros;(conv=>whnf)))))
       exact⟨by rw[hinv];rfl,rU.ext.trans (by exact Vc.xt)⟩
      |some ws=>
       obtain⟨CF,pO⟩:=abX lP;rcases abY hD with h0|⟨w,wt,h0⟩
       .rw[lP]at h0;cases h0
       .rw[lP]at h0;cases h0;rw[lP]at hw hinv;dsimp only at hinv;have wS:=fun H a cap (hr:Row H a (strs ((c::w)::wt))) (hc:((c::w)::wt).length<=cap)=>ado (c::w) wt a _ cap H hr rfl hc (by omega) (fun x hx=>(pO x hx).1) (fun x hx=>by have:=(pO x hx).2;omega);cases oG:r5 ((c::w)::wt)with
        |none=>
         rw[oG]at wS hinv;dsimp only at hinv;((conv=>whnf);repeat(any_goals((first|(refine cm.fe jz rfl i l rfl rC ?_;intro _ _ _ _ _)|(refine(kB _).mono ?_;rintro _ H4 ⟨rfl,cH⟩;have gA:=cH.size)|(refine db.nat 0 rfl (by omega) ?_;(conv=>whnf);rw[iL])|(refine(hw _).mono ?_;rintro _ H5 ⟨⟨aw,cw,rfl,how⟩,cE⟩;have ij:=cE.size;have sZ:=how.row;have Iq:=how.jC)|(refine(wS _ _ _ sZ Iq).mono ?_;rintro _ H6 ⟨⟨k6,a6,b6,t6,n6,q6,rfl⟩,cV⟩;have fS:=cV.size)|refine Vc.aq ?_|refine Vc.bz ?_ ?_)<;>(intros;(conv=>whnf)))))
         exact⟨by rw[hinv];rfl,rU.ext.trans (by exact Vc.xt)⟩
        |some x=>
         rw[oG]at wS hinv;dsimp only at hinv;by_cases Cd:out.length=200
         .rw[av Cd]at hinv;((conv=>whnf);repeat(any_goals((first|(refine cm.fe jz rfl i l rfl rC ?_;intro _ _ _ _ _)|(refine(kB _).mono ?_;rintro _ H4 ⟨rfl,cH⟩;have gA:=cH.size)|(refine db.nat 0 rfl (by omega) ?_;(conv=>whnf);rw[iL])|(refine(hw _).mono ?_;rintro _ H5 ⟨⟨aw,cw,rfl,how⟩,cE⟩;have ij:=cE.size;have sZ:=how.row;have Iq:=how.jC)|(refine(wS _ _ _ sZ Iq).mono ?_;rintro _ H6 ⟨rfl,cV⟩;have fS:=cV.size)|refine Vc.aq ?_|refine Vc.bz ?_ ?_)<;>(intros;(conv=>whnf)))))
          exact⟨by rw[hinv];rfl,rU.ext.trans (by exact Vc.xt)⟩
         .rw[ak Cd]at hinv;((conv=>whnf);repeat(any_goals((first|(refine cm.fe jz rfl i l rfl rC ?_;intro _ _ _ _ _)|(refine(kB _).mono ?_;rintro _ H4 ⟨rfl,cH⟩;have gA:=cH.size)|(refine db.nat 0 rfl (by omega) ?_;(conv=>whnf);rw[iL])|(refine(hw _).mono ?_;rintro _ H5 ⟨⟨aw,cw,rfl,how⟩,cE⟩;have ij:=cE.size;have sZ:=how.row;have Iq:=how.jC)|(refine(wS _ _ _ sZ Iq).mono ?_;rintro _ H6 ⟨rfl,cV⟩;have fS:=cV.size)|refine Vc.aq ?_|refine Vc.bz ?_ ?_)<;>(intros;(conv=>whnf)))))
          rename_i H7 EO uj dq H8 L2 qC gx;have Aw:ax H3 H8:=by exact Vc.xt
          have Ir:=rU.grow Aw;have lD:=Aw.size;have tk:=aeI Ir.sh iT Ir.ext.size (k:=x.k);have qt: ¬tN H.size a H6.size:=fun h=>by
           rcases h with e|⟨p,hp,e⟩
           .omega
           .have:=(rU.sh.own.block p hp).2;omega
          cases wT:mS o x.k with
          |none=>
           rw[wT]at tk hinv;simp only[Option.isSome_none]at tk;((conv=>whnf);repeat(any_goals((first|(refine tk.mono ?_;rintro _ H9 ⟨rfl,_,kv⟩)|refine Vc.aq ?_|refine Vc.bz ?_ ?_)<;>(intros;(conv=>whnf)))))
           refine⟨by rw[hinv];rfl,cD.trans Ir.ext kv fun b hb hf=> ?_⟩;rcases hf with e|⟨p,hp,e⟩
           .omega
           .have:=(Ir.sh.own.block p hp).1;omega
          |some o'=>
           rw[wT]at tk hinv;simp only[Option.isSome_some]at tk;((conv=>whnf);repeat(any_goals((first|(refine tk.mono ?_;rintro _ H9 ⟨rfl,vw,kv⟩;obtain⟨a',cS,vw,eA⟩:=vw o' rfl;have Ym:=Ir.take kv vw eA;have q8:=qC.keep kv qt;have ly:=Ym.ext.size)|refine Vc.aq ?_|refine Vc.bz ?_ ?_)<;>(intros;(conv=>whnf)))))
           rename_i HA hsA hbA L3;have QU:=Ym.grow L3;refine cP.append (i:=Tryz.t43) (z:= .agg (py 0 [] [] [] 0 false)) (base:=H.size) rfl ⟨_,rfl,fun _ h=>by cases h⟩ rfl rfl rfl QU.own (Src.row (c:=1) (bu.row (c:=(qX x).toList) hbA) rfl (by simp[qX,py,jt])) (by unfold maxLen;omega) (by show(out.length+1)*72<=_;omega) QU.ext.size ?_;intro a8 c8 HB L5 hwB hnB;((conv=>whnf);repeat(any_goals((first|refine Vc.aq ?_)<;>(intros;(conv=>whnf)))))
           refine⟨⟨i+1,out++[x],a8,c8,o',a',cS⟩,⟨rfl,by show Value.slice a8 (out.length+1) c8=Value.slice a8 (out++[x]).length c8;rw[au];rfl,aF⟩,⟨by show i+1<=_;omega,by show(out++[x]).length<=200;rw[au];show out.length+1<=200;omega,adk wT iT,hinv,QU.push L5 hwB hnB⟩,by show L.length-(i+1)<L.length-i;omega⟩
   .rw[aV (by omega)]at hinv;have sn:=rU.sh.cL;rw[oT]at hinv;cases o with
    |nil=>
     rw[av rfl]at hinv;have hz0:([]:List Nat).length=0:=rfl;((conv=>whnf);repeat(any_goals((first|refine Vc.aq ?_|refine Vc.bz ?_ ?_)<;>(intros;(conv=>whnf)))))
     rw[hinv];exact⟨⟨ao,co,rfl,rU.own⟩,rU.ext⟩
    |cons k o=>
     rw[ak (by simp)]at hinv;have hz0:(k::o).length=o.length+1:=rfl;((conv=>whnf);repeat(any_goals((first|refine Vc.aq ?_|refine Vc.bz ?_ ?_)<;>(intros;(conv=>whnf)))))
     rw[hinv];exact⟨rfl,rU.ext⟩
end Go.Proofs.YtphkaogbcfdllaaGreatDoor
namespace Go.ew
open Go.cN Go.cM
structure kr {α:Type} (f:α->α->Int):Prop where
 wU: ∀ a b,f a b= -1\/f a b=0\/f a b=1
 neg: ∀ a b,f b a= -f a b
 eq: ∀ a b,f a b=0↔a=b
 tr: ∀ a b c,f a b= -1->f b c= -1->f a c= -1
theorem kr.refl {α:Type} {f:α->α->Int} (h:kr f) (a:α):f a a=0:=(h.eq a a).2 rfl
theorem kr.gt {α:Type} {f:α->α->Int} (h:kr f) {a b:α}:f a b=1↔f b a= -1:=by
 have:=h.neg a b;constructor<;>intro e<;>omega
def jn (a b:Int):Int:=if a<b then-1 else if b<a then 1 else 0
theorem BF:kr jn where
 wU a b:=by unfold jn;(repeat' split)<;>simp
 neg a b:=by unfold jn;(repeat' split)<;>omega
 eq a b:=by unfold jn;(repeat' split)<;>omega
 tr a b c h1 h2:=by
  unfold jn at h1 h2 ⊢;have k1:a<b:=by
   (repeat' split at h1)<;>omega
  have k2:b<c:=by
   (repeat' split at h2)<;>omega
  rw[av (by omega)]
theorem air {a b:ap} (h:Op.bytesLess a b=true):Op.bytesLess b a=false:=by
 cases hb:Op.bytesLess b a
 .rfl
 .exact absurd rfl (r7 (lt_trans h hb))
def rE (a b:ap):Int:=if Op.bytesLess a b=true then-1 else if Op.bytesLess b a=true then 1 else 0
theorem FW {a b:ap}:rE a b= -1↔Op.bytesLess a b=true:=by
 unfold rE;by_cases h:Op.bytesLess a b=true
 .simp[h]
 .by_cases h2:Op.bytesLess b a=true<;>simp[h,h2]
theorem N9:kr rE where
 wU a b:=by unfold rE;(repeat' split)<;>simp
 neg a b:=by
  unfold rE;by_cases h:Op.bytesLess a b=true
  .simp[h,air h]
  .by_cases h2:Op.bytesLess b a=true<;>simp[h,h2]
 eq a b:=by
  unfold rE;by_cases h:Op.bytesLess a b=true
  .simp[h,r7 h]
  .by_cases h2:Op.bytesLess b a=true
   .simp[h,h2,(r7 h2).symm]
   .rw[ak h,ak h2];refine⟨fun _=> ?_,fun _=>rfl⟩;by_cases e:a=b
    .exact e
    .exact absurd (xG (by simpa using h) e) h2
 tr a b c h1 h2:=FW.2 (lt_trans (FW.1 h1) (FW.1 h2))
def qk {α β:Type} (f:α->α->Int) (g:β->β->Int) (x y:α×β):Int:=if f x.1 y.1=0 then g x.2 y.2 else f x.1 y.1
theorem kr.lex {α β:Type} {f:α->α->Int} {g:β->β->Int} (hf:kr f) (hg:kr g):kr (qk f g) where
 wU x y:=by
  unfold qk;split
  .exact hg.wU _ _
  .exact hf.wU _ _
 neg x y:=by
  unfold qk;have h:=hf.neg x.1 y.1;by_cases e:f x.1 y.1=0
  .rw[av e,av (by omega)];exact hg.neg _ _
  .rw[ak e,ak (by omega)];exact h
 eq x y:=by
  unfold qk;by_cases e:f x.1 y.1=0
  .rw[av e,hg.eq];exact⟨fun h=>Prod.ext ((hf.eq _ _).1 e) h,fun h=>by rw[h]⟩
  .rw[ak e];exact⟨fun h=>absurd h e,fun h=>by subst h;exact absurd ((hf.eq _ _).2 rfl) e⟩
 tr x y z h1 h2:=by
  unfold qk at h1 h2 ⊢;by_cases e1:f x.1 y.1=0
  .have k1:=(hf.eq _ _).1 e1;rw[av e1]at h1;rw[k1];by_cases e2:f y.1 z.1=0
   .rw[av e2]at h2 ⊢;exact hg.tr _ _ _ h1 h2
   .rw[ak e2]at h2 ⊢;exact h2
  .rw[ak e1]at h1;by_cases e2:f y.1 z.1=0
   .have k2:=(hf.eq _ _).1 e2;rw[<-k2,ak e1];exact h1
   .rw[ak e2]at h2;have:=hf.tr _ _ _ h1 h2;rw[ak (by omega)];exact this
def lW {α:Type} (f:α->α->Int):List α->List α->Int
 |[],[]=>0
 |[],_::_=> -1
 |_::_,[]=>1
 |a::l,b::m=>if f a b=0 then lW f l m else f a b
theorem kr.list {α:Type} {f:α->α->Int} (hf:kr f):kr (lW f) where
 wU x:=by
  induction x with
  |nil=>intro y;cases y<;>simp[lW]
  |cons a l ih=>
   intro y;cases y with
   |nil=>simp[lW]
   |cons b m=>
    unfold lW;split
    .exact ih m
    .exact hf.wU _ _
 neg x:=by
  induction x with
  |nil=>intro y;cases y<;>simp[lW]
  |cons a l ih=>
   intro y;cases y with
   |nil=>simp[lW]
   |cons b m=>
    have h:=hf.neg a b;unfold lW;by_cases e:f a b=0
    .rw[av e,av (by omega)];exact ih m
    .rw[ak e,ak (by omega)];exact h
 eq x:=by
  induction x with
  |nil=>intro y;cases y<;>simp[lW]
  |cons a l ih=>
   intro y;cases y with
   |nil=>simp[lW]
   |cons b m=>
    unfold lW;by_cases e:f a b=0
    .rw[av e,ih m,(hf.eq _ _).1 e];simp
    .rw[ak e];exact⟨fun h=>absurd h e,fun h=>by cases h;exact absurd ((hf.eq _ _).2 rfl) e⟩
 tr x:=by
  induction x with
  |nil=>
   intro y z h1 h2;cases z with
   |nil=>cases y<;>simp[lW]at h1 h2
   |cons c n=>rfl
  |cons a l ih=>
   intro y z h1 h2;cases y with
   |nil=>simp[lW]at h1
   |cons b m=>
    cases z with
    |nil=>simp[lW]at h2
    |cons c n=>
     unfold lW at h1 h2 ⊢;by_cases e1:f a b=0
     .have k1:=(hf.eq _ _).1 e1;rw[av e1]at h1;rw[k1];by_cases e2:f b c=0
      .rw[av e2]at h2 ⊢;exact ih _ _ h1 h2
      .rw[ak e2]at h2 ⊢;exact h2
     .rw[ak e1]at h1;by_cases e2:f b c=0
      .have k2:=(hf.eq _ _).1 e2;rw[<-k2,ak e1];exact h1
      .rw[ak e2]at h2;have:=hf.tr _ _ _ h1 h2;rw[ak (by omega)];exact this
theorem kr.map {α β:Type} {f:α->α->Int} (hf:kr f) (g:β->α) (hg: ∀ a b,g a=g b->a=b):kr (fun a b=>f (g a) (g b)) where
 wU a b:=hf.wU _ _
 neg a b:=hf.neg _ _
 eq a b:=⟨fun h=>hg _ _ ((hf.eq _ _).1 h),fun h=>by rw[h];exact hf.refl _⟩
 tr a b c h1 h2:=hf.tr _ _ _ h1 h2
def nB (c:UInt8):Bool:=decide (48<=c.toNat/\c.toNat<=57)
def mr (s:ap):Bool:=decide (s≠ [])&&s.all nB
def KM (s:ap):Int×Int×ap:=(if mr s then 0 else 1,if mr s then s.length else 0,s)
def qd (a b:ap):Int:=qk jn (qk jn rE) (KM a) (KM b)
theorem aeZ:kr qd:=(BF.lex (BF.lex N9)).map KM fun a b h=>by
 have:=aZ (fun x:Int×Int×ap=>x.2.2) h;exact this
structure fp where
 ma:Nat
 mi:Nat
 pa:Nat
 pre:List ap
deriving DecidableEq
def GF (v:fp):Int×Int×Int×Int×List ap:=(v.ma,v.mi,v.pa,if v.pre=[]then 1 else 0,v.pre)
def pD (a b:fp):Int:=qk jn (qk jn (qk jn (qk jn (lW qd)))) (GF a) (GF b)
theorem agx:kr pD:=(BF.lex (BF.lex (BF.lex (BF.lex aeZ.list)))).map GF fun a b h=>by
 cases a;cases b;simp only[GF,Prod.mk.injEq,Int.ofNat_inj]at h;obtain⟨h1,h2,h3,_,h4⟩:=h;subst h1;subst h2;subst h3;subst h4;rfl
structure oZ where
 sign:ap
 v:fp
deriving DecidableEq
structure Ax where
 any:Bool
 qF:List (List oZ)
deriving DecidableEq
def ahz (b:oZ) (v:fp):Bool:=
 if b.sign=[61]then decide (pD v b.v=0)
 else if b.sign=[60]then decide (pD v b.v<0)
 else if b.sign=[60,61]then decide (pD v b.v<=0)
 else if b.sign=[62]then decide (0<pD v b.v)
 else if b.sign=[62,61]then decide (0<=pD v b.v)
 else false
def ais (b:oZ) (v:fp):Bool:=decide (b.v.pre≠ [])&&decide (b.v.ma=v.ma)&&decide (b.v.mi=v.mi)&&decide (b.v.pa=v.pa)
def ajp (s:Ax) (v:fp):Bool:=
 if s.any=true then decide (v.pre=[])else s.qF.any fun l=>l.all (fun b=>ahz b v)&&(decide (v.pre=[]) || l.any fun b=>ais b v)
structure gC where
 name:ap
 span:Ax
 text:ap
deriving DecidableEq
structure iN where
 name:ap
 v:fp
 sum:ap
 size:Int
 needs:List gC
deriving DecidableEq
structure nU where
 name:ap
 v:fp
 sum:ap
deriving DecidableEq
end Go.ew
namespace Go.cN
end Go.cN
namespace Go.Proofs.YtphkaogbcfdllaaGreatDoor
open Go Go.Vc Go.cN
theorem da.F5 {P:Program} {t:TypeId} {l:List Nat} {v v':Value} {K:Value->Prop} (cells:Array Value) (h:P.built t (l.zip [v,v'])=some cells) (hk:K (.agg cells)):da P (Instr.build t (l.zip [v,v']).toArray) K:=
 da.build cells h hk
theorem da.F6 {P:Program} {t:TypeId} {l:List Nat} {v v' Is:Value} {K:Value->Prop} (cells:Array Value) (h:P.built t (l.zip [v,v',Is])=some cells) (hk:K (.agg cells)):da P (Instr.build t (l.zip [v,v',Is]).toArray) K:=
 da.build cells h hk
end Go.Proofs.YtphkaogbcfdllaaGreatDoor
namespace Go.cN
def vZ (eE:ap):List ap->List ap
 |[]=>[eE]
 |w::l=>(eE++w)::l
theorem Ty (l:List ap) (h:l≠ []):vZ [] l=l:=by cases l with|nil=>exact absurd rfl h|cons w l=>rfl
theorem ab1 {c x:UInt8} (h:x≠c) (eE t:ap):vZ eE (dj c (x::t))=vZ (eE++[x]) (dj c t):=by
 rw[dj,ak h];cases dj c t with
 |nil=>rfl
 |cons w l=>simp[vZ]
theorem adp (c:UInt8) (eE t:ap):vZ eE (dj c (c::t))=eE::dj c t:=by
 rw[dj,av rfl];simp[vZ]
def mid (l:ap) (a b:Nat):ap:=(l.drop a).take (b-a)
theorem Oa (l:ap) (a:Nat):mid l a a=[]:=by simp[mid]
theorem Uk {l:ap} {a b:Nat} {c:UInt8} {t:ap} (Ho:a<=b) (h:l.drop b=c::t):mid l a (b+1)=mid l a b++[c]:=by
 unfold mid;have e:b+1-a=(b-a)+1:=by omega
 have h2:(l.drop a).drop (b-a)=c::t:=by rw[List.drop_drop,show a+(b-a)=b by omega];exact h
 rw[e,bX];congr 1;have:=aZ (·[0]?) h2;simp only[List.getElem?_drop,dB]at this;simp only[List.getElem?_drop];have h3:(0:Nat)+(a+(b-a))=a+(b-a):=by omega
 simp at this;simp[this]
end Go.cN
namespace Go.Proofs.YtphkaogbcfdllaaGreatDoor
open Go Go.Vc Go.cN
structure Yn where
 i:Nat
 fr:Nat
 out:List Bs
 a:Option Addr
 cap:Nat
def DL (s:Bs) (c:UInt8) (x:Yn):List Bs:=if x.i<=s.length then x.out++vZ (mid s x.fr x.i) (dj c (s.drop x.i))else x.out
set_option maxHeartbeats 4000000 in
theorem Nc (s:Bs) (c:UInt8) (hl:s.length<=100000000) (H:ae):az Tryz.prog 94 [.string (ag s),.int .u8 c.toNat] H fun v H'=>(∃ a cap,v= .slice a (dj c s).length cap/\cq H' H.size 9 1 a (dj c s).length cap (strs (dj c s)))/\ax H H':=by
 obtain⟨S,hS⟩: ∃ S,dj c s=S:=⟨_,rfl⟩;rw[hS];have ez:(ag s).size=s.length:=rfl;refine Vc.az.body Tryz.func94 Tryz.call94 rfl (by decide+kernel) rfl ?_;((conv=>whnf);repeat(any_goals(first|(refine Vc.cJ ?_;(conv=>whnf)))))
 refine dt.intro (fun(x:Yn)=>[(7,.int .i64 x.i),(6,.int .i64 x.fr),(5,.slice x.a x.out.length x.cap)]) (fun x H'=>x.i<=s.length+1/\x.fr<=x.i/\x.out.length<=x.i/\S=DL s c x/\cq H' H.size 9 1 x.a x.out.length x.cap (strs x.out)/\ax H H') (fun x=>s.length+1-x.i) ⟨0,0,[],none,0⟩ ⟨rfl,rfl,rfl,aF⟩ ⟨aI _,aB _,aB _,?_,cq.nil _ _ _ _,ax.refl _⟩ ?_
 .unfold DL;rw[av (aI _)];show S=vZ [] (dj c s);rw[Ty _ (JU c s),hS]
 rintro⟨i,fr,out,a,cap⟩ H2 ⟨hi,eA,j5,hinv,dy,bh⟩;dsimp only at hi eA j5 hinv dy ⊢;unfold DL at hinv;dsimp only at hinv;have Yo:(ag s).extract fr i=ag (mid s fr i):=xA _ _ _;by_cases hle:i<=s.length
 .rw[av hle]at hinv;by_cases ct:i<s.length
  .obtain⟨d,hd,pM⟩:=pX ct;rw[pM]at hinv;by_cases Ba:d=c
   .subst Ba;rw[adp]at hinv;((conv=>whnf);repeat(any_goals((first|(refine db.nat i rfl (by omega) ?_;(conv=>whnf);rw[hd])|(refine dk.nat fr rfl (by omega) ?_)|(refine dk.nat i rfl (by omega) ?_)|refine Vc.aq ?_|refine Vc.bz ?_ ?_)<;>(intros;(conv=>whnf)))))
    rename_i H5 qD im cE a6 c6 H6 ei cV;refine⟨⟨i+1,i+1,out++[mid s fr i],a6,c6⟩,⟨rfl,rfl,uF _ _ _ _,aF⟩,⟨by show i+1<=_;omega,aB _,by show(out++[_]).length<=i+1;simp;omega,?_,tp Yo ei,cV⟩,by show s.length+1-(i+1)<s.length+1-i;omega⟩;unfold DL;rw[av (show i+1<=s.length by omega),hinv];show _=(out++[mid s fr i])++vZ (mid s (i+1) (i+1)) (dj d (s.drop (i+1)));rw[Oa,Ty _ (JU _ _)];simp
   .have cz:d.toNat≠c.toNat:=fun e=>Ba (dJ.1 e);rw[ab1 Ba,<-Uk eA pM]at hinv;((conv=>whnf);repeat(any_goals((first|(refine db.nat i rfl (by omega) ?_;(conv=>whnf);rw[hd])|refine Vc.aq ?_|refine Vc.bz ?_ ?_)<;>(intros;(conv=>whnf)))))
    refine⟨⟨i+1,fr,out,a,cap⟩,⟨rfl,rfl,rfl,aF⟩,⟨by show i+1<=_;omega,by show fr<=i+1;omega,by show out.length<=i+1;omega,?_,dy,bh⟩,by show s.length+1-(i+1)<s.length+1-i;omega⟩;unfold DL;rw[av (show i+1<=s.length by omega),hinv]
  .have yH:i=s.length:=by omega
   subst yH;rw[aV (by omega)]at hinv;((conv=>whnf);repeat(any_goals((first|(refine dk.nat fr rfl (by omega) ?_)|(refine dk.nat s.length rfl (by omega) ?_)|refine Vc.aq ?_|refine Vc.bz ?_ ?_)<;>(intros;(conv=>whnf)))))
   rename_i H5 qD im cE a6 c6 H6 ei cV;refine⟨⟨s.length+1,s.length+1,out++[mid s fr s.length],a6,c6⟩,⟨rfl,rfl,uF _ _ _ _,aF⟩,⟨aB _,aB _,by show(out++[_]).length<=s.length+1;simp;omega,?_,tp Yo ei,cV⟩,by show s.length+1-(s.length+1)<s.length+1-s.length;omega⟩;unfold DL;rw[ak (show ¬s.length+1<=s.length by omega),hinv];show _=out++[mid s fr s.length];unfold dj vZ;simp
 .rw[ak hle]at hinv;((conv=>whnf);repeat(any_goals((first|refine Vc.aq ?_|refine Vc.bz ?_ ?_)<;>(intros;(conv=>whnf)))))
  rw[hinv];exact⟨⟨a,cap,rfl,dy⟩,bh⟩
end Go.Proofs.YtphkaogbcfdllaaGreatDoor
namespace Go.ew
open Go.cN
theorem ahA {c:UInt8} (h1:48<=c.toNat) (h2:c.toNat<=57):nB c=true:=by unfold nB;rw[aK];exact⟨h1,h2⟩
theorem VH {c:UInt8} (h:c.toNat<48\/57<c.toNat):nB c=false:=by unfold nB;rw[aY];omega
def Ce:Nat->ap->Nat
 |n,[]=>n
 |n,c::t=>Ce (10*n+(c.toNat-48)) t
def oB (most:Nat) (s:ap):Option Nat:=if mr s=true/\(s.length<=1\/s.head? ≠some 48)/\s.length<=10/\Ce 0 s<=most then some (Ce 0 s)else none
def Ad (c:UInt8):Bool:=decide (97<=c.toNat/\c.toNat<=122) || decide (65<=c.toNat/\c.toNat<=90) || nB c || decide (c.toNat=45)
def sI (s:ap):Bool:=decide (1<=s.length)&&decide (s.length<=16)&&s.all Ad&&(!mr s || decide (s=[48]) || decide (s.head? ≠some 48))
theorem Tz (c:UInt8):Ad c=true↔(97<=c.toNat/\c.toNat<=122)\/(65<=c.toNat/\c.toNat<=90)\/(48<=c.toNat/\c.toNat<=57)\/c.toNat=45:=by
 unfold Ad nB;simp only[dz,aK,or_assoc]
end Go.ew
namespace Go.Proofs.YtphkaogbcfdllaaGreatDoor
open Go Go.Vc Go.cN Go.ew
theorem Jy (s:Bs) (hl:s.length<=1000000000) (H:ae):az Tryz.prog 158 [.string (ag s)] H fun v H'=>v= .bool (mr s)/\H=H':=by
 have ez:(ag s).size=s.length:=rfl;refine Vc.az.body Tryz.func158 Tryz.call158 rfl (by decide+kernel) rfl ?_;((conv=>whnf);repeat(any_goals((first|refine Vc.aq ?_)<;>(intros;(conv=>whnf)))))
 refine dt.intro (fun(i:Nat)=>[(3,.int .i64 i)]) (fun i H'=>H=H'/\i<=s.length/\s.all nB=(s.drop i).all nB) (fun i=>s.length-i) 0 ⟨rfl,aF⟩ ⟨rfl,aI _,rfl⟩ ?_;rintro i _ ⟨rfl,hi,hinv⟩;by_cases ct:i<s.length
 .obtain⟨c,hc,hd⟩:=pX ct;rw[hd,List.all_cons]at hinv;have wJ:=c.toNat_lt;by_cases h1:c.toNat<48
  .rw[VH (.inl h1),Bool.false_and]at hinv;((conv=>whnf);repeat(any_goals((first|(refine db.nat i rfl (by omega) ?_;(conv=>whnf);rw[hc])|refine Vc.aq ?_)<;>(intros;(conv=>whnf)))))
   exact⟨by unfold mr;rw[hinv,Bool.and_false];rfl,rfl⟩
  by_cases h2:57<c.toNat
  .rw[VH (.inr h2),Bool.false_and]at hinv;((conv=>whnf);repeat(any_goals((first|(refine db.nat i rfl (by omega) ?_;(conv=>whnf);rw[hc])|refine Vc.aq ?_)<;>(intros;(conv=>whnf)))))
   exact⟨by unfold mr;rw[hinv,Bool.and_false];rfl,rfl⟩
  .rw[ahA (by omega) (by omega),Bool.true_and]at hinv;((conv=>whnf);repeat(any_goals((first|(refine db.nat i rfl (by omega) ?_;(conv=>whnf);rw[hc])|refine Vc.aq ?_)<;>(intros;(conv=>whnf)))))
   exact⟨i+1,⟨rfl,aF⟩,⟨rfl,by omega,hinv⟩,by omega⟩
 .rw[aV (by omega),List.all_nil]at hinv;cases s with
  |nil=>
   ((conv=>whnf);repeat(any_goals((first|refine Vc.aq ?_)<;>(intros;(conv=>whnf)))))
   exact⟨by show Value.bool (!((ag []).toList==(ag []).toList))=_;rw[eD];rfl,rfl⟩
  |cons c t=>
   have cz:=xv c t;have A0:mr (c::t)=true:=by unfold mr;rw[hinv];simp
   ((conv=>whnf);repeat(any_goals((first|refine Vc.aq ?_)<;>(intros;(conv=>whnf)))))
   exact⟨by rw[A0];show Value.bool (!((ag (c::t)).toList==_))=_;rw[cz];rfl,rfl⟩
theorem Ob (s:Bs) (most:Nat) (hl:s.length<=1000000000) (hm:most<=1000000000) (H:ae):az Tryz.prog 96 [.string (ag s),.int .i64 most] H fun v H'=>(match oB most s with|some n=>v= .tuple #[.int .i64 n,.bool true]|none=>∃ m:Int,v= .tuple #[.int .i64 m,.bool false])/\H=H':=by
 have ez:(ag s).size=s.length:=rfl;have vz:=fun H=>Jy s hl H;refine Vc.az.body Tryz.func96 Tryz.call96 rfl (by decide+kernel) rfl ?_;cases hD:mr s with
 |false=>
  rw[hD]at vz;have hn:oB most s=none:=by unfold oB;rw[hD,ak (by simp)]
  rw[hn];((conv=>whnf);repeat(any_goals((first|(refine(vz _).mono ?_;rintro _ _ ⟨rfl,rfl⟩)|refine Vc.aq ?_)<;>(intros;(conv=>whnf)))))
  exact⟨⟨_,rfl⟩,rfl⟩
 |true=>
  rw[hD]at vz;have ii:s.all nB=true:=by unfold mr at hD;rw[bC]at hD;exact hD.2
  by_cases nI:10<s.length
  .have hn:oB most s=none:=by unfold oB;rw[ak (by omega)]
   rw[hn];obtain⟨c,hc,hd⟩:=pX (l:=s) (i:=0) (by omega);((conv=>whnf);repeat(any_goals((first|(refine(vz _).mono ?_;rintro _ _ ⟨rfl,rfl⟩)|(refine db.nat 0 rfl (by omega) ?_;(conv=>whnf);rw[hc])|refine Vc.aq ?_|refine Vc.bz ?_ ?_)<;>(intros;(conv=>whnf)))))
   all_goals exact⟨⟨_,rfl⟩,rfl⟩
  cases s with
  |nil=>cases hD
  |cons c t=>
  have wJ:=c.toNat_lt;have cW:(c::t).length=t.length+1:=rfl;by_cases h0:1<=t.length/\c.toNat=48
  .have ec:c=48:=dJ.1 h0.2;have hn:oB most (c::t)=none:=by unfold oB;rw[ak (by rw[ec,ay,List.head?_cons];rintro⟨_,h|h,_⟩;omega;exact h rfl)]
   rw[hn];((conv=>whnf);repeat(any_goals((first|(refine(vz _).mono ?_;rintro _ _ ⟨rfl,rfl⟩)|(refine db.nat 0 rfl (by omega) ?_;(conv=>whnf);rw[show(ag (c::t)).data.toList.getD 0 0=c from rfl])|refine Vc.aq ?_)<;>(intros;(conv=>whnf)))))
   exact⟨⟨_,rfl⟩,rfl⟩
  .obtain⟨V,hV⟩: ∃ V,Ce 0 (c::t)=V:=⟨_,rfl⟩;have qt:oB most (c::t)=if V<=most then some V else none:=by
    unfold oB;rw[hV];by_cases hle:V<=most
    .have h2:(c::t).length<=1\/(c::t).head? ≠some 48:=by
      by_cases h1:(c::t).length<=1
      .exact .inl h1
      .exact .inr fun e=>h0 ⟨by omega,by rw[List.head?_cons]at e;injection e with e;rw[e];rfl⟩
     rw[av hle,av ⟨hD,h2,by omega,hle⟩]
    .rw[ak hle,ak fun h=>hle h.2.2.2]
   rw[qt];clear qt;((conv=>whnf);repeat(any_goals((first|(refine(vz _).mono ?_;rintro _ _ ⟨rfl,rfl⟩)|(refine db.nat 0 rfl (by omega) ?_;(conv=>whnf);rw[show(ag (c::t)).data.toList.getD 0 0=c from rfl])|refine Vc.aq ?_|refine Vc.bz ?_ ?_)<;>(intros;(conv=>whnf)))))
   all_goals
    (refine dt.intro (fun(x:Nat×Nat)=>[(7,.int .i64 x.1),(6,.int .i64 x.2)]) (fun x H'=>H=H'/\x.1<=(c::t).length/\Ce x.2 ((c::t).drop x.1)=V/\x.2<10 ^ x.1/\((c::t).drop x.1).all nB=true) (fun x=>(c::t).length-x.1) (0,0) ⟨rfl,rfl,aF⟩ ⟨rfl,aI _,hV,by decide,ii⟩ ?_
     rintro⟨i,n⟩ _ ⟨rfl,hi,hv,hn,ng⟩;dsimp only at hi hv hn ng ⊢;have hn9:n<10000000000:=dG hn (dh (gZ (by decide) (show i<=10 by omega)) (by decide));by_cases ct:i<(c::t).length
     .obtain⟨d,Ba,pM⟩:=pX ct;rw[pM]at hv ng;rw[List.all_cons,bC]at ng;have lZ:48<=d.toNat/\d.toNat<=57:=by
       have:=ng.1;unfold nB at this;rw[aK]at this;exact this
      unfold Ce at hv;((conv=>whnf);repeat(any_goals((first|(refine db.nat i rfl (by omega) ?_;(conv=>whnf);rw[Ba])|refine Vc.aq ?_)<;>(intros;(conv=>whnf)))))
      refine⟨(i+1,10*n+(d.toNat-48)),⟨rfl,by show Value.int .i64 _=Value.int .i64 _;congr 1;omega,aF⟩,⟨rfl,by show i+1<=_;omega,hv,?_,ng.2⟩,by show(c::t).length-(i+1)<(c::t).length-i;omega⟩;show 10*n+(d.toNat-48)<10 ^ (i+1);rw[Nat.pow_succ];omega
     .rw[aV (by omega)]at hv;unfold Ce at hv;subst hv;((conv=>whnf);repeat(any_goals((first|refine Vc.aq ?_)<;>(intros;(conv=>whnf)))))
      refine⟨?_,rfl⟩;by_cases hle:n<=most
      .rw[av hle];show Value.tuple #[_,.bool (decide ((n:Int)<=(most:Int)))]=_;rw[bB (by omega)]
      .rw[ak hle];exact⟨n,by show Value.tuple #[_,.bool (decide ((n:Int)<=(most:Int)))]=_;rw[aN (by omega)]⟩)
theorem adq (s:Bs) (hl:s.length<=1000000000) (H:ae):az Tryz.prog 95 [.string (ag s)] H fun v H'=>v= .bool (sI s)/\H=H':=by
 have ez:(ag s).size=s.length:=rfl;have vz:=fun H=>Jy s hl H;refine Vc.az.body Tryz.func95 Tryz.call95 rfl (by decide+kernel) rfl ?_;by_cases h1:s.length<1
 .have e:sI s=false:=by unfold sI;rw[aN (by omega)];simp
  rw[e];((conv=>whnf);repeat(any_goals((first|refine Vc.aq ?_)<;>(intros;(conv=>whnf)))))
  exact⟨rfl,rfl⟩
 by_cases yO:16<s.length
 .have e:sI s=false:=by unfold sI;rw[aN (show ¬s.length<=16 by omega)];simp
  rw[e];((conv=>whnf);repeat(any_goals((first|refine Vc.aq ?_)<;>(intros;(conv=>whnf)))))
  exact⟨rfl,rfl⟩
 have em:sI s=(s.all Ad&&(!mr s || decide (s=[48]) || decide (s.head? ≠some 48))):=by
  unfold sI;rw[bB (show 1<=s.length by omega),bB (show s.length<=16 by omega)];rfl
 rw[em];((conv=>whnf);repeat(any_goals((first|refine Vc.aq ?_)<;>(intros;(conv=>whnf)))))
 refine dt.intro (fun(i:Nat)=>[(3,.int .i64 i)]) (fun i H'=>H=H'/\i<=s.length/\s.all Ad=(s.drop i).all Ad) (fun i=>s.length-i) 0 ⟨rfl,aF⟩ ⟨rfl,aI _,rfl⟩ ?_;rintro i _ ⟨rfl,hi,hinv⟩;by_cases ct:i<s.length
 .obtain⟨c,hc,hd⟩:=pX ct;rw[hd,List.all_cons]at hinv;have wJ:=c.toNat_lt;by_cases hs:(97<=c.toNat/\c.toNat<=122)\/(65<=c.toNat/\c.toNat<=90)\/(48<=c.toNat/\c.toNat<=57)\/c.toNat=45
  .rw[(Tz c).2 hs,Bool.true_and]at hinv;((conv=>whnf);repeat(any_goals((first|(refine db.nat i rfl (by omega) ?_;(conv=>whnf);rw[hc])|refine Vc.aq ?_|refine Vc.bz ?_ ?_)<;>(intros;(conv=>whnf)))))
   all_goals first|(exfalso;omega)|exact⟨i+1,⟨rfl,aF⟩,⟨rfl,by omega,hinv⟩,by omega⟩
  .rw[show Ad c=false by(cases e:Ad c with|false=>rfl|true=>exact absurd ((Tz c).1 e) hs),Bool.false_and]at hinv;rw[hinv,Bool.false_and];((conv=>whnf);repeat(any_goals((first|(refine db.nat i rfl (by omega) ?_;(conv=>whnf);rw[hc])|refine Vc.aq ?_|refine Vc.bz ?_ ?_)<;>(intros;(conv=>whnf)))))
   all_goals first|(exfalso;omega)|exact⟨rfl,rfl⟩
 .rw[aV (by omega),List.all_nil]at hinv;rw[hinv,Bool.true_and];cases hD:mr s with
  |false=>
   rw[hD]at vz;((conv=>whnf);repeat(any_goals((first|(refine(vz _).mono ?_;rintro _ _ ⟨rfl,rfl⟩)|refine Vc.aq ?_)<;>(intros;(conv=>whnf)))))
   exact⟨rfl,rfl⟩
  |true=>
   rw[hD]at vz;obtain⟨c,t,rfl⟩: ∃ c t,s=c::t:=by
    cases s with
    |nil=>exact absurd (by decide) h1
    |cons c t=>exact⟨c,t,rfl⟩
   have wJ:=c.toNat_lt;have cW:(c::t).length=t.length+1:=rfl;have h0:((ag (c::t)).toList==(⟨#[48]⟩:ByteArray).toList)=decide (c::t=[48]):=by
    show((ag (c::t)).toList==(ag [48]).toList)=_;exact p7 _ _
   rw[<-h0];rw[List.head?_cons];((conv=>whnf);repeat(any_goals((first|(refine(vz _).mono ?_;rintro _ _ ⟨rfl,rfl⟩)|(refine db.nat 0 rfl (by omega) ?_;(conv=>whnf);rw[show(ag (c::t)).data.toList.getD 0 0=c from rfl])|refine Vc.aq ?_|refine Vc.bz ?_ ?_)<;>(intros;(conv=>whnf)))))
   .rename_i e;exact⟨by rw[e,eD];rfl,rfl⟩
   .rename_i e;rw[h0,aN (fun e'=>e (by rw[e']): ¬c::t=[48])];refine⟨?_,rfl⟩;show Value.bool _=Value.bool _;congr 1;by_cases vj:c=48
    .subst vj;rfl
    .have cz:c.toNat≠48:=fun e=>vj (dJ.1 e);rw[show((c.toNat:Int) != 48)=true by rw[dM];omega];simp[vj]
end Go.Proofs.YtphkaogbcfdllaaGreatDoor
namespace Go.cN
theorem Jq: ∀ (n:Nat) (l:ap),l.length<=n-> ∀ {w r:ap},gS l=some (w,r)->w.length+r.length<l.length
 |_,[],_,_,_,h=>by simp[gS]at h
 |0,c::t,hn,_,_,_=>by simp at hn
 |n+1,c::t,hn,w,r,h=>by
  simp only[ay]at hn ⊢;unfold gS at h;split at h
  .cases h;simp
  .split at h
   .split at h
    .cases h
    .rename_i d u;simp only[ay]at hn ⊢;split at h
     .cases hq:gS u with
      |none=>rw[hq]at h;cases h
      |some p=>rw[hq]at h;cases h;have:=Jq n u (by omega) (w:=p.1) (r:=p.2) hq;simp only[ay];omega
     .split at h
      .cases hq:gS u with
       |none=>rw[hq]at h;cases h
       |some p=>rw[hq]at h;cases h;have:=Jq n u (by omega) (w:=p.1) (r:=p.2) hq;simp only[ay];omega
      .cases h
   .cases hq:gS t with
    |none=>rw[hq]at h;cases h
    |some p=>rw[hq]at h;cases h;have:=Jq n t (by omega) (w:=p.1) (r:=p.2) hq;simp only[ay];omega
theorem Fb {p:UInt8->Bool}: ∀ l:ap,(l.takeWhile p).length<=l.length
 |[]=>aB _
 |c::t=>by
  rw[eP];split
  .have:=Fb (p:=p) t;simp only[ay];omega
  .simp
theorem JV: ∀ (n:Nat) (l:ap) (ws:List ap),mR n l=some ws-> ∀ w∈ws,w.length<=l.length
 |n,[],ws,h,w,hw=>by
  cases n<;>(simp only[mR,dO]at h;subst h;cases hw)
 |0,c::t,ws,h,w,hw=>by simp[mR]at h
 |n+1,c::t,ws,h,w,hw=>by
  unfold mR at h;have hd:=C5 (p:=fun x=> !gR x) t;have ht:=Fb (p:=fun x=> !gR x) t;rw[ay];split at h
  .have:=JV n t ws h w hw;omega
  .split at h
   .cases hq:gS t with
    |none=>rw[hq]at h;cases h
    |some p=>
     obtain⟨q,r⟩:=p;have hl:=Jq _ t (aB _) hq;rw[hq]at h;dsimp only at h;split at h
     .cases h
     .cases hr:mR n r with
      |none=>rw[hr]at h;cases h
      |some l=>
       rw[hr]at h;cases h;rcases aM.1 hw with rfl|hw
       .rw[ay];omega
       .have:=JV n r l hr w hw;omega
   .cases hr:mR n (t.dropWhile fun x=> !gR x)with
    |none=>rw[hr]at h;cases h
    |some l=>
     rw[hr]at h;cases h;rcases aM.1 hw with rfl|hw
     .rw[ay];omega
     .have:=JV n _ l hr w hw;omega
structure vA (N:Nat) (x:Ln):Prop where
 a:x.a.length<=N
 b:x.b.length<=N
 tx:x.tx.length<=N
 n:x.n<=1000
theorem agy {N k:Nat} {ws:List ap} {x:Ln} (hw: ∀ w∈ws,w.length<=N) (h:kW k ws=some x):vA N x:=by
 unfold kW at h;split at h
 .split at h
  .cases h;exact⟨hw _ (by simp),hw _ (by simp),aI _,aI _⟩
  .cases h
 .cases h
theorem ae0 {N k:Nat} {ws:List ap} {x:Ln} (hw: ∀ w∈ws,w.length<=N) (h:xY k ws=some x):vA N x:=by
 unfold xY at h;split at h
 .rename_i a b;split at h
  .cases h;have hb:=hw b (by simp);exact⟨hw _ (by simp),aI _,by show b.tail.length<=N;rw[iy];omega,aI _⟩
  .cases h
 .cases h
theorem agz {N k:Nat} {ws:List ap} {x:Ln} (hw: ∀ w∈ws,w.length<=N) (h:Ap k ws=some x):vA N x:=by
 unfold Ap at h;split at h
 .split at h
  .cases h;exact⟨hw _ (by simp),aI _,aI _,aI _⟩
  .cases h
 .cases h
theorem adr {N:Nat} {ws:List ap} {x:Ln} (hw: ∀ w∈ws,w.length<=N) (h:zI ws=some x):vA N x:=by
 unfold zI at h;split at h
 .split at h
  .cases h;exact⟨hw _ (by simp),aI _,aI _,aI _⟩
  .cases h
 .split at h
  .cases h;exact⟨hw _ (by simp),aI _,aI _,aI _⟩
  .cases h
 .cases h
theorem ab2 {N:Nat} {ws:List ap} {x:Ln} (h:zz ws=some x):vA N x:=by
 unfold zz at h;split at h
 .rename_i w;cases hn:vN w with
  |none=>rw[hn]at h;cases h
  |some n=>
   rw[hn]at h;cases h;refine⟨aI _,aI _,aI _,?_⟩;show n<=1000;unfold vN at hn;split at hn
   .cases hn
   .split at hn
    .cases hn
    .split at hn
     .cases hn;assumption
     .cases hn
 .cases h
theorem ae1 {N k:Nat} {ws:List ap} {x:Ln} (h:Ab k ws=some x):vA N x:=by
 unfold Ab at h;split at h
 .cases h;exact⟨aI _,aI _,aI _,aI _⟩
 .cases h
theorem ae2 {N:Nat} {ws:List ap} {x:Ln} (hw: ∀ w∈ws,w.length<=N) (h:BU ws=some x):vA N x:=by
 unfold BU at h;split at h
 .rename_i b;split at h
  .cases h;have hb:=hw b (by simp);exact⟨aI _,aI _,by show b.tail.length<=N;rw[iy];omega,aI _⟩
  .cases h
 .cases h
theorem ae3 {N:Nat} {ws:List ap} {x:Ln} (hw: ∀ w∈ws,w.length<=N) (h:r5 ws=some x):vA N x:=by
 unfold r5 at h;split at h
 .cases h
 .rename_i w ws;have lP: ∀ w∈ws,w.length<=N:=fun v hv=>hw v (bG _ hv);split at h<;>first|exact agy lP h|exact ae0 lP h|exact agz lP h|exact adr lP h|exact ab2 h|exact ae1 h|exact ae2 lP h|cases h
theorem Dp (c:UInt8): ∀ (s:ap),∀ l∈dj c s,l.length<=s.length
 |[],l,h=>by simp[dj]at h;subst h;simp
 |x::t,l,h=>by
  have ih:=Dp c t;unfold dj at h;rw[ay];split at h
  .rcases aM.1 h with rfl|h
   .simp
   .have:=ih l h;omega
  .split at h
   .rw[aW]at h;subst h;simp
   .rename_i w ls he;rw[he]at ih;rcases aM.1 h with rfl|h
    .have:=ih w (by simp);rw[ay];omega
    .have:=ih l (bG _ h);omega
theorem ads (s:ap): ∀ l∈sE s,l.length<=s.length:=fun l h=>by
 unfold sE at h;dsimp only at h;split at h
 .exact Dp 10 s l (List.dropLast_subset _ h)
 .exact Dp 10 s l h
theorem Nd {N:Nat}: ∀ (ls:List ap) (i:Nat) (out:List Ln) (o:List Nat) (l:List Ln),(∀ w∈ls,w.length<=N)->(∀ x∈out,vA N x)->out.length<=200->(oT ls i out o).1=some l->(∀ x∈l,vA N x)/\l.length<=200
 |[],i,out,o,l,_,hn,Cd,h=>by
  rw[oT]at h;split at h
  .cases h;exact⟨hn,Cd⟩
  .cases h
 |x::ls,i,out,o,l,hw,hn,Cd,h=>by
  have s5: ∀ w∈ls,w.length<=N:=fun v hv=>hw v (bG _ hv);rw[oT]at h;split at h
  .exact Nd ls _ _ _ _ s5 hn Cd h
  .split at h
   .cases h
   .rename_i ws lP;split at h
    .cases h
    .rename_i y hy;split at h
     .cases h
     .split at h
      .cases h
      .rename_i o' ho;refine Nd ls _ _ _ _ s5 ?_ (by rw[au];simp;omega) h;intro z hz;rcases bZ.1 hz with hz|hz
       .exact hn z hz
       .rw[aW.1 hz];exact ae3 (fun w rH=>dh (JV _ _ _ lP w rH) (hw x (by simp))) hy
theorem adt {s:ap} {l:List Ln} {i:Nat} (h:iU s=(some l,i)):(∀ x∈l,vA s.length x)/\l.length<=200:=by
 unfold iU at h;split at h
 .cases h
 .exact Nd (sE s) 0 [] [] l (ads s) (fun x hx=>by cases hx) (by simp) (by rw[h])
end Go.cN
namespace Go.ew
open Go.cN
def qS:ap->ap×Option ap
 |[]=>([],none)
 |c::t=>if c=45 then([],some t)else(c::(qS t).1,(qS t).2)
def v7 (core:ap) (pre:List ap):Option fp:=match dj 46 core with
 |[a,b,c]=>match oB 999999999 a,oB 999999999 b,oB 999999999 c with
  |some x,some y,some z=>some ⟨x,y,z,pre⟩
  |_,_,_=>none
 |_=>none
def nV (s:ap):Option fp:=match (qS s).2 with
 |none=>v7 (qS s).1 []
 |some r=>if(dj 46 r).length<=5/\(dj 46 r).all sI=true then v7 (qS s).1 (dj 46 r)else none
end Go.ew
namespace Go.Proofs.YtphkaogbcfdllaaGreatDoor
open Go Go.Vc Go.cN Go.ew
def mW (v:fp) (a:Option Addr) (cap:Nat):Value:= .agg #[.int .i64 v.ma,.int .i64 v.mi,.int .i64 v.pa,.slice a v.pre.length cap]
def ajq (H':ae) (B:Nat) (x:Value):Option fp->Prop
 |some v=>∃ a cap,x= .tuple #[mW v a cap,.int .i64 0]/\cq H' B 9 1 a v.pre.length cap (strs v.pre)
 |none=>x= .tuple #[.agg #[.int .i64 0,.int .i64 0,.int .i64 0,.slice none 0 0],.int .i64 60]
structure Yp where
 core:Bs
 pre:List Bs
 a:Option Addr
 cap:Nat
structure VcJ (H H':ae) (g:Nat) (s:Bs) (x:Yp):Prop where
 cL:bu H' g #[.int .i64 0,.int .i64 0,.int .i64 0,.slice x.a x.pre.length x.cap] 83
 own:cq H' (g+1) 9 1 x.a x.pre.length x.cap (strs x.pre)
 res:bu H' H.size #[.int .i64 0,.int .i64 0,.int .i64 0,.slice none 0 0] 83
 len:x.core.length<=s.length
 eq:nV s=v7 x.core x.pre
 ext:ax H H'
set_option maxHeartbeats 4000000 in
theorem Oc (s:Bs) (hl:s.length<=100000000) (H:ae):az Tryz.prog 44 [.string (ag s)] H fun x H'=>ajq H' H.size x (nV s)/\ax H H':=by
 have ez:(ag s).size=s.length:=rfl;refine Vc.az.body Tryz.func44 Tryz.call44 rfl (by decide+kernel) rfl ?_;((conv=>whnf);repeat(any_goals((first|refine Vc.pe ?_|refine Vc.bz ?_ ?_)<;>(intros;(conv=>whnf)))))
 rename_i H1 z1 b1 x1 H2 z2 b2 x2;have gn:=x1.trans x2;refine jO.cut (fun(x:Yp)=>[(5,.string (ag x.core))]) (fun x H'=>VcJ H H' H1.size s x) ?_ ?_
 ·((conv=>whnf);repeat(any_goals((first|refine Vc.aq ?_)<;>(intros;(conv=>whnf)))))
  refine dt.intro (fun(i:Nat)=>[(6,.int .i64 i),(5,.string (ag s))]) (fun i H'=>H2=H'/\i<=s.length/\qS s=(s.take i++(qS (s.drop i)).1,(qS (s.drop i)).2)) (fun i=>s.length-i) 0 ⟨rfl,rfl,aF⟩ ⟨rfl,aI _,by simp⟩ ?_;rintro i _ ⟨rfl,hi,hinv⟩;by_cases ct:i<s.length
  .obtain⟨c,hc,hd⟩:=pX ct;have wJ:=c.toNat_lt;rw[hd]at hinv;by_cases hm:c.toNat=45
   .have ec:c=45:=dJ.1 hm;rw[ec]at hinv;have wi:qS s=(s.take i,some (s.drop (i+1))):=by rw[hinv];simp[qS]
    ((conv=>whnf);repeat(any_goals((first|(refine db.nat i rfl (by omega) ?_;(conv=>whnf);rw[hc])|(refine dk.nat i rfl (by omega) ?_)|(refine dk.nat (i+1) rfl (by omega) ?_)|(rw[nY];refine(Nc (s.drop (i+1)) 46 (by rw[aO];omega) _).mono ?_;rintro _ H3 ⟨⟨a3,c3,rfl,eI⟩,bw⟩;have eJ:=bw.size)|refine Vc.aq ?_)<;>(intros;(conv=>whnf)))))
    rename_i H4 z4 b4 k4;obtain⟨q,hq⟩: ∃ q,dj 46 (s.drop (i+1))=q:=⟨_,rfl⟩;rw[hq]at eI b4 ⊢;have b4:bu H4 H1.size #[.int .i64 0,.int .i64 0,.int .i64 0,.slice a3 q.length c3] 83:=b4;have dE:cq H4 (H1.size+1) 9 1 a3 q.length c3 (strs q):=(eI.keep k4 fun p hp e=>by have:=(eI.block p hp).1;omega).base (by omega);have fW:ax H H4:=(gn.trans bw).but k4 (by omega);have CL:q.length<=s.length+1:=by
     have:=(Dd 46 (s.drop (i+1))).1;rw[hq]at this;have h2:=aO (i:=i+1) (l:=s);omega
    have hqw: ∀ w∈q,w.length<=1000000000:=fun w hw=>by
     rw[<-hq]at hw;have:=Dp 46 _ w hw;rw[aO]at this;omega
    have b4r:=b1.ext (x2.trans bw);have b4s:=b4r.but k4 (by omega);by_cases h5:5<q.length
    .have e:nV s=none:=by unfold nV;rw[wi];dsimp only;rw[hq,ak (by omega)]
     rw[e];((conv=>whnf);repeat(any_goals((first|(refine da.uJ #[.int .i64 0,.int .i64 0,.int .i64 0,.slice none 0 0] (by kernel_rfl) ?_)|refine Vc.aq ?_)<;>(intros;(conv=>whnf)))))
     rename_i H5 z5 b5 k5;exact⟨rfl,fW.but k5 (aB _)⟩
    ·((conv=>whnf);repeat(any_goals((first|refine Vc.aq ?_)<;>(intros;(conv=>whnf)))))
     refine dt.intro (fun(k:Nat)=>[(7,.int .i64 k)]) (fun k H'=>H4=H'/\k<=q.length/\q.all sI=(q.drop k).all sI) (fun k=>q.length-k) 0 ⟨rfl,aF⟩ ⟨rfl,aI _,rfl⟩ ?_;rintro k _ ⟨rfl,hk,ng⟩;by_cases jQ:k<q.length
     .obtain⟨w,hw⟩: ∃ w,q[k]? =some w:=⟨_,aD jQ⟩;have hdk:q.drop k=w::q.drop (k+1):=by rw[bP jQ];rw[aD jQ]at hw;injection hw with hw;rw[hw]
      rw[hdk,List.all_cons]at ng;have lF:=fun H=>adq w (hqw w (aU hw)) H;cases Yq:sI w with
      |false=>
       rw[Yq]at lF ng;rw[Bool.false_and]at ng;have e:nV s=none:=by unfold nV;rw[wi];dsimp only;rw[hq,ak (by rw[ng];simp)]
       rw[e];((conv=>whnf);repeat(any_goals((first|(refine cm.fe dE.row rfl k w (by omega) hw ?_;intro _ _ _ _ _)|(refine(lF _).mono ?_;rintro _ _ ⟨rfl,rfl⟩)|(refine da.uJ #[.int .i64 0,.int .i64 0,.int .i64 0,.slice none 0 0] (by kernel_rfl) ?_)|refine Vc.aq ?_)<;>(intros;(conv=>whnf)))))
       rename_i H5 z5 b5 k5;exact⟨rfl,fW.but k5 (aB _)⟩
      |true=>
       rw[Yq]at lF ng;rw[Bool.true_and]at ng;((conv=>whnf);repeat(any_goals((first|(refine cm.fe dE.row rfl k w (by omega) hw ?_;intro _ _ _ _ _)|(refine(lF _).mono ?_;rintro _ _ ⟨rfl,rfl⟩)|refine Vc.aq ?_)<;>(intros;(conv=>whnf)))))
       exact⟨k+1,⟨rfl,aF⟩,⟨rfl,by omega,ng⟩,by omega⟩
     .rw[aV (by omega),List.all_nil]at ng;((conv=>whnf);repeat(any_goals((first|refine Vc.aq ?_)<;>(intros;(conv=>whnf)))))
      refine⟨⟨s.take i,q,a3,c3⟩,⟨by show Value.string _=_;rw[nM],aF⟩,⟨b4,dE,b4s,by show(s.take i).length<=_;rw[aJ];omega,?_,fW⟩⟩;unfold nV;rw[wi];dsimp only;rw[hq,av ⟨by omega,ng⟩]
   .have cz:c≠45:=fun e=>hm (by rw[e];rfl);have wi:qS s=(s.take (i+1)++(qS (s.drop (i+1))).1,(qS (s.drop (i+1))).2):=by
     rw[hinv,qS,ak cz,bX];have:s[i]? =some c:=by
      have:=aZ (·[0]?) hd;simpa using this
     rw[this];simp
    ((conv=>whnf);repeat(any_goals((first|(refine db.nat i rfl (by omega) ?_;(conv=>whnf);rw[hc])|refine Vc.aq ?_)<;>(intros;(conv=>whnf)))))
    exact⟨i+1,⟨rfl,rfl,aF⟩,⟨rfl,by omega,wi⟩,by omega⟩
  .rw[aV (by omega),aL (by omega)]at hinv;have wi:qS s=(s,none):=by rw[hinv];simp[qS]
   ((conv=>whnf);repeat(any_goals((first|refine Vc.aq ?_)<;>(intros;(conv=>whnf)))))
   exact⟨⟨s,[],none,0⟩,⟨rfl,aF⟩,⟨b2,cq.nil _ _ _ _,b1.ext x2,aB _,by unfold nV;rw[wi],gn⟩⟩
 .rintro⟨core,pre,a,cap⟩ H3 hj;have Io:=hj.cL;have tW:=hj.own;have cU:=hj.len;have heq:=hj.eq;have Yr:=hj.ext;dsimp only at Io tW cU heq Yr;rw[heq];have XK:(ag core).size=core.length:=rfl;have jq:=fun H=>Nc core 46 (by omega) H;obtain⟨q,hq⟩: ∃ q,dj 46 core=q:=⟨_,rfl⟩;rw[hq]at jq;((conv=>whnf);repeat(any_goals((first|(refine(jq _).mono ?_;rintro _ H4 ⟨⟨a4,c4,rfl,dE⟩,cH⟩;have gA:=cH.size)|refine Vc.aq ?_)<;>(intros;(conv=>whnf)))))
  have yP:=hj.res;have Iu:=Io.lt;have XV:H1.size≠H.size:=by omega
  have iX:=Io.ext cH;have mO:=yP.ext cH;have fW:=Yr.trans cH;have CL:q.length<=s.length+1:=by
   have:=(Dd 46 core).1;rw[hq]at this;omega
  by_cases h3:q.length=3
  .obtain⟨x,y,z,rfl⟩: ∃ x y z,q=[x,y,z]:=by
    match q,h3 with
    |[x,y,z],_=>exact⟨x,y,z,rfl⟩
   have hw: ∀ w∈ [x,y,z],w.length<=1000000000:=fun w hw=>by
    rw[<-hq]at hw;have:=Dp 46 _ w hw;omega
   have e:v7 core pre=match oB 999999999 x,oB 999999999 y,oB 999999999 z with
    |some x,some y,some z=>some ⟨x,y,z,pre⟩
    |_,_,_=>none:=by unfold v7;rw[hq]
   rw[e];have uq:=fun H=>Ob x 999999999 (hw x (by simp)) (by decide) H;have Ip:=fun H=>Ob y 999999999 (hw y (by simp)) (by decide) H;have L0:=fun H=>Ob z 999999999 (hw z (by simp)) (by decide) H;clear e jq hq;have Qu:[x,y,z].length=3:=rfl;cases hX:oB 999999999 x<;>cases hY:oB 999999999 y<;>cases hZ:oB 999999999 z
   all_goals rw[hX]at uq
   all_goals rw[hY]at Ip
   all_goals rw[hZ]at L0
   all_goals((conv=>whnf);repeat(any_goals((first|(refine cm.fe dE.row rfl 0 x rfl rfl ?_;intro _ _ _ _ _)|(refine cm.fe dE.row rfl 1 y rfl rfl ?_;intro _ _ _ _ _)|(refine cm.fe dE.row rfl 2 z rfl rfl ?_;intro _ _ _ _ _)|(refine(uq _).mono ?_;rintro _ _ ⟨rfl,rfl⟩)|(refine(uq _).mono ?_;rintro _ _ ⟨⟨mx,rfl⟩,rfl⟩)|(refine(Ip _).mono ?_;rintro _ _ ⟨rfl,rfl⟩)|(refine(Ip _).mono ?_;rintro _ _ ⟨⟨my,rfl⟩,rfl⟩)|(refine(L0 _).mono ?_;rintro _ _ ⟨rfl,rfl⟩)|(refine(L0 _).mono ?_;rintro _ _ ⟨⟨mz,rfl⟩,rfl⟩)|(refine da.uJ #[.int .i64 0,.int .i64 0,.int .i64 0,.slice none 0 0] (by kernel_rfl) ?_)|refine Vc.aq ?_)<;>(intros;(conv=>whnf)))))
   iterate 7 (rename_i H5 z5 b5 k5;exact⟨rfl,fW.but k5 (aB _)⟩)
   rename_i nx ny nz _ _ _ _ _ _ _ _ _ _ _ _ _ _ _ H5 z5 b5 k5 H6 z6 b6 k6 H7 z7 b7 k7 H8 z8 b8 k8;have hp:=fun p hp=>(tW.block p hp).1;have iT:=((((tW.ext cH).keep k5 fun p pN e=>by have:=hp p pN;omega).keep k6 fun p pN e=>by have:=hp p pN;omega).keep k7 fun p pN e=>by have:=hp p pN;omega).keep k8 fun p pN e=>by have:=hp p pN;omega
   exact⟨⟨a,cap,rfl,iT.base (by omega)⟩,(((fW.but k5 (by omega)).but k6 (by omega)).but k7 (by omega)).but k8 (by omega)⟩
  .have e:v7 core pre=none:=by
    unfold v7;rw[hq];split
    .exact absurd rfl h3
    .rfl
   rw[e];((conv=>whnf);repeat(any_goals((first|(refine da.uJ #[.int .i64 0,.int .i64 0,.int .i64 0,.slice none 0 0] (by kernel_rfl) ?_)|refine Vc.aq ?_)<;>(intros;(conv=>whnf)))))
   rename_i H5 z5 b5 k5;exact⟨rfl,fW.but k5 (aB _)⟩
end Go.Proofs.YtphkaogbcfdllaaGreatDoor
namespace Go.Vc
end Go.Vc
namespace Go.Proofs.YtphkaogbcfdllaaGreatDoor
open Go Go.Vc Go.RowKit Go.Sort
theorem Od {u:Nat} (h:u<10):Lib.decDigits u=[UInt8.ofNat (48+u)]:=by rw[Lib.decDigits,dif_pos h]
theorem ahB {u:Nat} (h: ¬u<10):Lib.decDigits u=Lib.decDigits (u / 10)++Lib.decDigits (u % 10):=by
 rw[Lib.decDigits,dif_neg h,Od (eB u (by decide))]
theorem ae4 (u:Nat):Lib.itoa (u:Int)=Lib.decDigits u:=by unfold Lib.itoa;rw[ak (by omega)];simp
def ajr:Bs:=[48,49,50,51,52,53,54,55,56,57]
theorem Vf (u:Nat) (h:u<10):(ag ajr).extract u (u+1)=ag (Lib.decDigits u):=by
 rw[Od h,xA,show u+1-u=1 by omega];have:u=0\/u=1\/u=2\/u=3\/u=4\/u=5\/u=6\/u=7\/u=8\/u=9:=by omega
 rcases this with rfl|rfl|rfl|rfl|rfl|rfl|rfl|rfl|rfl|rfl<;>rfl
end Go.Proofs.YtphkaogbcfdllaaGreatDoor
namespace Go.Proofs.YtphkaogbcfdllaaGreatDoor
open Go Go.Vc Go.cN
theorem Ul: ∀ (k n:Nat),n<=k->n<=9223372036854775807-> ∀ H,az Tryz.prog 15 [.int .i64 n] H fun v H'=>v= .string (ag (Lib.decDigits n))/\H=H'
 |k,n,hk,hn,H=>by
  have sq:(⟨#[48,49,50,51,52,53,54,55,56,57]⟩:ByteArray).size=10:=rfl;refine Vc.az.body Tryz.func15 Tryz.call15 rfl (by decide+kernel) rfl ?_;by_cases nI:n<10
  .have yC:max (n:Int) 0=(n:Int):=by omega
   have Iv:=Vf n nI;((conv=>whnf);repeat(any_goals((first|(rw[yC])|(refine dk.nat (n+1) (by omega) (by omega) ?_)|(refine dk.nat n (by omega) (by omega) ?_;(conv=>whnf))|refine Vc.aq ?_)<;>(intros;(conv=>whnf)))))
   exact⟨by show Value.string _=_;exact aZ _ Iv,rfl⟩
  .obtain⟨k,rfl⟩: ∃ k',k=k'+1:=⟨k-1,by omega⟩;have c1:=fun H=>Ul k (n / 10) (by omega) (by omega) H;have Iv:=Vf (n % 10) (by omega);have l1:(Lib.decDigits (n / 10)).length<=20:=by have:=Ku 19 (n / 10) (by omega);omega
   have A5:(ag (Lib.decDigits (n % 10))).size<=1:=by rw[Od (by omega)];exact aB _
   have W2:({data:= #[48,49,50,51,52,53,54,55,56,57]}:ByteArray).extract (n % 10) (n % 10+1)=ag (Lib.decDigits (n % 10)):=Iv;have lu:(ag (Lib.decDigits (n / 10))).size<=20:=l1;((conv=>whnf);repeat(any_goals((first|(refine(c1 _).mono ?_;rintro _ _ ⟨rfl,rfl⟩)|(refine kM.mk ⟨by rw[W2];omega,?_⟩;rw[W2])|(refine dk.nat (n % 10+1) (by omega) (by omega) ?_)|(refine dk.nat (n % 10) (by omega) (by omega) ?_;(conv=>whnf))|refine Vc.aq ?_)<;>(intros;(conv=>whnf)))))
   exact⟨by show Value.string (ag _++ag _)=_;rw[kC,<-ahB nI],rfl⟩
theorem FL (n:Nat) (hn:n<=9223372036854775807) (H:ae):az Tryz.prog 15 [.int .i64 n] H fun v H'=>v= .string (ag (Lib.itoa (n:Int)))/\H=H':=by
 rw[ae4];exact Ul n n (aB _) hn H
end Go.Proofs.YtphkaogbcfdllaaGreatDoor
namespace Go.ew
open Go.cN
def mI:List ap->ap
 |[]=>[]
 |m::l=>45::(m++(l.map fun x=>46::x).flatten)
theorem Um (a b:List ap) (h:a≠ []):mI (a++b)=mI a++(b.map fun x=>46::x).flatten:=by
 cases a with
 |nil=>exact absurd rfl h
 |cons m l=>simp[mI]
theorem Ny (l:List ap) (m:ap):mI (l++[m])=if l=[]then 45::m else mI l++46::m:=by
 by_cases h:l=[]
 .rw[av h,h];simp[mI]
 .rw[ak h,Um _ _ h];simp
theorem TA (l:List ap) (i:Nat):(mI (l.take i)).length<=(mI l).length:=by
 by_cases h:l.take i=[]
 .rw[h];simp[mI]
 .have:=Um (l.take i) (l.drop i) h;rw[dF]at this;rw[this,au];omega
def wq (v:fp):ap:=Lib.itoa (v.ma:Int)++46::(Lib.itoa (v.mi:Int)++46::Lib.itoa (v.pa:Int))
def km (v:fp):ap:=wq v++mI v.pre
end Go.ew
namespace Go.Proofs.YtphkaogbcfdllaaGreatDoor
open Go Go.Vc Go.cN Go.ew
theorem Ay (l:List UInt8):ByteArray.size ⟨l.toArray⟩=l.length:=rfl
theorem yr (l:List UInt8):(ag l).size=l.length:=rfl
set_option maxHeartbeats 4000000 in
theorem SI (v:fp) (hb:v.ma<=1000000000/\v.mi<=1000000000/\v.pa<=1000000000/\v.pre.length<=1000000000) (hT:(mI v.pre).length<=1000000000000) (a:Option Addr) (cap:Nat) (H:ae) (hr:Row H a (strs v.pre)):az Tryz.prog 41 [mW v a cap] H fun x H'=>x= .string (ag (km v))/\ax H H':=by
 obtain⟨b1,b2,b3,b4⟩:=hb;have l1:=uH (v.ma:Int) ⟨by omega,by omega⟩;have l2:=uH (v.mi:Int) ⟨by omega,by omega⟩;have l3:=uH (v.pa:Int) ⟨by omega,by omega⟩;refine Vc.az.body Tryz.func41 Tryz.call41 rfl (by decide+kernel) rfl ?_;unfold mW;((conv=>whnf);repeat(any_goals((first|(refine(FL v.ma (by omega) _).mono ?_;rintro _ _ ⟨rfl,rfl⟩)|(refine(FL v.mi (by omega) _).mono ?_;rintro _ _ ⟨rfl,rfl⟩)|(refine(FL v.pa (by omega) _).mono ?_;rintro _ _ ⟨rfl,rfl⟩)|(refine kM.mk ⟨by(simp only[cO,Ay,yr,ay,cu];omega),?_⟩)|((with_reducible refine Vc.cy.held [0,1,4,5,9,10,2,3,6,7,8,11,12,13] [(2,[5,10]),(6,[10])] mixed (by decide+kernel) ?_))|refine Vc.aq ?_)<;>(intros;(conv=>whnf)))))
 rename_i H1 z1 g1 x1;have mM:(wq v).length<=100:=by unfold wq;simp only[au,ay];omega
 have yM:(((ag (Lib.itoa (v.ma:Int))++(⟨#[46]⟩:ByteArray))++ag (Lib.itoa (v.mi:Int)))++(⟨#[46]⟩:ByteArray))++ag (Lib.itoa (v.pa:Int))=ag (wq v++mI (v.pre.take 0)):=by
  rw[show(⟨#[46]⟩:ByteArray)=ag [46]from rfl];simp only[kC,wq,mI,fu,dD,bM];rfl
 refine dt.intro (fun(i:Nat)=>[(4,.int .i64 i),(3,.string (ag (wq v++mI (v.pre.take i))))]) (fun i H'=>H1=H'/\i<=v.pre.length) (fun i=>v.pre.length-i) 0 ⟨rfl,by rw[<-yM];rfl,aF⟩ ⟨rfl,aI _⟩ ?_;rintro i _ ⟨rfl,hi⟩;have ib:=TA v.pre i;have hsl:(wq v++mI (v.pre.take i)).length=(wq v).length+(mI (v.pre.take i)).length:=au;by_cases ct:i<v.pre.length
 .obtain⟨m,hm⟩: ∃ m,v.pre[i]? =some m:=⟨_,aD ct⟩;have GG:=TA v.pre (i+1);have e1:v.pre.take (i+1)=v.pre.take i++[m]:=by rw[bX,hm];rfl
  rw[e1,Ny]at GG;by_cases h0:i=0
  .subst h0;have e0:v.pre.take 0=[]:=fu;rw[av e0]at GG;simp only[ay]at GG;((conv=>whnf);repeat(any_goals((first|(refine cm.fe (hr.ext x1) rfl 0 m rfl hm ?_;intro _ _ _ _ _)|(refine kM.mk ⟨by(simp only[cO,Ay,yr,ay,cu];omega),?_⟩)|refine Vc.aq ?_)<;>(intros;(conv=>whnf)))))
   exact⟨0+1,⟨rfl,by show Value.string _=Value.string _;rw[e1,Ny,av e0,show(⟨#[45]⟩:ByteArray)=ag [45]from rfl,kC,kC,e0];simp[mI],aF⟩,⟨rfl,by omega⟩,by omega⟩
  .have e0:v.pre.take i≠ []:=fun e=>by
    have:=aZ List.length e;rw[aJ,cu]at this;omega
   rw[ak e0,au]at GG;simp only[ay]at GG;((conv=>whnf);repeat(any_goals((first|(refine cm.fe (hr.ext x1) rfl i m rfl hm ?_;intro _ _ _ _ _)|(refine kM.mk ⟨by(simp only[cO,Ay,yr,ay,cu];omega),?_⟩)|refine Vc.aq ?_)<;>(intros;(conv=>whnf)))))
   exact⟨i+1,⟨rfl,by show Value.string _=Value.string _;rw[e1,Ny,ak e0,show(⟨#[46]⟩:ByteArray)=ag [46]from rfl,kC,kC];simp,aF⟩,⟨rfl,by omega⟩,by omega⟩
 .have e:v.pre.take i=v.pre:=aL (by omega);((conv=>whnf);repeat(any_goals((first|refine Vc.aq ?_)<;>(intros;(conv=>whnf)))))
  exact⟨by unfold km;rw[e];rfl,x1⟩
structure nC (v:fp):Prop where
 ma:v.ma<=999999999
 mi:v.mi<=999999999
 pa:v.pa<=999999999
 len:v.pre.length<=5
 pre: ∀ m∈v.pre,m.length<=16
theorem SJ: ∀ (l:List Bs),(∀ m∈l,m.length<=16)->(Lib.join l [46]).length<=17*l.length
 |[],_=>by simp[Lib.join]
 |[x],h=>by
  have:=h x (by simp);simp[Lib.join];omega
 |x::y::l,h=>by
  have h1:=h x (by simp);have h2:=SJ (y::l) (fun m hm=>h m (bG _ hm));simp[Lib.join]at h2 ⊢;omega
theorem Un: ∀ l:List Bs,(if l=[]then []else [45]++Lib.join l [46])=mI l
 |[]=>rfl
 |[x]=>by simp[Lib.join,mI]
 |x::y::l=>by
  have ih:=Un (y::l);rw[ak (by simp)]at ih ⊢;simp[Lib.join,mI]at ih ⊢;exact ih
theorem Vg (v:fp):Lib.itoa (v.ma:Int)++[46]++Lib.itoa (v.mi:Int)++[46]++Lib.itoa (v.pa:Int)++(if v.pre=[]then []else [45]++Lib.join v.pre [46])=km v:=by
 rw[Un];simp[km,wq]
set_option maxHeartbeats 1000000 in
theorem ab3 (v:fp) (hv:nC v) (a:Option Addr) (c:Nat) {H:ae} (hg:kS H) (hl:v.pre.length<=c) (hr:Row H a (strs v.pre)):az Tryz.prog 154 [mW v a c] H fun x H'=>x= .string (ag (km v))/\ax H H':=by
 have h1:=hv.ma;have h2:=hv.mi;have h3:=hv.pa;have h4:=hv.len;have e1:max ((v.ma:Nat):Int) 0=v.ma:=by omega
 have e2:max ((v.mi:Nat):Int) 0=v.mi:=by omega
 have e3:max ((v.pa:Nat):Int) 0=v.pa:=by omega
 have sA:(ag (Lib.itoa (v.ma:Int))).size=(Lib.itoa (v.ma:Int)).length:=rfl;have sB:(ag (Lib.itoa (v.mi:Int))).size=(Lib.itoa (v.mi:Int)).length:=rfl;have sC:(ag (Lib.itoa (v.pa:Int))).size=(Lib.itoa (v.pa:Int)).length:=rfl;have sJ:(ag (Lib.join v.pre [46])).size=(Lib.join v.pre [46]).length:=rfl;have EP:(⟨#[46]⟩:ByteArray).size=1:=rfl;have Ys:(⟨#[45]⟩:ByteArray).size=1:=rfl;have lA:=uH (v.ma:Int) ⟨by omega,by omega⟩;have lB:=uH (v.mi:Int) ⟨by omega,by omega⟩;have lC:=uH (v.pa:Int) ⟨by omega,by omega⟩;have lJ:=SJ v.pre hv.pre;have w1:(⟨#[46]⟩:ByteArray)=ag [46]:=rfl;have w2:(⟨#[45]⟩:ByteArray)=ag [45]:=rfl;refine Vc.az.body Tryz.func154 Tryz.call154 rfl (by decide+kernel) rfl ?_;by_cases hp:v.pre=[]
 .have wV:v.pre.length=0:=by rw[hp];rfl
  ((conv=>whnf);repeat(any_goals((first|(rw[e1];refine(zv (hg.ext (by exact Vc.xt)) _ (by omega) (by omega)).mono ?_;rintro _ Ha ⟨rfl,xa⟩;have za:=xa.size)|(rw[e2];refine(zv (hg.ext (by exact Vc.xt)) _ (by omega) (by omega)).mono ?_;rintro _ Hb ⟨rfl,xb⟩;have zb:=xb.size)|(rw[e3];refine(zv (hg.ext (by exact Vc.xt)) _ (by omega) (by omega)).mono ?_;rintro _ Hc ⟨rfl,xc⟩;have zc:=xc.size)|(refine kM.mk ⟨by(simp only[cO,sA,sB,sC,sJ,EP,Ys];omega),?_⟩)|(refine(N1 (sep:=[46]) (hr.ext (by exact Vc.xt)) rfl hl (by omega) (by omega)).mono ?_;rintro _ Hd ⟨rfl,xd⟩;have zd:=xd.size)|((with_reducible refine Vc.cy.held [0,1,2,5,6,7,11,12,13,3,4,8,9,10,14,15,16] [(3,[6,12]),(8,[12])] mixed (by decide+kernel) ?_))|refine Vc.aq ?_)<;>(intros;(conv=>whnf)))))
  all_goals exact⟨by show Value.string _=Value.string _;rw[w1];simp only[kC];rw[<-Vg,av hp,dD],by exact Vc.xt⟩
 .have wV:0<v.pre.length:=bY.2 hp;((conv=>whnf);repeat(any_goals((first|(rw[e1];refine(zv (hg.ext (by exact Vc.xt)) _ (by omega) (by omega)).mono ?_;rintro _ Ha ⟨rfl,xa⟩;have za:=xa.size)|(rw[e2];refine(zv (hg.ext (by exact Vc.xt)) _ (by omega) (by omega)).mono ?_;rintro _ Hb ⟨rfl,xb⟩;have zb:=xb.size)|(rw[e3];refine(zv (hg.ext (by exact Vc.xt)) _ (by omega) (by omega)).mono ?_;rintro _ Hc ⟨rfl,xc⟩;have zc:=xc.size)|(refine kM.mk ⟨by(simp only[cO,sA,sB,sC,sJ,EP,Ys];omega),?_⟩)|(refine(N1 (sep:=[46]) (hr.ext (by exact Vc.xt)) rfl hl (by omega) (by omega)).mono ?_;rintro _ Hd ⟨rfl,xd⟩;have zd:=xd.size)|((with_reducible refine Vc.cy.held [0,1,2,5,6,7,11,12,13,3,4,8,9,10,14,15,16] [(3,[6,12]),(8,[12])] mixed (by decide+kernel) ?_))|refine Vc.aq ?_)<;>(intros;(conv=>whnf)))))
  all_goals exact⟨by show Value.string _=Value.string _;rw[w1,w2];simp only[kC];rw[<-Vg,ak hp],by exact Vc.xt⟩
end Go.Proofs.YtphkaogbcfdllaaGreatDoor
namespace Go.ew
open Go.cN
def GH (a b:List ap):Int:=if a=[]then(if b=[]then 0 else 1)else if b=[]then-1 else lW qd a b
theorem agA (v w:fp):pD v w=if jn v.ma w.ma=0 then(if jn v.mi w.mi=0 then(if jn v.pa w.pa=0 then GH v.pre w.pre else jn v.pa w.pa)else jn v.mi w.mi)else jn v.ma w.ma:=by
 have hp:qk jn (lW qd) ((if v.pre=[]then 1 else 0:Int),v.pre) ((if w.pre=[]then 1 else 0:Int),w.pre)=GH v.pre w.pre:=by
  unfold qk GH;by_cases h1:v.pre=[]<;>by_cases h2:w.pre=[]<;>simp[h1,h2,jn,lW]
 unfold qk at hp;dsimp only at hp;unfold pD GF qk;dsimp only;rw[hp]
theorem ae5 (x y:ap):qd x y=if mr x=true then(if mr y=true then(if jn x.length y.length=0 then rE x y else jn x.length y.length)else-1)else if mr y=true then 1 else rE x y:=by
 unfold qd KM qk;by_cases h1:mr x=true<;>by_cases h2:mr y=true<;>simp[h1,h2,qk,jn]
theorem OC {a b:Int} (h:a<b):jn a b= -1:=by unfold jn;rw[av h]
theorem OD {a b:Int} (h:b<a):jn a b=1:=by unfold jn;rw[ak (by omega),av h]
theorem Vh (a:Int):jn a a=0:=BF.refl a
end Go.ew
namespace Go.Proofs.YtphkaogbcfdllaaGreatDoor
open Go Go.Vc Go.cN Go.ew
theorem tw (a b:Int) (H:ae):az Tryz.prog 161 [.int .i64 a,.int .i64 b] H fun x H'=>x= .int .i64 (jn a b)/\H=H':=by
 refine Vc.az.body Tryz.func161 Tryz.call161 rfl (by decide+kernel) rfl ?_;rcases Int.lt_trichotomy a b with h|h|h
 .rw[OC h];((conv=>whnf);repeat(any_goals((first|refine Vc.aq ?_)<;>(intros;(conv=>whnf)))))
  exact⟨rfl,rfl⟩
 .subst h;rw[Vh];((conv=>whnf);repeat(any_goals((first|refine Vc.aq ?_)<;>(intros;(conv=>whnf)))))
  exact⟨rfl,rfl⟩
 .rw[OD h];((conv=>whnf);repeat(any_goals((first|refine Vc.aq ?_)<;>(intros;(conv=>whnf)))))
  exact⟨rfl,rfl⟩
theorem Kl (l:Bs):(ag l).toList=l:=by rw[ByteArray.toList_eq]
theorem adu (a b:Bs) (H:ae):az Tryz.prog 163 [.string (ag a),.string (ag b)] H fun x H'=>x= .int .i64 (rE a b)/\H=H':=by
 refine Vc.az.body Tryz.func163 Tryz.call163 rfl (by decide+kernel) rfl ?_;have ea:(ag a).toList=a:=Kl a;have eb:(ag b).toList=b:=Kl b;by_cases h1:Op.bytesLess a b=true
 .have h2:Op.bytesLess (ag a).toList (ag b).toList=true:=by rw[ea,eb];exact h1
  have h3:rE a b= -1:=FW.2 h1;rw[h3];((conv=>whnf);repeat(any_goals((first|refine Vc.aq ?_)<;>(intros;(conv=>whnf)))))
  exact⟨rfl,rfl⟩
 .have h1:Op.bytesLess a b=false:=by simpa using h1
  have h2:Op.bytesLess (ag a).toList (ag b).toList=false:=by rw[ea,eb];exact h1
  by_cases h4:a=b
  .have h5:(Op.bytesLess (ag a).toList (ag b).toList || (ag a).toList==(ag b).toList)=true:=by rw[h2,h4,eD];rfl
   have h3:rE a b=0:=(N9.eq a b).2 h4;rw[h3];((conv=>whnf);repeat(any_goals((first|refine Vc.aq ?_)<;>(intros;(conv=>whnf)))))
   exact⟨rfl,rfl⟩
  .have h5:(Op.bytesLess (ag a).toList (ag b).toList || (ag a).toList==(ag b).toList)=false:=by rw[h2,ea,eb];simpa using h4
   have h3:rE a b=1:=N9.gt.2 (FW.2 (Go.cM.xG h1 h4));rw[h3];((conv=>whnf);repeat(any_goals((first|refine Vc.aq ?_)<;>(intros;(conv=>whnf)))))
   exact⟨rfl,rfl⟩
theorem Oe (b:Bool) (H:ae):az Tryz.prog 162 [.bool b] H fun x H'=>x= .int .i64 (if b then 1 else 0)/\H=H':=by
 refine Vc.az.body Tryz.func162 Tryz.call162 rfl (by decide+kernel) rfl ?_;cases b
 ·((conv=>whnf);repeat(any_goals((first|refine Vc.aq ?_)<;>(intros;(conv=>whnf)))))
  exact⟨rfl,rfl⟩
 ·((conv=>whnf);repeat(any_goals((first|refine Vc.aq ?_)<;>(intros;(conv=>whnf)))))
  exact⟨rfl,rfl⟩
structure yu (H:ae) (v:fp) (x:Value):Prop where
 out: ∃ a cap,x=mW v a cap/\v.pre.length<=cap/\Row H a (strs v.pre)
theorem yu.ext {H H':ae} {v:fp} {x:Value} (h:yu H v x) (k:ax H H'):yu H' v x:=by
 obtain⟨a,cap,e,hc,hr⟩:=h.out;exact⟨a,cap,e,hc,hr.ext k⟩
structure yv (v:fp):Prop where
 ma:v.ma<=1000000000
 mi:v.mi<=1000000000
 pa:v.pa<=1000000000
 len:v.pre.length<=1000000000
 pre: ∀ m∈v.pre,m.length<=1000000000
set_option maxHeartbeats 4000000 in
theorem Nz (v w:fp) (hv:yv v) (hw:yv w) (x y:Value) (H:ae) (hx:yu H v x) (hy:yu H w y):az Tryz.prog 105 [x,y] H fun u H'=>u= .int .i64 (pD v w)/\ax H H':=by
 obtain⟨a,ca,rfl,QP,rO⟩:=hx.out;obtain⟨b,cb,rfl,LX,qW⟩:=hy.out;have b1:=hv.len;have b2:=hw.len;have AV:=fun x y H=>tw x y H;rw[agA];refine Vc.az.body Tryz.func105 Tryz.call105 rfl (by decide+kernel) rfl ?_;unfold mW;((conv=>whnf);repeat(any_goals((first|(refine(tw _ _ _).mono ?_;rintro _ _ ⟨rfl,rfl⟩)|refine Vc.aq ?_)<;>(intros;(conv=>whnf)))))
 rename_i H1 z1 g1 x1 H2 z2 g2 x2;have gn:=x1.trans x2;have g12:=g1.ext x2;by_cases Yt:jn v.ma w.ma=0
 case neg=>
  rw[ak Yt];((conv=>whnf);repeat(any_goals((first|refine Vc.aq ?_)<;>(intros;(conv=>whnf)))))
  exact⟨rfl,by exact Vc.xt⟩
 rw[av Yt];by_cases wG:jn v.mi w.mi=0
 case neg=>
  rw[ak wG];((conv=>whnf);repeat(any_goals((first|(refine(tw _ _ _).mono ?_;rintro _ _ ⟨rfl,rfl⟩)|refine Vc.aq ?_)<;>(intros;(conv=>whnf)))))
  exact⟨rfl,by exact Vc.xt⟩
 rw[av wG];by_cases ue:jn v.pa w.pa=0
 case neg=>
  rw[ak ue];((conv=>whnf);repeat(any_goals((first|(refine(tw _ _ _).mono ?_;rintro _ _ ⟨rfl,rfl⟩)|refine Vc.aq ?_)<;>(intros;(conv=>whnf)))))
  exact⟨rfl,by exact Vc.xt⟩
 rw[av ue];by_cases lu:v.pre.length=0
 .have e1:v.pre=[]:=bF lu;unfold GH;rw[av e1];by_cases oF:w.pre.length=0
  .rw[av (bF oF)];have hc:jn (w.pre.length:Int) (v.pre.length:Int)=0:=by rw[lu,oF];rfl
   ((conv=>whnf);repeat(any_goals((first|(refine(tw _ _ _).mono ?_;rintro _ _ ⟨rfl,rfl⟩;try rw[hc])|(refine(Oe _ _).mono ?_;rintro _ _ ⟨rfl,rfl⟩)|((with_reducible refine Vc.cy.held [0,1,2,3,4,5,7,8,9,10,11,12,13,6,14,15,16] [(6,[8,11])] mixed (by decide+kernel) ?_))|refine Vc.aq ?_)<;>(intros;(conv=>whnf)))))
   exact⟨by show Value.int .i64 _=Value.int .i64 _;rw[Int.zero_mul],gn⟩
  .rw[ak (fun e=>oF (by rw[e];rfl))];have hc:jn (w.pre.length:Int) (v.pre.length:Int)=1:=OD (by omega);((conv=>whnf);repeat(any_goals((first|(refine(tw _ _ _).mono ?_;rintro _ _ ⟨rfl,rfl⟩;try rw[hc])|(refine(Oe _ _).mono ?_;rintro _ _ ⟨rfl,rfl⟩)|((with_reducible refine Vc.cy.held [0,1,2,3,4,5,7,8,9,10,11,12,13,6,14,15,16] [(6,[8,11])] mixed (by decide+kernel) ?_))|refine Vc.aq ?_)<;>(intros;(conv=>whnf)))))
   exact⟨by show Value.int .i64 _=Value.int .i64 _;rw[av (by rw[dM];omega)];rfl,gn⟩
 have n1:v.pre≠ []:=fun e=>lu (by rw[e];rfl);unfold GH;rw[ak n1];by_cases oF:w.pre.length=0
 .rw[av (bF oF)];have hc:jn (w.pre.length:Int) (v.pre.length:Int)= -1:=OC (by omega);((conv=>whnf);repeat(any_goals((first|(refine(tw _ _ _).mono ?_;rintro _ _ ⟨rfl,rfl⟩;try rw[hc])|(refine(Oe _ _).mono ?_;rintro _ _ ⟨rfl,rfl⟩)|((with_reducible refine Vc.cy.held [0,1,2,3,4,5,7,8,9,10,11,12,13,6,14,15,16] [(6,[8,11])] mixed (by decide+kernel) ?_))|refine Vc.aq ?_)<;>(intros;(conv=>whnf)))))
  exact⟨by show Value.int .i64 _=Value.int .i64 _;rw[av (by rw[dM];omega)];rfl,gn⟩
 have n2:w.pre≠ []:=fun e=>oF (by rw[e];rfl);rw[ak n2];((conv=>whnf);repeat(any_goals((first|(refine(tw _ _ _).mono ?_;rintro _ _ ⟨rfl,rfl⟩)|refine Vc.aq ?_)<;>(intros;(conv=>whnf)))))
 obtain⟨Z,hZ⟩: ∃ Z,lW qd v.pre w.pre=Z:=⟨_,rfl⟩;rw[hZ];refine dt.intro (fun(i:Nat)=>[(8,.int .i64 i)]) (fun i H'=>H2=H'/\i<=v.pre.length/\i<=w.pre.length/\Z=lW qd (v.pre.drop i) (w.pre.drop i)) (fun i=>v.pre.length-i) 0 ⟨rfl,aF⟩ ⟨rfl,aI _,aI _,hZ.symm⟩ ?_;rintro i _ ⟨rfl,hi,hj,hinv⟩;by_cases h1:i<v.pre.length
 .by_cases h2:i<w.pre.length
  .obtain⟨x,hx⟩: ∃ x,v.pre[i]? =some x:=⟨_,aD h1⟩;obtain⟨y,hy⟩: ∃ y,w.pre[i]? =some y:=⟨_,aD h2⟩;have Qs:v.pre.drop i=x::v.pre.drop (i+1):=by rw[bP h1];rw[aD h1]at hx;injection hx with hx;rw[hx]
   have hdy:w.pre.drop i=y::w.pre.drop (i+1):=by rw[bP h2];rw[aD h2]at hy;injection hy with hy;rw[hy]
   have Yu:lW qd (v.pre.drop i) (w.pre.drop i)=if qd x y=0 then lW qd (v.pre.drop (i+1)) (w.pre.drop (i+1))else qd x y:=by rw[Qs,hdy];rfl
   rw[Yu]at hinv;clear Yu;have lF:qd x y=if mr x=true then(if mr y=true then(if jn ((ag x).size:Int) ((ag y).size:Int)=0 then rE x y else jn ((ag x).size:Int) ((ag y).size:Int))else-1)else if mr y=true then 1 else rE x y:=ae5 x y
   have kx:=fun H=>Jy x (hv.pre x (aU hx)) H;have ky:=fun H=>Jy y (hw.pre y (aU hy)) H;generalize qd x y=M at*
   cases hX:mr x<;>cases hY:mr y
   all_goals rw[hX]at kx lF
   all_goals rw[hY]at ky lF
   all_goals simp only[gB,fP,eY]at lF
   all_goals try(have:=(hX:mr x=true);have:=(hY:mr y=true);by_cases hlen:jn ((ag x).size:Int) ((ag y).size:Int)=0)
   all_goals try rw[av hlen]at lF
   all_goals try rw[ak hlen]at lF
   all_goals by_cases hm:M=0
   all_goals try rw[av hm]at hinv
   all_goals try rw[ak hm]at hinv
   all_goals try(exfalso;omega)
   all_goals((conv=>whnf);repeat(any_goals((first|(refine cm.fe (rO.ext gn) rfl i x rfl hx ?_;intro _ _ _ _ _)|(refine cm.fe (qW.ext gn) rfl i y rfl hy ?_;intro _ _ _ _ _)|(refine(kx _).mono ?_;rintro _ _ ⟨rfl,rfl⟩)|(refine(ky _).mono ?_;rintro _ _ ⟨rfl,rfl⟩)|(refine(tw _ _ _).mono ?_;rintro _ _ ⟨rfl,rfl⟩)|(refine(adu _ _ _).mono ?_;rintro _ _ ⟨rfl,rfl⟩)|refine Vc.aq ?_)<;>(intros;(conv=>whnf)))))
   all_goals first|exact⟨i+1,⟨rfl,aF⟩,⟨rfl,by omega,by omega,hinv⟩,by omega⟩|exact⟨by rw[hinv,lF];rfl,gn⟩
  .have e2:w.pre.drop i=[]:=aV (by omega);have hd:lW qd (v.pre.drop i) (w.pre.drop i)=1:=by
    rw[e2,bP h1];rfl
   rw[hd]at hinv;have hc:jn (v.pre.length:Int) (w.pre.length:Int)=1:=OD (by omega);((conv=>whnf);repeat(any_goals((first|(refine(tw _ _ _).mono ?_;rintro _ _ ⟨rfl,rfl⟩)|refine Vc.aq ?_)<;>(intros;(conv=>whnf)))))
   exact⟨by rw[hc,hinv];rfl,gn⟩
 .have e1:v.pre.drop i=[]:=aV (by omega);by_cases h2:i<w.pre.length
  .have hd:lW qd (v.pre.drop i) (w.pre.drop i)= -1:=by
    rw[e1,bP h2];rfl
   rw[hd]at hinv;have hc:jn (v.pre.length:Int) (w.pre.length:Int)= -1:=OC (by omega);((conv=>whnf);repeat(any_goals((first|(refine(tw _ _ _).mono ?_;rintro _ _ ⟨rfl,rfl⟩)|refine Vc.aq ?_)<;>(intros;(conv=>whnf)))))
   exact⟨by rw[hc,hinv];rfl,gn⟩
  .have e2:w.pre.drop i=[]:=aV (by omega);have hd:lW qd (v.pre.drop i) (w.pre.drop i)=0:=by rw[e1,e2];rfl
   rw[hd]at hinv;have hc:jn (v.pre.length:Int) (w.pre.length:Int)=0:=by rw[show v.pre.length=w.pre.length by omega];exact Vh _
   ((conv=>whnf);repeat(any_goals((first|(refine(tw _ _ _).mono ?_;rintro _ _ ⟨rfl,rfl⟩)|refine Vc.aq ?_)<;>(intros;(conv=>whnf)))))
   exact⟨by rw[hc,hinv];rfl,gn⟩
end Go.Proofs.YtphkaogbcfdllaaGreatDoor
namespace Go.ew
def KN (n:Nat):Nat:=if 999999999<=n then n else n+1
def ou (v:fp) (part:Nat):fp:=
 if part=0 then(if v.ma<999999999 then⟨v.ma+1,0,0,[]⟩else⟨v.ma,v.mi,v.pa,[]⟩)
 else if part=1 then(if v.mi<999999999 then⟨v.ma,v.mi+1,0,[]⟩else⟨v.ma,v.mi,v.pa,[]⟩)
 else⟨v.ma,v.mi,KN v.pa,[]⟩
end Go.ew
namespace Go.Proofs.YtphkaogbcfdllaaGreatDoor
open Go Go.Vc Go.cN Go.ew
theorem adv (n:Nat) (hn:n<=1000000000) (H:ae):az Tryz.prog 227 [.int .i64 n] H fun x H'=>x= .int .i64 (KN n)/\H=H':=by
 refine Vc.az.body Tryz.func227 Tryz.call227 rfl (by decide+kernel) rfl ?_;unfold KN;by_cases h:999999999<=n
 .rw[av h];((conv=>whnf);repeat(any_goals((first|refine Vc.aq ?_)<;>(intros;(conv=>whnf)))))
  exact⟨rfl,rfl⟩
 .rw[ak h];((conv=>whnf);repeat(any_goals((first|refine Vc.aq ?_)<;>(intros;(conv=>whnf)))))
  exact⟨rfl,rfl⟩
set_option maxHeartbeats 4000000 in
theorem JW (v:fp) (hv:yv v) (part:Nat) (hp:part<=2) (y:Value) (H:ae) (hy:yu H v y):az Tryz.prog 192 [y,.int .i64 part] H fun x H'=>x=mW (ou v part) none 0/\ax H H':=by
 obtain⟨a,c,ey,hc,hr⟩:=hy.out;subst ey;have b1:=hv.ma;have b2:=hv.mi;have b3:=hv.pa;refine Vc.az.body Tryz.func192 Tryz.call192 rfl (by decide+kernel) rfl ?_;unfold mW;rcases (by omega:part=0\/part=1\/part=2)with rfl|rfl|rfl
 .by_cases h:v.ma<999999999
  .rw[show ou v 0=⟨v.ma+1,0,0,[]⟩by unfold ou;rw[av rfl,av h]];((conv=>whnf);repeat(any_goals((first|(refine da.build #[.int .i64 ((v.ma:Int)+1),.int .i64 0,.int .i64 0,.slice none 0 0] (by kernel_rfl) ?_)|refine Vc.aq ?_)<;>(intros;(conv=>whnf)))))
   exact⟨rfl,by exact Vc.xt⟩
  .rw[show ou v 0=⟨v.ma,v.mi,v.pa,[]⟩by unfold ou;rw[av rfl,ak h]];((conv=>whnf);repeat(any_goals((first|refine Vc.aq ?_)<;>(intros;(conv=>whnf)))))
   exact⟨rfl,by exact Vc.xt⟩
 .by_cases h:v.mi<999999999
  .rw[show ou v 1=⟨v.ma,v.mi+1,0,[]⟩by unfold ou;rw[ak (by decide),av rfl,av h]];((conv=>whnf);repeat(any_goals((first|(refine da.build #[.int .i64 v.ma,.int .i64 ((v.mi:Int)+1),.int .i64 0,.slice none 0 0] (by kernel_rfl) ?_)|refine Vc.aq ?_)<;>(intros;(conv=>whnf)))))
   exact⟨rfl,by exact Vc.xt⟩
  .rw[show ou v 1=⟨v.ma,v.mi,v.pa,[]⟩by unfold ou;rw[ak (by decide),av rfl,ak h]];((conv=>whnf);repeat(any_goals((first|refine Vc.aq ?_)<;>(intros;(conv=>whnf)))))
   exact⟨rfl,by exact Vc.xt⟩
 .rw[show ou v 2=⟨v.ma,v.mi,KN v.pa,[]⟩by unfold ou;rw[ak (by decide),ak (by decide)]];((conv=>whnf);repeat(any_goals((first|(refine(adv v.pa (by omega) _).mono ?_;rintro _ _ ⟨rfl,rfl⟩)|refine Vc.aq ?_)<;>(intros;(conv=>whnf)))))
  exact⟨rfl,by exact Vc.xt⟩
end Go.Proofs.YtphkaogbcfdllaaGreatDoor
namespace Go.ew
open Go.cN
def rl (s:ap):List ap:=(dj 32 s).filter fun w=>decide (w≠ [])
end Go.ew
namespace Go.Proofs.YtphkaogbcfdllaaGreatDoor
open Go Go.Vc Go.cN Go.ew
structure WdS where
 i:Nat
 out:List Bs
 a:Option Addr
 cap:Nat
set_option maxHeartbeats 4000000 in
theorem R7 (s:Bs) (hl:s.length<=100000000) (H:ae):az Tryz.prog 142 [.string (ag s)] H fun v H'=>(∃ a cap,v= .slice a (rl s).length cap/\cq H' H.size 9 1 a (rl s).length cap (strs (rl s)))/\ax H H':=by
 have jq:=fun H=>Nc s 32 hl H;have CL:=(Dd 32 s).1;obtain⟨q,hq⟩: ∃ q,dj 32 s=q:=⟨_,rfl⟩;unfold rl;rw[hq]at jq CL ⊢;refine Vc.az.body Tryz.func142 Tryz.call142 rfl (by decide+kernel) rfl ?_;((conv=>whnf);repeat(any_goals((first|(refine(jq _).mono ?_;rintro _ H1 ⟨⟨a1,c1,rfl,fg⟩,cd⟩;have eR:=cd.size)|refine Vc.aq ?_)<;>(intros;(conv=>whnf)))))
 refine dt.intro (fun(x:WdS)=>[(5,.int .i64 x.i),(3,.slice x.a x.out.length x.cap)]) (fun x H'=>x.i<=q.length/\x.out.length<=x.i/\x.out=(q.take x.i).filter (fun w=>decide (w≠ []))/\cq H' H1.size 9 1 x.a x.out.length x.cap (strs x.out)/\ax H1 H') (fun x=>q.length-x.i) ⟨0,[],none,0⟩ ⟨rfl,rfl,aF⟩ ⟨aI _,aB _,rfl,cq.nil _ _ _ _,ax.refl _⟩ ?_;rintro⟨i,out,a,cap⟩ H2 ⟨hi,j5,mG,dy,bh⟩;dsimp only at hi j5 mG dy bh ⊢;have dT:=bh.size;by_cases ct:i<q.length
 .obtain⟨w,hw⟩: ∃ w,q[i]? =some w:=⟨_,aD ct⟩;have ht:q.take (i+1)=q.take i++[w]:=by rw[bX,hw];rfl
  by_cases cz:w=[]
  .have e:((ag w).toList==(⟨#[]⟩:ByteArray).toList)=true:=by show((ag w).toList==(ag []).toList)=true;rw[p7];exact bB cz
   ((conv=>whnf);repeat(any_goals((first|(refine cm.fe (fg.row.ext bh) rfl i w (by omega) hw ?_;intro _ _ _ _ _)|refine Vc.aq ?_)<;>(intros;(conv=>whnf)))))
   exact⟨⟨i+1,out,a,cap⟩,⟨rfl,rfl,aF⟩,⟨by show i+1<=_;omega,by show out.length<=i+1;omega,by show out=(q.take (i+1)).filter _;rw[ht,List.filter_append,<-mG];simp[cz],dy,bh⟩,by show q.length-(i+1)<q.length-i;omega⟩
  .have e:((ag w).toList==(⟨#[]⟩:ByteArray).toList)=false:=by show((ag w).toList==(ag []).toList)=false;rw[p7];exact aN cz
   ((conv=>whnf);repeat(any_goals((first|(refine cm.fe (fg.row.ext bh) rfl i w (by omega) hw ?_;intro _ _ _ _ _)|refine Vc.aq ?_)<;>(intros;(conv=>whnf)))))
   rename_i H5 qD im cE b9 o9 q1 q2 q3 a6 c6 H6 ei cV;exact⟨⟨i+1,out++[w],a6,c6⟩,⟨rfl,uF _ _ _ _,aF⟩,⟨by show i+1<=_;omega,by show(out++[_]).length<=i+1;simp;omega,by show out++[w]=(q.take (i+1)).filter _;rw[ht,List.filter_append,<-mG];simp[cz],tp rfl ei,cV⟩,by show q.length-(i+1)<q.length-i;omega⟩
 .rw[aL (by omega)]at mG;((conv=>whnf);repeat(any_goals((first|refine Vc.aq ?_)<;>(intros;(conv=>whnf)))))
  rw[<-mG];exact⟨⟨a,cap,rfl,dy.base (by omega)⟩,cd.trans bh⟩
end Go.Proofs.YtphkaogbcfdllaaGreatDoor
