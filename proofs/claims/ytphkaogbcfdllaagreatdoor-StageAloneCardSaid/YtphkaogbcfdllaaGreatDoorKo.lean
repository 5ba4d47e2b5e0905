import Derived.Test.YtphkaogbcfdllaaGreatDoorKg
import Derived.Test.YtphkaogbcfdllaaGreatDoorKe
import Derived.Test.YtphkaogbcfdllaaGreatDoorKd
set_option linter.unusedVariables false
set_option linter.unusedSimpArgs false
set_option maxRecDepth 100000
/- Build scripts at work, the code: a run. -/
namespace Go.Proofs.YtphkaogbcfdllaaGreatDoor
open Go Go.Vc Go.cN Go.eg Go.cM Go.bu Go.Run
theorem jU.fuel {H H':ae} {m:MP} {s:St} {M:List Nat} {f f':Nat} (h:jU H m s M f) (hb:bu H' m.g (uW m f') 139) (k:fw m.g H H'):jU H' m s M f':=by
 have oL:M.length=m.n:=by rw[h.rel.len,h.qR]
 have QD:m.O.length=m.n:=by rw[h.wm.wj,h.qR]
 have QE:m.Hd.length=m.n:=by rw[h.wm.yo,h.qR]
 have Ec: ∀ {g:Nat} {l:List Nat},jf H m.B g m.n l->l.length=m.n->jf H' m.B g m.n l:=fun{g l} ht hl=>ht.keep k fun p hp e=>by
  cases hp;dsimp only at e;have h1:=ht.cL hl;rw[e]at h1;exact absurd (pw h1 h.cL).1 (by decide)
 refine⟨hb,Ec h.jT QD,Ec h.uo QE,Ec h.pP oL,Uh h.row k fun x e _=>by subst e;exact h.WU.mF,h.len,h.small,h.lens,h.CP,h.tree.keep k (fun e=> ?_) (fun e=>h.tree.map.ne h.cL e) (fun x e _=>by subst e;exact .inl h.WU),h.vars.keep k (fun v hv e=> ?_),h.wm,h.rel,h.mH,h.d1,h.d2,h.dv⟩
 .have h1:=h.tree.cL;rw[e]at h1;exact absurd (pw h1 h.cL).1 (by decide)
 .obtain⟨W,_,hW⟩:=zu h.vars hv;exact hW.ne h.cL e
theorem ajm {K:Value->Prop} {o1 o2 o3 o4 o5 o6:Operand} {go gh gm al:Option Addr} {n c1 n2 c2 n3 c3 n4 c4:Nat} {p:Option Addr} {vm:Option Nat} {f:Int} (h:K (.agg #[.slice go n c1,.slice gh n2 c2,.slice al n3 c3,.pointer p,.map vm,.slice gm n4 c4,.int .i64 f])):
  da Tryz.prog (Instr.build 139 ((List.map (fun x:Nat×Operand=>x.1) (#[(0,o1),(1,o2),(2,o3),(3,o4),(4,o5),(5,o6)]:Array (Nat×Operand)).toList).zip [.agg #[.slice go n c1,.slice gh n2 c2],.slice al n3 c3,.pointer p,.map vm,.slice gm n4 c4,.int .i64 f]).toArray) K:=da.build _ (by kernel_rfl) h
structure W0 (H H':ae) (L:List Ln) (al:Option Addr) (cl n b mb:Nat) (vm:Option Nat) (s:St) (F:Nat) (m:MP):Prop where
 mac:jU H' m s (List.replicate n 0) F
 eqs:m.al=al/\m.cl=cl/\m.n=n/\m.L=L/\m.b=b/\m.mb=mb/\m.vm=vm
 low:H.size<=m.g/\H.size<=m.go/\H.size<=m.gh/\H.size<=m.gm
 ext:ax H H'
structure RnS where
 s:St
 M:List Nat
 u:Nat
 f:Nat
theorem kS.keep {F:Nat->Prop} {H H':ae} (h:kS H) (k:cD F H H') (hF: ¬F 0/\ ¬F 1):kS H':=by
 refine⟨jj h.et k hF.1,?_⟩;obtain⟨t,fr,h1⟩:=h.tab;exact⟨t,fr,by rw[k.same 1 (aP.1 h1).1 hF.2];exact h1⟩
set_option maxHeartbeats 4000000 in
theorem agv {H:ae} {al:Option Addr} {cl n b mb:Nat} {vm:Option Nat} {V:Option kP} {A:Tr} {L:List Ln} (hr:Row H al (lL L)) (hl:L.length=n) (hn:n<=1000000) (cz:mn (cY L)) (Pf: ∀ x∈L,x.a.length<=1000000/\x.b.length<=1000000/\x.tx.length<=1000000/\x.n<=1000000)
  (ht:iQ no H b mb A) (hv:pA H vm V) (hA:dr A) (QQ: ∀ v,vm=some v->v≠mb) (hg:kS H) (tO:2<=b/\2<=mb/\ ∀ v,vm=some v->2<=v) (hH:2<=H.size) (fuel:Int) (F:Nat) (hF:min (max fuel 0) 65536=(F:Int)):
  az Tryz.prog 18 [.slice al n cl,.pointer (some ⟨b,0,none⟩),.map vm,.int .i64 fuel] H fun v H'=>∃ er,v= .tuple #[.int .i64 (jF L F 0 ⟨0,A,V,[]⟩).1.1,.int .i64 (jF L F 0 ⟨0,A,V,[]⟩).2.at_,er]/\
   (if(jF L F 0 ⟨0,A,V,[]⟩).1.2=0 then er= .nilIface else j7 H' [([108,105,110,101],Lib.itoa ((jF L F 0 ⟨0,A,V,[]⟩).2.at_:Int))] (.num (jF L F 0 ⟨0,A,V,[]⟩).1.2) er)/\
   iQ no H' b mb (jF L F 0 ⟨0,A,V,[]⟩).2.A/\pA H' vm (jF L F 0 ⟨0,A,V,[]⟩).2.V/\cD (fun x=>x=b\/x=mb\/vm=some x) H H':=by
 refine Vc.az.body Tryz.func18 Tryz.call18 rfl (by decide+kernel) rfl ?_;((conv=>whnf);repeat(any_goals((first|refine Vc.pe ?_|refine Vc.bz ?_ ?_)<;>(intros;(conv=>whnf)))))
 have jQ:(cY L).length=n:=by rw[Dl,hl]
 have fin: ∀ {env:Env} {H':ae} {g go gh gm:Nat} {O Hd:List Nat},bu H' g #[.slice (some ⟨go,0,none⟩) n n,.slice (some ⟨gh,0,none⟩) n n,.slice al n cl,.pointer (some ⟨b,0,none⟩),.map vm,.slice (some ⟨gm,0,none⟩) n n,.int .i64 (min (max fuel 0) 65536)] 139->Bears env [(11,.pointer (some ⟨g,0,none⟩))]->jf H' H.size go n O->jf H' H.size gh n Hd->Go.bu.Tables (cY L) O Hd->jf H' H.size gm n (List.replicate n 0)->go≠gm->gh≠gm->H.size<=g->ax H H'->
   ∃ m:MP,Bears env [(11,.pointer (some ⟨m.g,0,none⟩))]/\W0 H H' L al cl n b mb vm ⟨0,A,V,[]⟩ F m:=by
  intro env H' g go gh gm O Hd hb oM hO yN CB hM h1 h2 hg hx;rw[hF]at hb;refine⟨⟨H.size,g,go,gh,gm,al,cl,n,L,O,Hd,b,mb,vm⟩,oM,⟨⟨hb,hO,yN,hM,hr.ext hx,hl,hn,Pf,fun c hc=>by rw[List.eq_of_mem_replicate hc];omega,ht.ext hx,hv.ext hx,CB,?_,hA,h1,h2,QQ⟩,⟨rfl,rfl,rfl,rfl,rfl,rfl,rfl⟩,⟨hg,(hO.block _ rfl).1,(yN.block _ rfl).1,(hM.block _ rfl).1⟩,hx⟩⟩;have:=kY.zero (cY L);rw[jQ]at this;exact this
 refine jO.cut (fun(m:MP)=>[(11,.pointer (some ⟨m.g,0,none⟩))]) (fun m H'=>W0 H H' L al cl n b mb vm ⟨0,A,V,[]⟩ F m) ?_ ?_
 ·((conv=>whnf);repeat(any_goals((first|((with_reducible apply aE.make);rfl;rfl;rfl;(show 8*n<=_;omega);(unfold maxLen;omega);(focus((intro Hx jI yF;replace jI:jf Hx _ _ n (List.replicate n 0):=(by(show cq _ _ _ 1 _ _ _ (kH (List.replicate n 0)));rw[<-Ui];exact jI);have hzx:=yF.size;have QN:=(show _<Hx.size from(jI.block _ rfl).2);dsimp only at QN;(conv=>whnf)))))|(refine(aeU (hr.ext (by exact Vc.xt)) hl hn cz).mono ?_;rintro _ Hf ⟨⟨go,gh,O,Hd,rfl,hO,yN,CB⟩,qx⟩;have LB:=qx.size)|((with_reducible apply ajm);(conv=>whnf))|(first|(with_reducible refine Vc.cy.ku (id:=1) mixed ?_)|(with_reducible refine Vc.cg.split (es:=[]) 1 7 (by decide) (by decide) (by decide) ?_ ?_)|(with_reducible refine Vc.cg.held (es:=[(1,7)]) [0,2,3,4,5,6,8,9,10,1,7,11,12,13] [] (by decide+kernel) ?_)|(with_reducible refine Vc.cg.held (es:=[(7,1)]) [0,2,3,4,5,6,8,9,10,7,1,11,12,13] [] (by decide+kernel) ?_))|refine Vc.aq ?_|refine Vc.bz ?_ ?_)<;>(intros;(conv=>whnf)))))
  .rename_i H4 z4 b4 x4;have h1:=(hO.block _ rfl).2;have h2:=(yN.block _ rfl).2;dsimp only at h1 h2;exact fin b4 ⟨rfl,aF⟩ (hO.ext (yF.trans x4)) (yN.ext (yF.trans x4)) CB ((Go.Vc.cq.base jI (by omega)).ext x4) (by omega) (by omega) (by omega) (qx.trans (yF.trans x4))
  .rename_i H4 z4 b4 x4;have h1:=(hO.block _ rfl).1;have h2:=(yN.block _ rfl).1;dsimp only at h1 h2;exact fin b4 ⟨rfl,aF⟩ (Go.Vc.cq.ext (Go.Vc.cq.base hO (by omega)) x4) (Go.Vc.cq.ext (Go.Vc.cq.base yN (by omega)) x4) CB (Go.Vc.cq.ext jI (qx.trans x4)) (by omega) (by omega) (by omega) (yF.trans (qx.trans x4))
 .rintro m H2 hj;obtain⟨rfl,rfl,rfl,rfl,rfl,rfl,rfl⟩:=hj.eqs;have hm:=hj.mac;have jd:=hm.small;have di:=hm.cL;unfold uW at di;((conv=>whnf);repeat(any_goals((first|refine Vc.aq ?_)<;>(intros;(conv=>whnf)))))
  refine dt.intro (fun(x:RnS)=>[(13,.int .i64 x.s.at_)]) (fun x H'=>jU H' m x.s x.M x.f/\x.u+x.f=F/\jF m.L F 0 ⟨0,A,V,[]⟩=jF m.L x.f x.u x.s/\x.s.at_<=m.n/\(∀ p∈x.s.S,p.1<m.L.length)/\cD (fun y=>po m y\/y=m.g) H2 H') (fun x=>x.f) ⟨⟨0,A,V,[]⟩,List.replicate m.n 0,0,F⟩ ⟨rfl,aF⟩ ⟨hm,by simp,rfl,aI _,(fun p hp=>(by cases hp)),cD.refl _ _⟩ ?_;rintro⟨s,M,u,f⟩ H3 ⟨iG,huf,tK,fy,hS,bw⟩;dsimp only at iG huf tK fy hS bw ⊢;rw[tK];have fR:=iG.cL;unfold uW at fR;have eJ:=bw.size;have Lz: ∀ y,(po m y\/y=m.g)->y=m.b\/y=m.mb\/m.vm=some y\/H.size<=y:=fun y e=>by
   obtain⟨l1,l2,l3,l4⟩:=hj.low;rcases e with (e|e|e|e)|e
   .exact .inl e
   .exact .inr (.inl e)
   .exact .inr (.inr (.inl e))
   .exact .inr (.inr (.inr (by omega)))
   .exact .inr (.inr (.inr (by omega)))
  have hG: ∀ {H4:ae},cD (fun y=>po m y\/y=m.g) H2 H4->kS H4:=fun{H4} k=>hg.keep (F:=fun y=>2<=y) (cD.trans hj.ext.only k fun y _ e=>by
   rcases Lz y e with e|e|e|e
   .rw[e];exact tO.1
   .rw[e];exact tO.2.1
   .exact tO.2.2 y e
   .show 2<=y;omega) (by omega)
  have hG3:=hG bw;have post: ∀ {H4:ae} {s4:St} {M4:List Nat} {f4:Nat},jU H4 m s4 M4 f4->cD (fun y=>po m y\/y=m.g) H2 H4->iQ no H4 m.b m.mb s4.A/\pA H4 m.vm s4.V/\cD (fun x=>x=m.b\/x=m.mb\/m.vm=some x) H H4:=fun{H4 s4 M4 f4} mA k=>⟨mA.tree,mA.vars,cD.trans hj.ext.only k fun y hy e=>by
   rcases Lz y e with e|e|e|e
   .exact .inl e
   .exact .inr (.inl e)
   .exact .inr (.inr e)
   .omega⟩
  by_cases ct:s.at_<m.n
  .obtain⟨x,hx⟩: ∃ x,m.L[s.at_]? =some x:=⟨_,aD (by rw[iG.len];exact ct)⟩;cases f with
   |zero=>
    rw[aeK (by rw[iG.len];exact ct)];((conv=>whnf);repeat(any_goals((first|(refine(zv (hG3.ext (by exact Vc.xt)) (s.at_:Int) (by omega) (by omega)).mono ?_;rintro _ H6 ⟨rfl,cV⟩;have fS:=cV.size)|(have:=cV;refine(N7 [108,105,110,101] (Lib.itoa (s.at_:Int)) (ws:=[]) (b:= .num 73) (show j7 _ [] (.num 73) _ from rfl)).mono ?_;rintro er H7 ⟨jA,dq⟩;have jK:=dq.size)|((with_reducible refine Vc.cy.held [0,1,2,3,4,5,6,7,9,10,8,11,12,13,14] [(8,[4]),(11,[4])] mixed (by decide+kernel) ?_))|refine Vc.aq ?_)<;>(intros;(conv=>whnf)))))
    have Yf:=cV.trans dq;obtain⟨p1,p2,p3⟩:=post (iG.ext Yf) (bw.ext Yf);rw[ak (by decide)]at jA;exact⟨er,by show Value.tuple #[.int .i64 ((F:Int)-((0:Nat):Int)),_,_]=Value.tuple #[.int .i64 (u:Int),_,_];rw[show(F:Int)-((0:Nat):Int)=u by omega],by rw[ak (show ¬(73:Nat)=0 by decide)];exact jA,p1,p2,p3⟩
   |succ f=>
    have cW:=Vd (L:=m.L) cz hx hS;have uq:=iG.len;rw[Nv hx];have qz:=fR.lt;by_cases he:(fX (cY m.L) x s).2=0
    .rw[av he];((conv=>whnf);repeat(any_goals((first|(refine dc.jB (o:=0+6) fR rfl rfl rfl (show 6<7 by decide) ?_;intro H4 z4 b4 k4;rw[show(((f+1:Nat):Int)-1)=(f:Int)by omega]at b4;have b4:bu H4 m.g (uW m f) 139:=b4;have mA:=iG.fuel b4 k4;have cH:=cD.trans bw k4 fun y _ e=>(.inr e:po m y\/y=m.g))|(have:=mA;refine(VF mA cz hx).mono ?_;rintro v5 H5 QR;obtain⟨nx,M5,rfl,GD,qY,eW⟩:=QR.out;have cE:=cD.trans cH eW fun y _ e=>(.inl e:po m y\/y=m.g);rw[he]at GD ⊢;have GD:=GD rfl)|refine Vc.aq ?_)<;>(intros;(conv=>whnf)))))
     refine⟨⟨(fX (cY m.L) x s).1,M5,u+1,f⟩,⟨by show Value.int _ _=Value.int _ _;rw[GD],aF⟩,⟨qY,by show u+1+f=F;omega,rfl,by show(fX (cY m.L) x s).1.at_<=m.n;omega,cW.2,cE⟩,by show f<f+1;omega⟩
    .rw[ak he];obtain⟨E,hE⟩: ∃ E,(fX (cY m.L) x s).2=E:=⟨_,rfl⟩;rw[hE]at he;have hEl:=Tv (cY m.L) x s;rw[hE]at hEl;have heb:((E:Int) != 0)=true:=by rw[dM];omega
     ((conv=>whnf);repeat(any_goals((first|(refine dc.jB (o:=0+6) fR rfl rfl rfl (show 6<7 by decide) ?_;intro H4 z4 b4 k4;rw[show(((f+1:Nat):Int)-1)=(f:Int)by omega]at b4;have b4:bu H4 m.g (uW m f) 139:=b4;have mA:=iG.fuel b4 k4;have cH:=cD.trans bw k4 fun y _ e=>(.inr e:po m y\/y=m.g))|(have:=mA;refine(VF mA cz hx).mono ?_;rintro v5 H5 QR;obtain⟨nx,M5,rfl,GD,qY,eW⟩:=QR.out;have cE:=cD.trans cH eW fun y _ e=>(.inl e:po m y\/y=m.g);rw[hE];have im:=qY.cL;unfold uW at im;have ij:=cE.size)|(refine(zv ((hG cE).ext (by exact Vc.xt)) (s.at_:Int) (by omega) (by omega)).mono ?_;rintro _ H6 ⟨rfl,cV⟩;have fS:=cV.size)|(have:=cV;refine(N7 [108,105,110,101] (Lib.itoa (s.at_:Int)) (ws:=[]) (b:= .num E) (show j7 _ [] (.num E) _ from rfl)).mono ?_;rintro er H7 ⟨jA,dq⟩;have jK:=dq.size)|((with_reducible refine Vc.cy.held [0,1,2,3,4,5,6,7,9,10,8,11,12,13,14] [(8,[4]),(11,[4])] mixed (by decide+kernel) ?_))|refine Vc.aq ?_)<;>(intros;(conv=>whnf)))))
     have Yg:=cV.trans dq;obtain⟨p1,p2,p3⟩:=post (qY.ext Yg) (cE.ext Yg);rw[ak (by show ¬((E:Int)==0)=true;rw[bU];omega)]at jA;exact⟨er,by show Value.tuple #[.int .i64 ((F:Int)-(f:Int)),_,_]=Value.tuple #[.int .i64 ((u+1:Nat):Int),_,_];rw[show(F:Int)-(f:Int)=((u+1:Nat):Int)by omega],by rw[ak he];exact jA,p1,p2,p3⟩
  .rw[Ua (by rw[iG.len];omega)];((conv=>whnf);repeat(any_goals((first|refine Vc.aq ?_)<;>(intros;(conv=>whnf)))))
   obtain⟨p1,p2,p3⟩:=post iG bw;have ha:s.at_=m.n:=by omega
   exact⟨.nilIface,by show Value.tuple #[.int .i64 ((F:Int)-f),_,_]=Value.tuple #[.int .i64 (u:Int),.int .i64 (s.at_:Int),_];rw[ha,show(F:Int)-f=u by omega],by rw[av rfl],p1,p2,p3⟩
end Go.Proofs.YtphkaogbcfdllaaGreatDoor
namespace Go.cN
theorem JH: ∀ (n:Nat) (l:ap) (ws:List ap),mR n l=some ws->ws.length<=l.length/\ ∀ x∈ws,x≠ []/\x.length<=l.length
 |n,[],ws,h=>by cases n<;>(cases h;exact⟨aB _,fun x hx=>by cases hx⟩)
 |0,c::t,ws,h=>by cases h
 |n+1,c::t,ws,h=>by
  unfold mR at h;simp only[ay];split at h
  .obtain⟨h1,h2⟩:=JH n t ws h;exact⟨by omega,fun x hx=>⟨(h2 x hx).1,by have:=(h2 x hx).2;omega⟩⟩
  .split at h
   .cases hq:gS t with
    |none=>rw[hq]at h;cases h
    |some p=>
     obtain⟨w,r⟩:=p;have h3:=Bl _ t (aB _) hq;have h4:=Go.Proofs.YtphkaogbcfdllaaGreatDoor.Fc _ t (aB _) hq;rw[hq]at h;dsimp only at h;split at h
     .cases h
     .cases hr:mR n r with
      |none=>rw[hr]at h;cases h
      |some l=>
       rw[hr]at h;cases h;obtain⟨h1,h2⟩:=JH n r l hr;refine⟨by simp only[ay];omega,fun x hx=> ?_⟩;rcases aM.1 hx with rfl|hx
       .exact⟨by simp,by simp only[ay];omega⟩
       .exact⟨(h2 x hx).1,by have:=(h2 x hx).2;omega⟩
   .have h3:=C5 (p:=fun x=> !gR x) t;have h4:=(List.takeWhile_sublist (fun x=> !gR x) (l:=t)).length_le;cases hr:mR n (t.dropWhile fun x=> !gR x)with
    |none=>rw[hr]at h;cases h
    |some l=>
     rw[hr]at h;cases h;obtain⟨h1,h2⟩:=JH n _ l hr;refine⟨by simp only[ay];omega,fun x hx=> ?_⟩;rcases aM.1 hx with rfl|hx
     .exact⟨by simp,by simp only[ay];omega⟩
     .exact⟨(h2 x hx).1,by have:=(h2 x hx).2;omega⟩
theorem abX {l:ap} {ws:List ap} (h:li l=some ws):ws.length<=l.length/\ ∀ x∈ws,x≠ []/\x.length<=l.length:=JH _ l ws h
theorem RA {p:UInt8->Bool}: ∀ {l:ap} {c:UInt8} {t:ap},l.dropWhile p=c::t->p c=false
 |[],_,_,h=>by cases h
 |d::l,c,t,h=>by
  rw[gN]at h;split at h
  .exact RA h
  .rename_i hd;cases h;simpa using hd
theorem abY {l:ap} {c:UInt8} {t:ap} (h:l.dropWhile gR=c::t):li l=none\/ ∃ w ws,li l=some ((c::w)::ws):=by
 have hb:=RA h;rw[<-MS l,h];by_cases ub:c=34
 .subst ub;rw[MH];cases gS t with
  |none=>exact .inl rfl
  |some p=>
   obtain⟨w,r⟩:=p;dsimp only;split
   .exact .inl rfl
   .cases li r with
    |none=>exact .inl rfl
    |some l=>exact .inr ⟨w,l,rfl⟩
 .rw[Ju hb ub];cases li (t.dropWhile fun x=> !gR x)with
  |none=>exact .inl rfl
  |some l=>exact .inr ⟨_,l,rfl⟩
theorem JU (c:UInt8): ∀ l:ap,dj c l≠ []
 |[]=>by simp[dj]
 |x::t=>by
  unfold dj;split
  .simp
  .cases h:dj c t<;>simp
theorem Dd (c:UInt8): ∀ l:ap,(dj c l).length<=l.length+1/\ ∀ x∈dj c l,x.length<=l.length
 |[]=>by simp[dj]
 |x::t=>by
  obtain⟨h1,h2⟩:=Dd c t;unfold dj;simp only[ay];split
  .refine⟨by simp only[ay];omega,fun y hy=> ?_⟩;rcases aM.1 hy with rfl|hy
   .simp
   .have:=h2 y hy;omega
  .cases h:dj c t with
   |nil=>exact absurd h (JU c t)
   |cons w l=>
    rw[h]at h1 h2;simp only[ay]at h1;refine⟨by simp only[ay];omega,fun y hy=> ?_⟩;rcases aM.1 hy with rfl|hy
    .have:=h2 w (by simp);simp only[ay];omega
    .have:=h2 y (by simp[hy]);omega
theorem abZ (s:ap):(sE s).length<=s.length+1/\ ∀ x∈sE s,x.length<=s.length:=by
 obtain⟨h1,h2⟩:=Dd 10 s;unfold sE;dsimp only;split
 .exact⟨by rw[gF];omega,fun x hx=>h2 x (List.dropLast_subset _ hx)⟩
 .exact⟨h1,h2⟩
theorem aa1 (s:ap): ∃ q m,dj 10 s=q++[m]/\sE s=if m=[]then q else q++[m]:=by
 rcases List.eq_nil_or_concat (dj 10 s)with h|⟨q,m,h⟩
 .exact absurd h (JU _ _)
 .rw[List.concat_eq_append]at h;refine⟨q,m,h,?_⟩;unfold sE;dsimp only;rw[h,List.getLast?_concat,List.dropLast_concat];by_cases hm:m=[]
  .rw[av hm,av (by rw[hm])]
  .rw[ak hm,ak (by simpa using hm)]
theorem adj {l:ap} (h:l.dropWhile gR=[]):BV l=true:=by unfold BV;rw[h]
theorem ab0 {l:ap} {c:UInt8} {t:ap} (h:l.dropWhile gR=c::t):BV l=(c==35):=by unfold BV;rw[h]
theorem adk {o o':List Nat} {k:Nat} (h:mS o k=some o') (hl:o.length<=8):o'.length<=8:=by
 unfold mS at h;split at h
 .split at h
  .cases h
  .cases h;rw[au];simp;omega
 .split at h
  .split at h
   .cases h;rw[au,gF];rename_i h1;cases o with
    |nil=>cases h1
    |cons a t=>simp;simp at hl;omega
   .cases h
  .split at h
   .split at h
    .cases h
    .cases h;rw[gF];omega
   .cases h;exact hl
theorem aa2 (l:ap) (ls:List ap) (i:Nat) (out:List Ln) (o:List Nat):oT (l::ls) i out o=if BV l then oT ls (i+1) out o
  else match li l with
   |none=>(none,i+1)
   |some w=>match r5 w with
    |none=>(none,i+1)
    |some x=>if out.length=200 then(none,i+1)else match mS o x.k with
     |none=>(none,i+1)
     |some o'=>oT ls (i+1) (out++[x]) o':=by rw[oT];rfl
end Go.cN
namespace Go.Proofs.YtphkaogbcfdllaaGreatDoor
open Go Go.Vc Go.cN
def KL (v:Value):Option Ln->Prop
 |some x=>v= .tuple #[.agg (qX x),.bool true]
 |none=>∃ k a b tx n nt,v= .tuple #[.agg (py k a b tx n nt),.bool false]
theorem N8 {H:ae} {a:Option Addr} {cap:Nat} {w:Bs} {ws:List Bs} (h:Row H a (strs (w::ws))) (hc:(w::ws).length<=cap):Row H (jM a cap 1 1) (strs ws):=by
 have:=h.drop cap 1 1 (fun e=>by rw[Ff];omega);exact this
theorem ahy (p:Bs):((ag p).toList==(⟨#[110,111,116]⟩:ByteArray).toList)=decide (p=B6):=p7 p B6
theorem Wg (p:Bs):((ag p).toList==(⟨#[101,120,105,115,116,115]⟩:ByteArray).toList)=decide (p=DB):=p7 p DB
set_option maxHeartbeats 8000000 in
theorem adl (ws:List Bs) (a:Option Addr) (n cap:Nat) (H:ae) (hr:Row H a (strs ws)) (hn:ws.length=n) (hc:n<=cap) (hm:n<=1000000000) (cz: ∀ w∈ws,w≠ []):az Tryz.prog 241 [.slice a n cap] H fun v H'=>KL v (zI ws)/\ax H H':=by
 subst hn;refine Vc.az.body Tryz.func241 Tryz.call241 rfl (by decide+kernel) rfl ?_;rcases ws with _|⟨p,_|⟨q,_|⟨r,_|⟨s,t⟩⟩⟩⟩
 .have iz:=hr;((conv=>whnf);repeat(any_goals((first|(refine cm.fe hr rfl 0 _ rfl rfl ?_;intro _ _ _ _ _)|(refine cm.fe hr rfl 1 _ rfl rfl ?_;intro _ _ _ _ _)|(refine cm.fe iz rfl 0 _ rfl rfl ?_;intro _ _ _ _ _)|(refine cm.fe iz rfl 1 _ rfl rfl ?_;intro _ _ _ _ _)|(refine dk.nat 1 rfl (by omega) ?_)|(refine da.xC (py 7 [] [] [] 0 false) (by kernel_rfl) ?_)|(refine da.uJ (py 0 [] [] [] 0 false) (by kernel_rfl) ?_)|(refine(tt _ (by assumption) _).mono ?_;rintro _ _ ⟨rfl,rfl⟩)|refine Vc.aq ?_|refine Vc.bz ?_ ?_)<;>(intros;(conv=>whnf)))))
  exact⟨⟨_,_,_,_,_,_,rfl⟩,by exact Vc.xt⟩
 all_goals
  have iz:=N8 hr hc;have EN:=ahy p;have nF:p≠ []:=cz p (by simp)
 .have hlen:([p]).length=1:=rfl;have BX:([]:List Bs).length=0:=rfl;simp only[ay,cu]at hc hm;cases hd:decide (p=B6);all_goals
   rw[hd]at EN;((conv=>whnf);repeat(any_goals((first|(refine cm.fe hr rfl 0 _ rfl rfl ?_;intro _ _ _ _ _)|(refine cm.fe hr rfl 1 _ rfl rfl ?_;intro _ _ _ _ _)|(refine cm.fe iz rfl 0 _ rfl rfl ?_;intro _ _ _ _ _)|(refine cm.fe iz rfl 1 _ rfl rfl ?_;intro _ _ _ _ _)|(refine dk.nat 1 rfl (by omega) ?_)|(refine da.xC (py 7 [] [] [] 0 false) (by kernel_rfl) ?_)|(refine da.uJ (py 0 [] [] [] 0 false) (by kernel_rfl) ?_)|(refine(tt _ (by assumption) _).mono ?_;rintro _ _ ⟨rfl,rfl⟩)|refine Vc.aq ?_|refine Vc.bz ?_ ?_)<;>(intros;(conv=>whnf)))))
   exact⟨⟨_,_,_,_,_,_,rfl⟩,by exact Vc.xt⟩
 .have hlen:([p,q]).length=2:=rfl;have BX:([q]:List Bs).length=1:=rfl;simp only[ay,cu]at hc hm;have ph:q≠ []:=cz q (by simp);have Yh:=Wg p;by_cases lO:p=B6;all_goals by_cases qA:p=DB
  all_goals cases ib:p8 q
  all_goals
   first
   |exact absurd (lO.symm.trans qA) (by decide)
   |(first|rw[bB lO]at EN|rw[aN lO]at EN)
    (first|rw[bB qA]at Yh|rw[aN qA]at Yh)
    ((conv=>whnf);repeat(any_goals((first|(refine cm.fe hr rfl 0 _ rfl rfl ?_;intro _ _ _ _ _)|(refine cm.fe hr rfl 1 _ rfl rfl ?_;intro _ _ _ _ _)|(refine cm.fe iz rfl 0 _ rfl rfl ?_;intro _ _ _ _ _)|(refine cm.fe iz rfl 1 _ rfl rfl ?_;intro _ _ _ _ _)|(refine dk.nat 1 rfl (by omega) ?_)|(refine da.xC (py 7 [] [] [] 0 false) (by kernel_rfl) ?_)|(refine da.uJ (py 0 [] [] [] 0 false) (by kernel_rfl) ?_)|(refine(tt _ (by assumption) _).mono ?_;rintro _ _ ⟨rfl,rfl⟩)|refine Vc.aq ?_|refine Vc.bz ?_ ?_)<;>(intros;(conv=>whnf)))))
    refine⟨?_,by exact Vc.xt⟩;simp[zI,qA,ib];first|rfl|exact⟨_,_,_,_,_,_,rfl⟩
 .have hlen:([p,q,r]).length=3:=rfl;have BX:([q,r]:List Bs).length=2:=rfl;simp only[ay,cu]at hc hm;have ph:q≠ []:=cz q (by simp);have wR:r≠ []:=cz r (by simp);have Yi:=Wg q;by_cases lO:p=B6;all_goals by_cases lE:q=DB
  all_goals cases ib:p8 r
  all_goals
   (first|rw[bB lO]at EN|rw[aN lO]at EN)
   (first|rw[bB lE]at Yi|rw[aN lE]at Yi)
   ((conv=>whnf);repeat(any_goals((first|(refine cm.fe hr rfl 0 _ rfl rfl ?_;intro _ _ _ _ _)|(refine cm.fe hr rfl 1 _ rfl rfl ?_;intro _ _ _ _ _)|(refine cm.fe iz rfl 0 _ rfl rfl ?_;intro _ _ _ _ _)|(refine cm.fe iz rfl 1 _ rfl rfl ?_;intro _ _ _ _ _)|(refine dk.nat 1 rfl (by omega) ?_)|(refine da.xC (py 7 [] [] [] 0 false) (by kernel_rfl) ?_)|(refine da.uJ (py 0 [] [] [] 0 false) (by kernel_rfl) ?_)|(refine(tt _ (by assumption) _).mono ?_;rintro _ _ ⟨rfl,rfl⟩)|refine Vc.aq ?_|refine Vc.bz ?_ ?_)<;>(intros;(conv=>whnf)))))
   refine⟨?_,by exact Vc.xt⟩;simp[zI,lO,lE,ib];first|rfl|exact⟨_,_,_,_,_,_,rfl⟩
 .have hlen:(p::q::r::s::t).length=t.length+4:=rfl;have BX:(q::r::s::t:List Bs).length=t.length+3:=rfl;simp only[ay,cu]at hc hm;cases hd:decide (p=B6);all_goals
   rw[hd]at EN;((conv=>whnf);repeat(any_goals((first|(refine cm.fe hr rfl 0 _ rfl rfl ?_;intro _ _ _ _ _)|(refine cm.fe hr rfl 1 _ rfl rfl ?_;intro _ _ _ _ _)|(refine cm.fe iz rfl 0 _ rfl rfl ?_;intro _ _ _ _ _)|(refine cm.fe iz rfl 1 _ rfl rfl ?_;intro _ _ _ _ _)|(refine dk.nat 1 rfl (by omega) ?_)|(refine da.xC (py 7 [] [] [] 0 false) (by kernel_rfl) ?_)|(refine da.uJ (py 0 [] [] [] 0 false) (by kernel_rfl) ?_)|(refine(tt _ (by assumption) _).mono ?_;rintro _ _ ⟨rfl,rfl⟩)|refine Vc.aq ?_|refine Vc.bz ?_ ?_)<;>(intros;(conv=>whnf)))))
   exact⟨⟨_,_,_,_,_,_,rfl⟩,by exact Vc.xt⟩
set_option maxHeartbeats 40000000 in
theorem adn (w x y:Bs) (a:Option Addr) (n cap:Nat) (H:ae) (hr:Row H a (strs [w,x,y])) (hn:[w,x,y].length=n) (hc:n<=cap) (hm:n<=1000000000) (cz: ∀ z∈ [w,x,y],z≠ []) (ug: ∀ z∈ [w,x,y],z.length<=1000000000) (hp:BT w≠7):az Tryz.prog 200 [.slice a n cap] H fun v H'=>KL v (r5 [w,x,y])/\ax H H':=by
 subst hn;refine Vc.az.body Tryz.func200 Tryz.call200 rfl (by decide+kernel) rfl ?_;((conv=>whnf);repeat(any_goals(first|(refine Vc.cJ ?_;(conv=>whnf)))))
 refine aE.alloc rfl rfl ?_;intro H1 jr eC cd;((conv=>whnf);repeat(any_goals(first|(refine Vc.AY ?_;(conv=>whnf)))))
 obtain⟨I,hI⟩: ∃ I:Int,(if qv.findIdx (· ==w)<12 then(qv.findIdx (· ==w):Int)else-1)=I:=⟨_,rfl⟩;refine jO.cut (fun(g:Nat)=>[(4,.pointer (some ⟨g,0,none⟩))]) (fun g H'=>H1.size<=g/\bu H' g (py I [] [] [] 0 false) 43/\ax H1 H') ?_ ?_
 .have kb:=fun a H (h:Row H a (strs qv))=>Tf qv w a 12 12 H h rfl (by decide);rw[hI]at kb;have hlen:[w,x,y].length=2+1:=rfl;((conv=>whnf);repeat(any_goals((first|(refine cm.fe hr rfl 0 _ rfl rfl ?_;intro _ _ _ _ _)|(refine(U7 _).mono ?_;rintro _ Hk ⟨rfl,pu,wQ⟩;have Yj:=wQ.size)|(refine(kb _ _ (Row.ext pu (by exact Vc.xt))).mono ?_;rintro _ _ ⟨rfl,rfl⟩)|(refine da.xC (py I [] [] [] 0 false) (by kernel_rfl) ?_)|(first|(with_reducible refine Vc.cy.ku (id:=1) mixed ?_)|(with_reducible refine Vc.cg.split (es:=[]) 0 6 (by decide) (by decide) (by decide) ?_ ?_)|(with_reducible refine Vc.cg.split (es:=[(0,6)]) 4 6 (by decide) (by decide) (by decide) ?_ ?_)|(with_reducible refine Vc.cg.held (es:=[(4,6),(0,6)]) [1,2,3,0,4,5,6,7] [(0,[3])] (by decide+kernel) ?_)|(with_reducible refine Vc.cg.held (es:=[(6,4),(0,6)]) [1,2,3,0,6,4,5,7] [(0,[3]),(6,[3])] (by decide+kernel) ?_)|(with_reducible refine Vc.cg.held (es:=[(6,0)]) [1,2,3,6,0,4,5,7] [(6,[3]),(0,[3])] (by decide+kernel) ?_))|((with_reducible refine Vc.cy.held [0,1,2,3,4,5,6,7,8,9] [(7,[5])] mixed (by decide+kernel) ?_))|refine Vc.aq ?_|refine Vc.bz ?_ ?_)<;>(intros;(conv=>whnf)))))
  all_goals exact⟨_,⟨rfl,aF⟩,by omega,by assumption,by exact Vc.xt⟩
 .rintro g H2 ⟨hg,di,bh⟩;have W1:=eC.lt;have ajn:=eC.ext bh;have ajo:=di.lt;have hle:=List.findIdx_le_length (p:=(· ==w)) (xs:=qv);have jQ:qv.length=12:=rfl;have Le:=N8 hr hc;have eR:=cd.size;have dT:=bh.size;obtain⟨K,hK⟩: ∃ K,qv.findIdx (· ==w)=K:=⟨_,rfl⟩;have hK':BT w=K:=hK;rw[hK]at hI hle;rw[jQ]at hle;have h7:K≠7:=fun e=>hp (hK'.trans e);have ce:K=0\/K=1\/K=2\/K=3\/K=4\/K=5\/K=6\/K=8\/K=9\/K=10\/K=11\/K=12:=by omega
  have iz:=Le
  .have hlen:(w::([x,y]:List Bs)).length=2+1:=rfl;have BX:([x,y]:List Bs).length=2:=rfl;have uq:x≠ []:=cz x (by simp);have rJ:x.length<=1000000000:=ug x (by simp);have Ip:y≠ []:=cz y (by simp);have tZ:y.length<=1000000000:=ug y (by simp);rcases ce with rfl|rfl|rfl|rfl|rfl|rfl|rfl|rfl|rfl|rfl|rfl|rfl;all_goals try((first|have:=(hK':BT w=0)|have:=(hK':BT w=1)|have:=(hK':BT w=2)|have:=(hK':BT w=5)|have:=(hK':BT w=6));cases rQ:p8 x<;>cases hpy:p8 y)
   all_goals
    (first|rw[av (by decide)]at hI|rw[ak (by decide)]at hI);subst hI
    as_aux_lemma=>
     ((conv=>whnf);repeat(any_goals((first|(refine cm.fe iz rfl 0 _ rfl rfl ?_;intro _ _ _ _ _)|(refine cm.fe iz rfl 1 _ rfl rfl ?_;intro _ _ _ _ _)|(refine dk.nat 1 rfl (by omega) ?_)|(refine(tt _ (by assumption) _).mono ?_;rintro _ _ ⟨rfl,rfl⟩)|(refine(Dv _ (by assumption) (by omega) _).mono ?_;rintro _ _ ⟨rfl,rfl⟩)|(first|(with_reducible refine Vc.cy.ku (id:=1) mixed ?_)|(with_reducible refine Vc.cg.split (es:=[]) 0 6 (by decide) (by decide) (by decide) ?_ ?_)|(with_reducible refine Vc.cg.split (es:=[(0,6)]) 4 6 (by decide) (by decide) (by decide) ?_ ?_)|(with_reducible refine Vc.cg.held (es:=[(4,6),(0,6)]) [1,2,3,0,4,5,6,7] [(0,[3])] (by decide+kernel) ?_)|(with_reducible refine Vc.cg.held (es:=[(6,4),(0,6)]) [1,2,3,0,6,4,5,7] [(0,[3]),(6,[3])] (by decide+kernel) ?_)|(with_reducible refine Vc.cg.held (es:=[(6,0)]) [1,2,3,6,0,4,5,7] [(6,[3]),(0,[3])] (by decide+kernel) ?_))|((with_reducible refine Vc.cy.held [0,1,2,3,4,5,6,7,8,9] [(7,[5])] mixed (by decide+kernel) ?_))|refine Vc.aq ?_|refine Vc.bz ?_ ?_)<;>(intros;(conv=>whnf)))))
     (refine⟨?_,by exact Vc.xt⟩;(first|simp[r5,hK',kW,xY,rQ,hpy]|simp[r5,hK',kW,xY,Ap,Ab,BU,zz]);first|rfl|exact⟨_,_,_,_,_,_,rfl⟩)
end Go.Proofs.YtphkaogbcfdllaaGreatDoor
