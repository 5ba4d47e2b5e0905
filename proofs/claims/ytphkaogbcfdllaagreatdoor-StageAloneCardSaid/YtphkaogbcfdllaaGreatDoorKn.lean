import Derived.Test.YtphkaogbcfdllaaGreatDoorKm
import Derived.Test.YtphkaogbcfdllaaGreatDoorKl
import Derived.Test.YtphkaogbcfdllaaGreatDoorKi
import Derived.Test.YtphkaogbcfdllaaGreatDoorKj
import Derived.Test.YtphkaogbcfdllaaGreatDoorKk
set_option linter.unusedVariables false
set_option linter.unusedSimpArgs false
set_option maxRecDepth 100000
/- StageMany, plain. -/
namespace Go.lb
open Go.cN Go.eg Go.cM Go.Run
open Go.Vc (ck fk)
def j9 (i:Nat):ap:=[112,UInt8.ofNat (97+i)]
def ji (s:Nat):Tr:=[([102],(false,List.replicate s 0))]
def Bh (s i:Nat):XD:=⟨j9 i,[48,46,48,46,48],some (ej.jv (ji s),true)⟩
theorem OQ (s:Nat) (h:s<=255):ej.kh (ej.jv (ji s))=(ji s,0):=by
 have h1:iO [] [102] (List.replicate s 0)=(ji s,0):=by
  unfold iO;rw[ak (by decide),ak]
  .rfl
  .rw[show cQ []-fL [] [102]=0 from by decide,show List.length ([]:Tr)+sG [] [102]=1 from by decide,eT];omega
 have iM:pR (ji s)=(some (ji s),0):=by
  unfold pR ji;rw[pE,ak (by decide: ¬(cF [102]).2≠0),ak (by intro h;rcases h with h|h;exact absurd h (by simp);exact absurd h.1 Bool.false_ne_true),show(cF [102]).1=[102]from by decide,show ov [] [102] ([102],(false,List.replicate s 0))=(ji s,0)from h1,ak (by simp)];rfl
 have hp:ej.iU ((ji s).flatMap ej.lM++[255]) []=(ji s,0):=by
  rw[ej.Nk (ji s) [] [255] (fun f hf=>by
   rw[aW.1 hf];exact⟨(by decide:([102]:ap).length<=65535),(by show(List.replicate s (0:UInt8)).length<=1000000000;rw[eT];omega),(by decide:(cF [102]).2=0)⟩) (by show 0+1<=500;decide),ej.TU]
  rfl
 rw[ej.TV,hp]
 .dsimp only;rw[av rfl,iM]
 .have:=Kc (ji s) 1 (fun f hf=>by rw[aW.1 hf];exact aB _);have e:cQ (ji s)=s:=by simp[cQ,ji]
  have e2:(ji s).length=1:=rfl;rw[e,e2]at this;omega
theorem ahf (s:Nat) (n v:ap):oX n v (ji s)=(0,ji s):=by
 unfold oX;rw[show(qN (ji s) iH).2=52 from rfl,ak (by decide)]
theorem On (s:Nat) (h:s<=255) (n v:ap):jN true n v (ej.jv (ji s))=(mu n (ji s),0):=by
 unfold jN;rw[ak (by simp),OQ s h,ak (by simp)];dsimp only;rw[ahf,ak (by simp)]
theorem ahg (s:Nat) (h:s<=255):dr (ji s):=by
 have:=(NE (ej.jv (ji s)) (by rw[OQ s h])).1;rw[OQ s h]at this;exact this
theorem ah6 (s:Nat) (h:s<=255):XC (ji s):=⟨ahg s h,fun f hf=>by rw[aW.1 hf];exact(by decide:([102]:ap).length<=100/\(px [102]).length<=8),by show 1<=30;decide,by simp[cQ,ji];omega⟩
def pT (s k:Nat):List (ap×Tr):=(List.range k).map fun i=>(j9 i,ji s)
theorem Oo (s k:Nat) (h:s<=255) (hk:k<=12):DQ (pT s k) 2:=by
 have hg: ∀ i<12,j9 i≠ []/\j9 i≠ [46]/\j9 i≠ [46,46]/\wh (j9 i)=false/\(47:UInt8)∉j9 i:=by decide
 have hl: ∀ i<12,∀ j<12,i<j->Op.bytesLess (j9 i) (j9 j)=true:=by decide
 refine⟨fun x hx=> ?_,?_,fun x hx=> ?_⟩
 .obtain⟨i,hi,rfl⟩:=bH.1 hx;rw[fQ]at hi;obtain⟨h1,h2,h3,h4,h5⟩:=hg i (by omega);exact⟨⟨h1,h2,h3,h4,h5⟩,rfl⟩
 .unfold pT;rw[gJ];refine List.Pairwise.imp_of_mem (fun{a b} ha hb ct=> ?_) (List.pairwise_lt_range (n:=k));rw[fQ]at ha hb;exact hl a (by omega) b (by omega) ct
 .obtain⟨i,hi,rfl⟩:=bH.1 hx;exact ah6 s h
theorem Wu (s:Nat) (h:s<=255): ∀ (l:List Nat) (out:List Fi),Ak (l.map (Bh s)) out=(out++ko (l.map fun i=>(j9 i,ji s)),([],0))
 |[],out=>by simp[Ak,ko]
 |i::l,out=>by
  show Ak (Bh s i::l.map (Bh s)) out=_;have e:Ak (Bh s i::l.map (Bh s)) out=if(jN true (j9 i) [48,46,48,46,48] (ej.jv (ji s))).2≠0 then([],(j9 i,(jN true (j9 i) [48,46,48,46,48] (ej.jv (ji s))).2))else Ak (l.map (Bh s)) (out++(jN true (j9 i) [48,46,48,46,48] (ej.jv (ji s))).1):=rfl
  rw[e,On s h,ak (by simp)];show Ak (l.map (Bh s)) (out++mu (j9 i) (ji s))=_;rw[Wu s h l];simp[ko]
theorem ah7 (s k:Nat) (h:s<=255) (hk:k<=12):Ak ((List.range k).map (Bh s)) []=(ko (pT s k),([],0))/\pR (ko (pT s k))=(some (ko (pT s k)),0)/\(ej.jv (ko (pT s k))).length<=1048320:=by
 have hB:(pT s k).length<=15:=by unfold pT;rw[dn,List.length_range];omega
 refine⟨?_,ah5 (Oo s k h hk) (by decide) hB,afX (Oo s k h hk) (by decide) hB⟩;rw[Wu s h];rfl
theorem Vt (s k:Nat):ko (pT s (k+1))=ko (pT s k)++mu (j9 k) (ji s):=by
 unfold ko pT;rw[List.range_succ,d9,dZ];simp
theorem KA (s:Nat): ∀ k,(ko (pT s k)).length=2*k
 |0=>rfl
 |k+1=>by
  rw[Vt,au,KA s k];show 2*k+2=_;omega
theorem Wv (s:Nat): ∀ (k i:Nat),i<k->(ko (pT s k))[2*i]? =some (j9 i,(true,[]))/\(ko (pT s k))[2*i+1]? =some (j9 i++[47,102],(false,List.replicate s 0))
 |0,i,h=>by omega
 |k+1,i,h=>by
  have e:=Vt s k;have hl:=KA s k;rw[e];by_cases YZ:i<k
  .rw[bV (by omega),bV (by omega)];exact Wv s k i YZ
  .have:i=k:=by omega
   subst this;rw[bA (by omega),bA (by omega),hl,Nat.sub_self,show 2*i+1-2*i=1 by omega];exact⟨rfl,rfl⟩
end Go.lb
namespace Go.Proofs.YtphkaogbcfdllaaGreatDoor
open Go Go.Vc Go.cN Go.eg Go.cM Go.Run Go.ew Go.lb Go.uv
theorem aef (k:List UInt8) (hk:k.length=32) (a:Option Addr) (n c:Nat) (H:ae):az Tryz.prog 49 [.agg (cv k).toArray,.slice a n c] H fun v H'=>(∃ g1 g2,v= .func (.func 104) #[] #[.pointer (some ⟨g2,0,none⟩),.pointer (some ⟨g1,0,none⟩)]/\bu H' g1 (cv k).toArray 85/\bu H' g2 #[.slice a n c] 33)/\ax H H':=by
 refine Vc.az.body Tryz.func49 Tryz.call49 rfl (by decide+kernel) rfl ?_;((conv=>whnf);repeat(any_goals((first|(refine aE.VB ?_)|refine Vc.aq ?_)<;>(intros;(conv=>whnf)))))
 rename_i Ha za ba xa Hb zb bb xb;have b1:bu Ha H.size (cv k).toArray 85:=by simpa [Value.cells]using ba
 have b2:bu Hb Ha.size #[.slice a n c] 33:=by simpa [Value.cells]using bb
 exact⟨⟨H.size,Ha.size,rfl,b1.ext xb,b2⟩,xa.trans xb⟩
theorem afY (x k:List UInt8) (hx:x.length=32) (hk:k.length=32) (a:Option Addr) (n c g1 g2:Nat) (H:ae) (h1:bu H g1 (cv k).toArray 85) (h2:bu H g2 #[.slice a n c] 33):az Tryz.prog 104 [.agg (cv x).toArray,.pointer (some ⟨g2,0,none⟩),.pointer (some ⟨g1,0,none⟩)] H fun v H'=>v= .tuple #[.slice a n c,.bool (x==k)]/\ax H H':=by
 refine Vc.az.body Tryz.func104 Tryz.call104 rfl (by decide+kernel) rfl ?_;have qV: ∀ (j:Nat) (u:Value),(cv k)[j]? =some u->hcell H ⟨g1,0+j,none⟩=some u:=fun j u hu=>by rw[h1.cell];simpa using hu
 ((conv=>whnf);repeat(any_goals((first|refine Vc.aq ?_)<;>(intros;(conv=>whnf)))))
 rename_i H1 z1 b1 x1;have b1:bu H1 H.size (cv x).toArray 85:=by simpa [Value.cells]using b1
 have cd: ∀ (j:Nat) (u:Value),(cv x)[j]? =some u->hcell H1 ⟨H.size,0+j,none⟩=some u:=fun j u hu=>by rw[b1.cell];simpa using hu
 ((conv=>whnf);repeat(any_goals((first|((with_reducible apply uD);(exact hx);(exact cd);(exact ax.refl _);(conv=>whnf))|((with_reducible apply uD);(exact hk);(exact qV);(exact x1);(conv=>whnf))|((with_reducible apply da.acE);rfl;rfl;rfl;rfl;rfl;(focus(exact hx));(focus(exact hk));(conv=>whnf))|refine Vc.aq ?_)<;>(intros;(conv=>whnf)))))
 exact⟨rfl,x1⟩
theorem NM {H H0:ae} {b o:Nat} {c:List Value} {K:Value->ae->Prop} (hl:c.length=37) (hc: ∀ k u,c[k]? =some u->hcell H0 ⟨b,o+k,none⟩=some u) (he:ax H0 H) (hk:K (.agg c.toArray) H):aE Tryz.prog (Instr.loadAt 90 (.pointer (some ⟨b,o,none⟩))) H K:=by
 have:=Go.Vc.aE.tv (P:=Tryz.prog) (t:=90) (H:=H) (b:=b) (o:=o) (vs:=c) (K:=K) rfl rfl (by rw[hl];rfl) (fun j u hu=>jj (hc j u hu) he id) hk;exact this
structure Rs where
 i:Nat
 fs:List SF
 a:Option Addr
 cap:Nat
theorem gE.app {H:ae}: ∀ {fs gs:List SF} {xs ys:Tr},gE H fs xs->gE H gs ys->gE H (fs++gs) (xs++ys)
 |[],gs,[],ys,_,h=>h
 |f::fs,gs,x::xs,ys,⟨h1,h2⟩,h=>⟨h1,gE.app h2 h⟩
 |[],_,_::_,_,h,_=>h.elim
 |_::_,_,[],_,h,_=>h.elim
def lr (B:ap) (P:List nU):Tr:=P.flatMap fun p=>(jN true p.name (km p.v) B).1
theorem acy (B:ap) (P:List nU) {i:Nat} {p:nU} (h:P[i]? =some p):lr B (P.take (i+1))=lr B (P.take i)++(jN true p.name (km p.v) B).1:=by
 unfold lr;rw[bX,h,dZ];simp
theorem acz (B:ap) (P:List nU) (i:Nat):(lr B (P.take i)).length<=(lr B P).length:=by
 have:lr B P=lr B (P.take i)++lr B (P.drop i):=by
  unfold lr;rw[<-dZ,dF]
 rw[this,au];omega
set_option maxHeartbeats 4000000 in
theorem afZ {H:ae} (S B:ap) (hS:ix B=S) (hB:B.length<=100000) (P:List nU) (hPs: ∀ p∈P,p.sum=S/\p.name.length<=1000/\nC p.v) (pa:Option Addr) (n cap:Nat) (hr:ia sL H pa P) (hn:P.length=n) (mM:n<=100)
  (a:Option Addr) (bn bc g1 g2:Nat) (hb:Row H a (cv B)) (Rf:B.length=bn) (CA:bn<=bc) (LH:bc<=maxLen) (h1:bu H g1 (cv S).toArray 85) (h2:bu H g2 #[.slice a bn bc] 33)
  (hT: ∀ p∈P,(jN true p.name (km p.v) B).2=0/\(jN true p.name (km p.v) B).1.length<=501) (wW:Aj (lr B P)) (j5:(lr B P).length<=600) (Jg: ∀ f∈lr B P,f.2.2.length<=1000000) (iM:pR (lr B P)=(some (lr B P),0)) (Z5:(ej.jv (lr B P)).length<=1048320) (hg:kS H) (hH:2<=H.size):
  az Tryz.prog 48 [.slice pa n cap,.func (.func 104) #[] #[.pointer (some ⟨g2,0,none⟩),.pointer (some ⟨g1,0,none⟩)]] H fun v H'=>(∃ a' c' fs,v= .tuple #[.slice a' (lr B P).length c',.nilIface]/\cq H' H.size 71 3 a' (lr B P).length c' (fs.flatMap fN)/\gE H' fs (lr B P))/\ax H H':=by
 have ud:S.length=32:=by rw[<-hS];exact vG B
 refine Vc.az.body Tryz.func48 Tryz.call48 rfl (by decide+kernel) rfl ?_;((conv=>whnf);repeat(any_goals((first|refine Vc.aq ?_)<;>(intros;(conv=>whnf)))))
 refine dt.intro (fun(x:Rs)=>[(15,.int .i64 x.i),(6,.slice x.a (lr B (P.take x.i)).length x.cap)]) (fun x H'=>x.i<=n/\cq H' H.size 71 3 x.a (lr B (P.take x.i)).length x.cap (x.fs.flatMap fN)/\gE H' x.fs (lr B (P.take x.i))/\ax H H') (fun x=>n-x.i) ⟨0,[],none,0⟩ ⟨rfl,rfl,aF⟩ ⟨aI _,cq.nil _ _ _ _,aF,ax.refl _⟩ ?_;rintro⟨i,fs,oa,oc⟩ H1 ⟨hi,fg,pj,cd⟩;dsimp only at hi fg pj ⊢;have eR:=cd.size;by_cases ct:i<n
 .obtain⟨p,hp⟩: ∃ p,P[i]? =some p:=⟨_,aD (by omega)⟩;have yD:=aU hp;obtain⟨oE,lO,hpv⟩:=hPs p yD;obtain⟨oM,vr⟩:=hT p yD;have mf:=acy B P hp;((conv=>whnf);repeat(any_goals((first|(refine cm.el oS.ok (by decide) (hr.ext oS.ok cd) hn i p rfl hp ?_;intro bo o c rT cU;have Eo:=oS.ok.len rT)|((with_reducible apply NM);(exact Eo);(exact cU);(exact ax.refl _);(conv=>whnf))|(rename_i Ha za ba xa;refine dc.Df (c:=c) ba rfl (by rw[Eo];rfl) (by rw[Eo];rfl) (fun u hu=>oS.ok.plain rT u hu) ?_;intro Hb zb bb xb)|refine Vc.aq ?_)<;>(intros;(conv=>whnf)))))
  have E6:ax H1 Hb:=xa.but xb (aB _);have MA:ax H Hb:=cd.trans E6;obtain⟨va,vc,ec,jd,ib,pf⟩:=id rT;have iF:hcell Hb ⟨H1.size,0+0,none⟩=some (.string (ag p.name)):=zX bb 0 0 _ (by rw[ec];rfl);have Be: ∀ (k:Nat) (u:Value),(cv S)[k]? =some u->hcell Hb ⟨H1.size,0+5+k,none⟩=some u:=fun k u hu=>zX bb (0+5) k u (by
   rw[ec,bA (by show 5<=0+5+k;omega),show 0+5+k-([.string (ag p.name),.int .i64 p.v.ma,.int .i64 p.v.mi,.int .i64 p.v.pa,.slice va p.v.pre.length vc]:List Value).length=k by show 0+5+k-5=k;omega,oE];exact hu)
  have Mg: ∀ (k:Nat) (u:Value),c[k]? =some u->hcell Hb ⟨H1.size,0+k,none⟩=some u:=fun k u hu=>zX bb 0 k u (by rw[aQ];exact hu);have hbS:(S==S)=true:=by simp
  have sn:=fun H' (k:ax Hb H')=>De p c (oS.keep (E6.trans k) (fun _ _ _ e=>e.elim) rT) hpv lO B a bn bc (hb.ext (MA.trans k)) Rf CA LH (by omega) (hg.ext (MA.trans k)) (by have:=k.size;have:=MA.size;omega);rw[show decide (ix B=p.sum)=true by rw[oE,hS];simp]at sn;obtain⟨L,hL⟩: ∃ L,jN true p.name (km p.v) B=L:=⟨_,rfl⟩;rw[hL]at oM vr mf sn;have hzb:=MA.size;have mK:=acz B P i;((conv=>whnf);repeat(any_goals((first|((with_reducible apply uD);(exact ud);(exact Be);(exact Vc.xt);(conv=>whnf))|(refine(afY S S ud ud a bn bc g1 g2 _ (h1.ext (by exact Vc.xt)) (h2.ext (by exact Vc.xt))).mono ?_;rintro _ Hc ⟨rfl,ve⟩;have hzc:=ve.size;rw[hbS])|((with_reducible apply NH);(exact Eo);(exact Mg);(exact Vc.xt);(conv=>whnf))|(refine(sn _ (by exact Vc.xt)).mono ?_;rintro _ Hd ⟨⟨a4,c4,Rt,er,rfl,dE,A6,jA⟩,Ru⟩;have hzd:=Ru.size;unfold pF at jA;rw[av oM]at jA;subst jA)|(have:=Ru;have Jk:ax H1 Hd:=E6.trans (ve.trans Ru);refine cP.append (i:=Tryz.t71) (z:= .agg #[.string ⟨#[]⟩,.bool false,.slice none 0 0]) (m:=L.1.length) (news:=Rt.flatMap fN) rfl ⟨_,rfl,fun _ h=>by cases h⟩ rfl rfl rfl (fg.ext Jk) (Src.row dE.row A6.files.len A6.files.plain) (by unfold maxLen;omega) (by show(_+_)*_<=_;refine dh (fC _ (show _<=64 from by decide)) (by omega)) (by omega) ?_;intro a5 c5 H5 eW EU hq5)|refine Vc.aq ?_)<;>(intros;(conv=>whnf)))))
  have yL:gE H5 (fs++Rt) (lr B (P.take i)++L.1):=(gE.app (pj.ext Jk) A6).keep EU (UE (fg.ext Jk) (by decide));exact⟨⟨i+1,fs++Rt,a5,c5⟩,⟨rfl,by show Value.slice _ _ _=Value.slice _ _ _;rw[mf,au],aF⟩,⟨by show i+1<=n;omega,by show cq _ _ _ 3 _ (lr B (P.take (i+1))).length _ _;rw[mf,au,dZ];exact eW,by show gE _ _ (lr B (P.take (i+1)));rw[mf];exact yL,(cd.trans Jk).wr (fg.ext Jk) (aB _) EU⟩,by show n-(i+1)<n-i;omega⟩
 .rw[aL (by omega)]at fg pj ⊢;have IE:j4 H1 oa (lr B P):=⟨_,fg.row,pj.files⟩;obtain⟨O,hO⟩: ∃ O,lr B P=O:=⟨_,rfl⟩;rw[hO]at IE fg pj wW j5 Jg iM Z5 ⊢;((conv=>whnf);repeat(any_goals((first|(refine(acu O wW oa _ oc _ IE rfl (by omega)).mono ?_;rintro _ H2 ⟨rfl,bh⟩;have dT:=bh.size)|(have:=bh;refine(acx O oa _ oc _ (IE.ext bh) rfl j5 Jg iM Z5).mono ?_;rintro _ H3 ⟨rfl,bw⟩;have eJ:=bw.size)|refine Vc.aq ?_)<;>(intros;(conv=>whnf)))))
  exact⟨⟨oa,oc,fs,rfl,fg.ext (bh.trans bw),pj.ext (bh.trans bw)⟩,cd.trans (bh.trans bw)⟩
theorem ahh {K:Value->Prop} {o1 o2:Operand} {s:ByteArray} {a:Option Addr} {n c:Nat} (h:K (.agg #[.string s,.bool false,.slice a n c])):da Tryz.prog (Instr.build 71 ((List.map (fun x:Nat×Operand=>x.1) (#[(0,o1),(2,o2)]:Array (Nat×Operand)).toList).zip [.string s,.slice a n c]).toArray) K:=da.build _ (by kernel_rfl) h
theorem acA {s:Bs} {l:List UInt8} (h:l.length=32):Go.Program.built Tryz.prog 90 [(0,.string (ag s)),(2,.agg (cv l).toArray)]=some (u9 s ⟨0,0,0,[]⟩ l none 0).toArray:=by
 obtain⟨b0,l0,rfl,h0⟩:=ef h;obtain⟨b1,l1,rfl,h1⟩:=ef h0;obtain⟨b2,l2,rfl,h2⟩:=ef h1;obtain⟨b3,l3,rfl,h3⟩:=ef h2;obtain⟨b4,l4,rfl,h4⟩:=ef h3;obtain⟨b5,l5,rfl,h5⟩:=ef h4;obtain⟨b6,l6,rfl,h6⟩:=ef h5;obtain⟨b7,l7,rfl,h7⟩:=ef h6;obtain⟨b8,l8,rfl,h8⟩:=ef h7;obtain⟨b9,l9,rfl,h9⟩:=ef h8;obtain⟨ti,l10,rfl,nI⟩:=ef h9;obtain⟨IW,Za,rfl,um⟩:=ef nI;obtain⟨IX,Zb,rfl,IY⟩:=ef um;obtain⟨Zc,Zd,rfl,IZ⟩:=ef IY;obtain⟨Ze,Zf,rfl,I0⟩:=ef IZ;obtain⟨Zg,Zh,rfl,I1⟩:=ef I0;obtain⟨Zi,Zj,rfl,yO⟩:=ef I1;obtain⟨Zk,Zl,rfl,I2⟩:=ef yO;obtain⟨Zm,Zn,rfl,I3⟩:=ef I2;obtain⟨Zo,Zp,rfl,I4⟩:=ef I3;obtain⟨Zq,Zr,rfl,Bd⟩:=ef I4;obtain⟨Zs,Zt,rfl,I5⟩:=ef Bd;obtain⟨Zu,Zv,rfl,I6⟩:=ef I5;obtain⟨Mj,Zw,rfl,I7⟩:=ef I6;obtain⟨Zx,Zy,rfl,I8⟩:=ef I7;obtain⟨Zz,ZA,rfl,I9⟩:=ef I8;obtain⟨ZB,ZC,rfl,Ja⟩:=ef I9;obtain⟨ZD,ZE,rfl,Jb⟩:=ef Ja;obtain⟨ZF,ZG,rfl,Jc⟩:=ef Jb;obtain⟨ZH,ZI,rfl,Jd⟩:=ef Jc;obtain⟨ZJ,ZK,rfl,Je⟩:=ef Jd;obtain⟨ZL,ZM,rfl,Jf⟩:=ef Je;rw[bF Jf]
 kernel_rfl
def yi (S:ap) (i:Nat):nU:=⟨j9 i,⟨0,0,0,[]⟩,S⟩
theorem af0 (s k:Nat) (h:s<=255) (S:ap):lr (ej.jv (ji s)) ((List.range k).map (yi S))=ko (pT s k):=by
 unfold lr ko pT;rw[List.flatMap_map,List.flatMap_map];congr 1;funext j
 show(jN true (j9 j) _ _).1=_;rw[On s h]
theorem af1 {A:Tr} (h:Sorted A):Aj A:=fun i j x y qu hx hy=>by
 have:=List.pairwise_iff_getElem.1 h i j (aH.1 hx).1 (aH.1 hy).1 qu;rw[(aH.1 hx).2,(aH.1 hy).2]at this;exact lt_asymm this
theorem af2 (s k:Nat) (h:s<=255): ∀ f∈ko (pT s k),f.2.2.length<=1000000:=fun f hf=>by
 obtain⟨x,hx,hm⟩:=iw.1 hf;obtain⟨j,_,rfl⟩:=bH.1 hx;rcases FZ hm with rfl|⟨g,hg,rfl⟩
 .exact aI _
 .rw[aW.1 hg];show(List.replicate s 0).length<=_;rw[eT];omega
set_option maxHeartbeats 4000000 in
theorem acB {H:ae} (hg:kS H) (hH:2<=H.size) (nn sz:Nat) (h1:nn<256) (h2:sz<256):
  az Tryz.prog 12 [.int .u8 nn,.int .u8 sz] H fun v H'=>v= .bool true/\ax H H':=by
 obtain⟨k,hk⟩: ∃ k,nn % 12=k:=⟨_,rfl⟩;refine Vc.az.body Tryz.func12 Tryz.call12 rfl (by decide+kernel) rfl ?_;((conv=>whnf);repeat(any_goals((first|(refine(Jz hg hH).mono ?_;rintro _ H1 ⟨rfl,cd⟩;have eR:=cd.size)|(refine aE.make (n:=sz) rfl rfl rfl (by show 1*sz<=_;omega) (by unfold maxLen;omega) ?_;intro H2 dy bh;have dT:=bh.size)|((with_reducible apply ahh);(conv=>whnf))|refine Vc.aq ?_)<;>(intros;(conv=>whnf)))))
 rename_i H3 z3 b3 x3;replace dy:cq H2 H1.size 5 1 (some ⟨H1.size,0,none⟩) sz sz (cv (List.replicate sz 0)):=by rw[<-acF];exact dy
 have Rp:j4 H3 (some ⟨H2.size,0,none⟩) (ji sz):=⟨_,bu.row (c:=kU ([102],false,List.replicate sz 0) (some ⟨H1.size,0,none⟩) sz++[]) (by unfold kU;dsimp only;rw[eT];exact b3),kg.cons ((Go.Vc.cq.row dy).ext x3) .nil⟩;have rR: ∀ f∈ji sz,f.2.2.length<=1000000:=fun f hf=>by rw[aW.1 hf];dsimp only;rw[eT];omega
 ((conv=>whnf);repeat(any_goals((first|(refine(NK (ji sz) _ 1 1 _ Rp rfl (by decide) rR).mono ?_;rintro _ H4 ⟨⟨a4,c4,rfl,dE⟩,cH⟩;have gA:=cH.size)|refine Vc.aq ?_)<;>(intros;(conv=>whnf)))))
 rename_i Hp zp bp xp;have hpo:(ej.jv (ji sz)).length<=1000:=by
  have:=Kc (ji sz) 1 (fun f hf=>by rw[aW.1 hf];exact aB _);have e:cQ (ji sz)=sz:=by simp[cQ,ji]
  have e2:(ji sz).length=1:=rfl;rw[e,e2]at this;omega
 obtain⟨B,hB⟩: ∃ B,ej.jv (ji sz)=B:=⟨_,rfl⟩;rw[hB]at dE hpo bp ⊢;have hsl:=vG B;have fW:ax H H4:=cd.trans (bh.trans (x3.trans cH));have wI:=FM bp (dE.row.ext xp) rfl dE.jC;((conv=>whnf);repeat(any_goals((first|(refine(Fz _ _ 1 1 _ wI rfl (by decide) (by rw[tu];dsimp only;omega)).mono ?_;rintro _ H5 ⟨rfl,cE⟩;have ij:=cE.size;rw[tu])|refine Vc.aq ?_)<;>(intros;(conv=>whnf)))))
 rename_i Hs zs bs xs Ht zt bt xt2;have Mw:bu Ht H5.size (cv (ix B)).toArray 85:=bt;have G6: ∀ (j:Nat) (u:Value),(cv (ix B))[j]? =some u->hcell Ht ⟨H5.size,0+j,none⟩=some u:=fun j u hu=>by rw[Mw.cell];simpa using hu
 have Z6:ax H5 Ht:=xs.but xt2 (aB _);have x1t:ax H1 Ht:=bh.trans (x3.trans (cH.trans (xp.trans (cE.trans Z6))));refine dt.intro (fun(x:Rs)=>[(9,.int .i64 x.i),(8,.slice x.a x.i x.cap)]) (fun x H'=>x.i<=k/\gp sL 37 H' Ht.size 90 x.a ((List.range x.i).map (yi (ix B))) x.cap/\ax Ht H') (fun x=>k-x.i) ⟨0,[],none,0⟩ ⟨rfl,rfl,aF⟩ ⟨aI _,gp.nil _ _ _ _ _,ax.refl _⟩ ?_;rintro⟨i,fs,pa,pc⟩ H6 ⟨hi,ei,cV⟩;dsimp only at hi ei ⊢;have fS:=cV.size;by_cases ct:i<k
 .have hb:((97:Int)+(i:Int)) % 256=(((UInt8.ofNat (97+i)).toNat:Nat):Int):=by rw[fJ];omega
  have oI:(⟨#[112]⟩:ByteArray)++ag [UInt8.ofNat (97+i)]=ag (j9 i):=by show ag [112]++ag _=_;rw[kC];rfl
  ((conv=>whnf);repeat(any_goals((first|(refine fm.AU ?_;rw[hb])|(refine kM.mk ⟨(by(show 1+1<=9223372036854775807);decide),?_⟩)|(rename_i H7 z7 b7 x7;refine ml (l:=[UInt8.ofNat (97+i)]) rfl rfl rfl (bu.row (c:=cv [UInt8.ofNat (97+i)]) b7) rfl ?_)|(rw[oI];show Go.Vc.da _ _ _;refine da.F5 _ (acA hsl) ?_)|refine Vc.aq ?_)<;>(intros;(conv=>whnf)))))
  rename_i Hq zq bq xq;have Z7:ax H6 Hq:=x7.trans xq;have bq':bu Hq H7.size (u9 (j9 i) ⟨0,0,0,[]⟩ (ix B) none 0).toArray 90:=by simpa [Value.cells]using bq
  have qA:sL Hq (yi (ix B) i) (u9 (j9 i) ⟨0,0,0,[]⟩ (ix B) none 0):=⟨none,0,rfl,hsl,aB _,mJ.nil _ _ _⟩;refine cP.yw oS rfl ⟨_,rfl,fun _ h=>by cases h⟩ rfl rfl rfl rfl (by decide) (by decide) (ei.ext oS.ok Z7) (by simp) (bu.row bq') (gg.one (x:=yi (ix B) i) qA) rfl (by omega) (by omega) ?_;intro a7 c7 H8 iT mg CS;((conv=>whnf);repeat(any_goals((first|refine Vc.aq ?_)<;>(intros;(conv=>whnf)))))
  exact⟨⟨i+1,[],a7,c7⟩,⟨rfl,rfl,aF⟩,⟨by show i+1<=k;omega,by show gp sL 37 _ _ _ _ ((List.range (i+1)).map (yi (ix B))) _;rw[List.range_succ,d9];exact iT,BH (n:=H6.size) (cV.trans Z7) (fun p hp=>ei.block p hp) mg⟩,by show k-(i+1)<k-i;omega⟩
 .obtain rfl:i=k:=by omega
  have akm:ax H1 H6:=x1t.trans cV;((conv=>whnf);repeat(any_goals((first|(refine(aef (ix B) hsl a4 _ c4 _).mono ?_;rintro _ H7 ⟨⟨g1,g2,rfl,pb,rI⟩,dq⟩;have jK:=dq.size)|((with_reducible apply uD);(exact hsl);(exact G6);(exact Vc.xt);(conv=>whnf))|refine Vc.aq ?_)<;>(intros;(conv=>whnf)))))
  have uZ:ax H1 H7:=akm.trans dq;have x47:ax H4 H7:=xp.trans (cE.trans (Z6.trans (cV.trans dq)));have hO:=af0 sz i (by omega) (ix B);rw[hB]at hO;obtain⟨CO,akn,ako⟩:=ah7 sz i (by omega) (by omega);have Pu:=afZ (ix B) B rfl (by omega) ((List.range i).map (yi (ix B))) (fun p hp=>by
   obtain⟨j,hj,rfl⟩:=bH.1 hp;exact⟨rfl,by show 2<=1000;decide,nC.one (by decide) (by decide) (by decide)⟩) pa i pc (H:=H7) ((ei.ext oS.ok dq).row) (by simp) (by omega) a4 _ c4 g1 g2 (dE.row.ext x47) rfl dE.jC (VP dE) pb rI (fun p hp=>by
   obtain⟨j,hj,rfl⟩:=bH.1 hp;show(jN true (j9 j) _ B).2=0/\(jN true (j9 j) _ B).1.length<=501;rw[<-hB,On sz (by omega)];exact⟨rfl,by show 2<=501;decide⟩) (by rw[hO];exact af1 (SZ (Oo sz i (by omega) (by omega)))) (by rw[hO,KA];omega) (by rw[hO];exact af2 sz i (by omega)) (by rw[hO];exact akn) (by rw[hO];exact ako) (hg.ext (cd.trans uZ)) (by have:=uZ.size;omega)
  rw[hO]at Pu;have mK:=KA sz i;have fy:=Wv sz i;obtain⟨A,hA⟩: ∃ A,ko (pT sz i)=A:=⟨_,rfl⟩;rw[hA]at Pu mK fy;((conv=>whnf);repeat(any_goals((first|(refine Pu.mono ?_;rintro _ H8 ⟨⟨a8,c8,fs8,rfl,iT,lH⟩,gx⟩;have lD:=gx.size)|refine Vc.aq ?_)<;>(intros;(conv=>whnf)))))
  refine dt.intro (fun(j:Nat)=>[(12,.int .i64 j)]) (fun j H'=>j<=i/\H8=H') (fun j=>i-j) 0 ⟨rfl,aF⟩ ⟨aI _,rfl⟩ ?_;rintro j _ ⟨hj,rfl⟩;by_cases Iu:j<i
  .obtain⟨g0,G5⟩:=fy j Iu;have hpj:((List.range i).map (yi (ix B)))[j]? =some (yi (ix B) j):=by simp[Iu]
   have akp:=(ei.ext oS.ok (dq.trans gx)).row;have qn:ag (j9 j)++⟨#[47,102]⟩=ag (j9 j++[47,102]):=by show ag (j9 j)++ag [47,102]=_;rw[kC]
   have en:((ag (j9 j++[47,102])).toList==(ag (j9 j)++⟨#[47,102]⟩).toList)=true:=by rw[qn,eD]
   have szn:(ag (j9 j)).size=2:=rfl;have szf:(⟨#[47,102]⟩:ByteArray).size=2:=rfl;((conv=>whnf);repeat(any_goals((first|(refine cm.sf iT.row lH rfl (2*j) (j9 j,(true,[])) (by omega) g0 ?_;intro b0 o0 f0 nh AP;have Xw:=AP 0 _ rfl;have Xx:=AP 1 _ rfl)|(refine cm.sf iT.row lH rfl (2*j+1) (j9 j++[47,102],(false,List.replicate sz 0)) (by omega) G5 ?_;intro b1 o1 f1 lZ Lr;have akl:=Lr 0 _ rfl;have XE:=Lr 2 _ rfl;dsimp only at XE;rw[eT]at XE)|(refine cm.el oS.ok (by decide) akp (by simp) j (yi (ix B) j) rfl hpj ?_;intro bp op cp rT cU;obtain⟨_,_,ep,_⟩:=id rT;have qw:hcell H8 ⟨bp,op+0,none⟩=some (.string (ag (j9 j))):=cU 0 _ (by rw[ep];rfl))|(refine kM.mk ⟨by(simp only[cO,szn,szf];omega),?_⟩)|refine Vc.aq ?_)<;>(intros;(conv=>whnf)))))
   exact⟨j+1,⟨rfl,aF⟩,⟨by omega,rfl⟩,by omega⟩
  ·((conv=>whnf);repeat(any_goals((first|refine Vc.aq ?_)<;>(intros;(conv=>whnf)))))
   exact⟨rfl,cd.trans (uZ.trans gx)⟩
end Go.Proofs.YtphkaogbcfdllaaGreatDoor
namespace Go.lb
open Go.cN Go.eg Go.cM Go.Run Go.ew
open Go.Vc (ck jy)
theorem af3 {n m:Nat} (h:m=(n+1) % 256) (hn:n<256):eK n≠eK m:=by
 have key: ∀ i<6,∀ j<6,i≠j->eK i≠eK j:=by decide
 have e: ∀ k,eK k=eK (k % 6):=fun k=>by unfold eK;rw[Nat.mod_mod]
 rw[e n,e m];exact key _ (eB _ (by decide)) _ (eB _ (by decide)) (by omega)
theorem af4 {x y:jP} (h:eK x.n≠eK y.n) (s t:ap×Int):nw ([x,y].zip [s,t])=[nE x s,nE y t]/\tU ([x,y].zip [s,t])=[mT x.kind x.n x.v,mT y.kind y.n y.v]:=by
 have h0: ∀ (n:ap) (v:fp),oC [] n v=none:=fun _ _=>rfl;have h1:oC [nE x s] (eK y.n) (jG y.v)=none:=by
  unfold oC;simp[nE,h]
 have e1:oY [] (x,s)=[nE x s]:=rfl;have e2:oY [nE x s] (y,t)=[nE x s,nE y t]:=by unfold oY;rw[h1];rfl
 have e3:jE ([],[]) (x,s)=([nE x s],[mT x.kind x.n x.v]):=rfl;have e4:jE ([nE x s],[mT x.kind x.n x.v]) (y,t)=([nE x s,nE y t],[mT x.kind x.n x.v,mT y.kind y.n y.v]):=by unfold jE;dsimp only;rw[h1];rfl
 refine⟨?_,?_⟩
 .show oY (oY [] (x,s)) (y,t)=_;rw[e1,e2]
 .show(jE (jE ([],[]) (x,s)) (y,t)).2=_;rw[e3,e4]
theorem S0 (k n v:Nat):(mT k n v).length<=10000:=by
 have h:=Sj k n v;have hp: ∀ f∈ob k n v,f.1.length<=10:=by
  intro f hf;unfold ob at hf;have hn:=Ga n;simp only[bZ,aM,List.not_mem_nil,or_false]at hf;rcases hf with ((rfl|rfl)|hf)|hf
  .decide
  .show(AL++47::eK n).length<=10;rw[au,ay,hn];decide
  .split at hf
   .rw[aW.1 hf];decide
   .cases hf
  .split at hf
   .cases hf
   .rw[aW.1 hf];exact(by decide:iH.length<=10)
 have hl:=Kc (ob k n v) 10 hp;have hs:cQ (ob k n v)<=1000*(ob k n v).length:=by
  have key: ∀ (L:Tr),(∀ f∈L,f.2.2.length<=1000)->cQ L<=1000*L.length:=by
   intro L;induction L with
   |nil=>intro _;exact aB _
   |cons f L ih=>
    intro hL;have h1:=ih fun g hg=>hL g (by simp[hg]);have h2:=hL f (by simp);have e:cQ (f::L)=f.2.2.length+cQ L:=by unfold cQ;simp
    rw[e,ay];omega
  exact key _ h.2
 have h4:=h.1;unfold mT;rw[au];have h9:(if k % 10=9 then([7]:ap)else []).length<=1:=by split<;>decide
 have h5:21*(ob k n v).length<=21*4:=fC _ h4;omega
theorem abn {same:Bool} {n v b:ap}:(jN same n v b).1.length<=501/\ ∀ f∈(jN same n v b).1,f.1.length<=n.length+1000/\f.2.2.length<=65536:=by
 by_cases h:(jN same n v b).2=0
 .obtain⟨e,_,h1,h2⟩:=UQ h;have hO:=TN (n:=n) (v:=v) (NE b h1).1;rw[e];unfold mu BM;refine⟨by rw[ay,dn];have:=hO.count;omega,fun f hf=> ?_⟩;rcases aM.1 hf with rfl|hf
  .exact⟨by dsimp only;omega,aI _⟩
  .obtain⟨g,hg,rfl⟩:=bH.1 hf;have hm:=jy hO.sorted.nodup hg;have h3:g.1.length<=200:=by
    obtain⟨l,e,hc⟩:=(hO.clean _ _ hm).1;rw[e];exact hc.long
   exact⟨by(show(n++47::g.1).length<=_;rw[au,ay];omega),(hO.file _ _ hm).1⟩
 .rw[UR h];exact⟨aI _,fun f hf=>by cases hf⟩
theorem acC {b:ap} {c e:Nat} (h:ej.jE b c= .inl e):e<=64:=by
 unfold ej.jE at h;split at h
 .cases h;decide
 .repeat' (split at h)
  all_goals first
   |(cases h;decide)
   |cases h
theorem RS: ∀ (n:Nat) (b:ap) (L:List Fi),(ej.vP n b L).2<=64
 |0,b,L=>aB _
 |n+1,b,L=>by
  unfold ej.vP;cases hs:ej.jE b L.length with
  |inl c=>exact acC hs
  |inr o=>
   cases o with
   |none=>exact aI _
   |some p=>obtain⟨f,r⟩:=p;exact RS n r _
theorem aeg (b:ap):(ej.kh b).2<=64:=by
 unfold ej.kh;split
 .split
  .split
   .exact aI _
   .exact aB _
  .exact RS _ _ _
 .exact aB _
theorem UT {L:List Ln}: ∀ (f u:Nat) (s:St),(jF L f u s).1.2<=73
 |0,u,s=>by
  rw[jF];split
  .exact aB _
  .exact aI _
 |f+1,u,s=>by
  rw[jF];split
  .exact aI _
  .split
   .exact UT f _ _
   .exact Nat.le_succ_of_le (Tv _ _ _)
theorem acD {same:Bool} {n v b:ap}:(jN same n v b).2<=80:=by
 have h1:=aeg b;unfold jN;split
 .decide
 split
 .dsimp only;omega
 split
 .dsimp only;unfold oX;split
  .split
   .show 66<=80;decide
   .have:= @UT;exact dh (this _ _ _) (by decide)
  .exact aI _
 .exact aI _
end Go.lb
namespace Go.Proofs.YtphkaogbcfdllaaGreatDoor
open Go Go.Vc Go.cN Go.eg Go.cM Go.Run Go.ew Go.lb Go.uv
theorem af5 {H:ae} (hg:kS H) {n:ap} {e:Nat} {v:Value} (hn:n.length<=100) (he:e<=80) (h:pF H n e v):az Tryz.prog 24 [v] H fun u H'=>u= .int .i64 (e:Int)/\ax H H':=by
 unfold pF at h;split at h
 .rename_i h0;subst h0;subst h;exact afv H
 .obtain⟨ws,lP,hv⟩:=h;exact UD (b:= .num (e:Int)) hg (TT hn lP) (show EM (e:Int)from⟨by omega,by omega⟩) hv
theorem pF.eq {H:ae} {n:ap} {e:Nat} {v:Value} (h:pF H n e v):(e=0/\v= .nilIface)\/(e≠0/\ ∃ t x,v= .iface t x):=by
 unfold pF at h;split at h
 .rename_i h0;exact .inl ⟨h0,h⟩
 .rename_i h0;obtain⟨ws,_,hv⟩:=h;exact .inr ⟨h0,j7.iface hv⟩
theorem pF.ext {H H':ae} {n:ap} {e:Nat} {v:Value} (h:pF H n e v) (k:ax H H'):pF H' n e v:=by
 unfold pF at h ⊢;split at h
 .rename_i h0;rw[av h0];exact h
 .rename_i h0;rw[ak h0];obtain⟨ws,h1,hv⟩:=h;exact⟨ws,h1,hv.ext k⟩
theorem ahi {H:ae} {g:Nat} {x y:jP} {a b:Option Addr} {ca cb:Nat} (hb:bu H g #[.int .u8 x.n,.int .u8 x.v,.slice a x.needs.length ca,.int .u8 x.kind,.int .u8 x.tg,.int .u8 y.n,.int .u8 y.v,.slice b y.needs.length cb,.int .u8 y.kind,.int .u8 y.tg] 74)
  (h1:x.needs.length<=ca) (h2:y.needs.length<=cb) (r1:Row H a (Ah .u16 x.needs)) (r2:Row H b (Ah .u16 y.needs)) (b1:Po x) (b2:Po y):ia wy H (some ⟨g,0,none⟩) [x,y]:=
 ⟨_,bu.row (c:=[.int .u8 x.n,.int .u8 x.v,.slice a x.needs.length ca,.int .u8 x.kind,.int .u8 x.tg]++[.int .u8 y.n,.int .u8 y.v,.slice b y.needs.length cb,.int .u8 y.kind,.int .u8 y.tg]) hb,.cons (x:=x) ⟨a,ca,rfl,h1,r1,b1⟩ (gg.one (x:=y) ⟨b,cb,rfl,h2,r2,b2⟩)⟩
theorem vS (k:Nat):nC (jG k):=let h:=Ni (Nh k);⟨h.ma,h.mi,h.pa,h.len,h.pre⟩
def lV (r:iN):nU:=⟨r.name,r.v,r.sum⟩
set_option maxHeartbeats 4000000 in
theorem aeh {H:ae} (hg:kS H) (hH:2<=H.size) (x y:jP) (ca cb:List Value) (QP:wy H x ca) (LX:wy H y cb):
  az Tryz.prog 9 [.agg ca.toArray,.agg cb.toArray] H fun v H'=>v= .bool true/\ax H H':=by
 obtain⟨a,na,rfl,hna,rO,yR⟩:=QP;obtain⟨b,nb,rfl,rR,qW,mw⟩:=LX;have gx:=yR.n;have e8:((x.n:Int)+1) % 256=(((x.n+1) % 256:Nat):Int):=by omega
 refine Vc.az.body Tryz.func9 Tryz.call9 rfl (by decide+kernel) rfl ?_;((conv=>whnf);repeat(any_goals((first|(rename_i Hp zp bp xp Hq zq bq xq;refine(Jz (hg.ext (xp.trans xq)) (by omega)).mono ?_;rintro _ H1 ⟨rfl,cd⟩;have eR:=cd.size)|(refine fm.AU ?_;rw[e8])|refine Vc.aq ?_)<;>(intros;(conv=>whnf)))))
 rename_i H3 z3 b3 k3 H4 z4 b4 k4 H5 z5 b5 k5 H6 z6 b6 x6;have hzp:=xp.size;have MB:=dx trivial ((((((xp.trans (xq.trans cd)).but k3 (by omega)).but k4 (by omega)).but k5 (aB _))).trans x6);have fS:=MB.2.size;obtain⟨x',LI⟩: ∃ x':jP,({x with tg:=0}:jP)=x':=⟨_,rfl⟩;obtain⟨y',LJ⟩: ∃ y':jP,({y with n:=(x.n+1) % 256,tg:=0}:jP)=y':=⟨_,rfl⟩;have sZ: ∀ (H':ae) (g:Nat),ax H H'->bu H' g #[.int .u8 x.n,.int .u8 x.v,.slice a x.needs.length na,.int .u8 x.kind,.int .u8 (0:Nat),.int .u8 ((x.n+1) % 256:Nat),.int .u8 y.v,.slice b y.needs.length nb,.int .u8 y.kind,.int .u8 (0:Nat)] 74->ia wy H' (some ⟨g,0,none⟩) [x',y']:=fun H' g k hb=>by
  rw[<-LI,<-LJ];exact ahi (x:={x with tg:=0}) (y:={y with n:=(x.n+1) % 256,tg:=0}) hb hna rR (rO.ext k) (qW.ext k) ⟨yR.n,yR.v,yR.needs,yR.kind,Nat.zero_lt_succ _⟩ ⟨eB _ (by decide),mw.v,mw.needs,mw.kind,Nat.zero_lt_succ _⟩
 have aiN:=sZ H6 _ MB.2 b6;have iF:eK x'.n≠eK y'.n:=by rw[<-LI,<-LJ];exact af3 rfl gx
 have hl:=fun H' (k:ax H6 H')=>adY [x',y'] _ 2 2 2 H' (aiN.ext F9 k) rfl (by decide);cases G7:DN [x',y'] 2 with
 |false=>
  rw[G7]at hl;((conv=>whnf);repeat(any_goals((first|(refine(hl _ (by exact Vc.xt)).mono ?_;rintro _ _ ⟨rfl,rfl⟩)|refine Vc.aq ?_)<;>(intros;(conv=>whnf)))))
  exact⟨rfl,MB.2⟩
 |true=>
  rw[G7]at hl;obtain⟨_,hL⟩:=(JI _ _).1 G7;((conv=>whnf);repeat(any_goals((first|(refine(hl _ (by exact Vc.xt)).mono ?_;rintro _ _ ⟨rfl,rfl⟩)|refine Vc.aq ?_)<;>(intros;(conv=>whnf)))))
  rename_i H7 z7 b7 x7;have Rv:=dx trivial (MB.2.trans x7);have jK:=Rv.2.size;refine(SV [x',y'] hL _ 2 _ H7 (sZ H7 _ Rv.2 b7) rfl (by decide)).mono ?_;rintro _ H8 ⟨⟨S,ra,rc,aa,ac,st,hS,rfl,hR,Rl,hA,vq⟩,gx⟩;obtain⟨s1,s2,rfl⟩: ∃ s1 s2,S=[s1,s2]:=by
   match S,hS with
   |[s1,s2],_=>exact⟨s1,s2,rfl⟩
  obtain⟨em,ea⟩:=af4 iF s1 s2;rw[em]at hR Rl ⊢;rw[ea]at hA vq ⊢;have lD:=gx.size;have x08:=dx trivial (Rv.2.trans gx);have Ho:(mT x'.kind x'.n x'.v).length<=10000/\(mT y'.kind y'.n y'.v).length<=10000:=⟨S0 _ _ _,S0 _ _ _⟩;obtain⟨R,MC⟩: ∃ R,[nE x' s1,nE y' s2]=R:=⟨_,rfl⟩;obtain⟨B0,Mr⟩: ∃ B,mT x'.kind x'.n x'.v=B:=⟨_,rfl⟩;obtain⟨B1,QY⟩: ∃ B,mT y'.kind y'.n y'.v=B:=⟨_,rfl⟩;have Z8:R.length=2:=by rw[<-MC];rfl
  have Z9: ∀ r∈R,nC r.v/\r.name.length=1:=fun r hr=>by
   rw[<-MC]at hr;simp only[aM,List.not_mem_nil,or_false]at hr;rcases hr with rfl|rfl<;>exact⟨vS _,Ga _⟩
  rw[MC]at hR Rl ⊢;rw[Mr,QY]at hA vq Ho ⊢;rw[Z8];((conv=>whnf);repeat(any_goals((first|refine Vc.aq ?_)<;>(intros;(conv=>whnf)))))
  refine dt.intro (fun(z:Rs)=>[(9,.int .i64 z.i),(8,.slice z.a z.i z.cap)]) (fun z H'=>z.i<=2/\gp sL 37 H' H8.size 90 z.a ((R.map lV).take z.i) z.cap/\ax H8 H') (fun z=>2-z.i) ⟨0,[],none,0⟩ ⟨rfl,rfl,aF⟩ ⟨aI _,gp.nil _ _ _ _ _,ax.refl _⟩ ?_;rintro⟨i,gs,pa,pc⟩ H9 ⟨hi,kv,kA⟩;dsimp only at hi kv ⊢;have ly:=kA.size;by_cases ct:i<2
  .obtain⟨r,hr⟩: ∃ r,R[i]? =some r:=⟨_,aD (by omega)⟩;obtain⟨bi,oi,ci,jL,cU,kb⟩:=ia.fix zF.ok (by decide) hR Z8 hr;obtain⟨va,vc,na2,nc2,ec,hsl,Rn,xi,_,_⟩:=id jL;have iL:hcell H8 ⟨bi,oi+0,none⟩=some (Value.string (ag r.name)):=cU 0 _ (by rw[ec];rfl);have sW: ∀ (k:Nat) (u:Value),([.int .i64 r.v.ma,.int .i64 r.v.mi,.int .i64 r.v.pa,.slice va r.v.pre.length vc]:List Value)[k]? =some u->hcell H8 ⟨bi,oi+1+k,none⟩=some u:=fun k u hu=>by
    rw[eF];refine cU (1+k) u ?_;rw[ec]
    match k,hu with
    |0,hu=>exact hu
    |1,hu=>exact hu
    |2,hu=>exact hu
    |3,hu=>exact hu
   have G6: ∀ (k:Nat) (u:Value),(cv r.sum)[k]? =some u->hcell H8 ⟨bi,oi+5+k,none⟩=some u:=fun k u hu=>by
    rw[eF];refine cU (5+k) u ?_;rw[ec,bM,bA (by show 5<=5+k;omega),show 5+k-([.string (ag r.name),.int .i64 r.v.ma,.int .i64 r.v.mi,.int .i64 r.v.pa,.slice va r.v.pre.length vc]:List Value).length=k by show 5+k-5=k;omega,bV (aH.1 hu).1];exact hu
   ((conv=>whnf);repeat(any_goals((first|(refine kb _ _ rfl ?_)|((with_reducible apply aE.pZ);(exact sW);(exact Vc.xt);(conv=>whnf))|((with_reducible apply uD);(exact hsl);(exact G6);(exact Vc.xt);(conv=>whnf))|(show Go.Vc.da _ _ _;refine da.F6 _ (NL (s:=r.name) (v:=r.v) hsl) ?_)|refine Vc.aq ?_)<;>(intros;(conv=>whnf)))))
   refine aE.ahV (c:=u9 r.name r.v r.sum va vc) _ (by unfold u9;rw[au,ik,hsl];rfl) ?_;intro Hq zq bq xq;have qA:sL Hq (lV r) (u9 r.name r.v r.sum va vc):=⟨va,vc,rfl,hsl,Rn,xi.ext (kA.trans xq)⟩;have wT:(R.map lV).take (i+1)=(R.map lV).take i++[lV r]:=by rw[bX,dK,hr];rfl
   have kB:((R.map lV).take i).length=i:=by rw[aJ,dn];omega
   ((conv=>whnf);repeat(any_goals((first|refine Vc.aq ?_)<;>(intros;(conv=>whnf)))))
   refine cP.yw oS rfl ⟨_,rfl,fun _ h=>by cases h⟩ rfl rfl rfl rfl (by decide) (by decide) (kv.ext oS.ok xq) kB (bu.row bq) (gg.one (x:=lV r) qA) rfl (by omega) (by omega) ?_;intro a7 c7 Hr rK hwr eA;((conv=>whnf);repeat(any_goals((first|refine Vc.aq ?_)<;>(intros;(conv=>whnf)))))
   exact⟨⟨i+1,[],a7,c7⟩,⟨rfl,rfl,aF⟩,⟨by show i+1<=2;omega,by show gp sL 37 _ _ _ _ ((R.map lV).take (i+1)) _;rw[wT];exact rK,BH (n:=H9.size) (kA.trans xq) (fun p hp=>kv.block p hp) hwr⟩,by show 2-(i+1)<2-i;omega⟩
  .obtain rfl:i=2:=by omega
   rw[aL (by rw[dn];omega)]at kv;obtain⟨r0,r1,rfl⟩: ∃ r0 r1,R=[r0,r1]:=⟨_,_,MC.symm⟩;have pf:=kv.row;obtain⟨b0,o0,c0,iL,rP,hi0⟩:=ia.fix oS.ok (by decide) pf (n:=2) rfl (j:=0) (x:=lV r0) rfl;obtain⟨b1,o1,c1,pq,lu,A2⟩:=ia.fix oS.ok (by decide) pf (n:=2) rfl (j:=1) (x:=lV r1) rfl;obtain⟨d0,p0,e0,nh,mc,j0⟩:=ia.fix vV.ok (by decide) hA (n:=2) rfl (j:=0) (x:=B0) rfl;obtain⟨d1,p1,e1,lZ,wM,j1⟩:=ia.fix vV.ok (by decide) hA (n:=2) rfl (j:=1) (x:=B1) rfl;obtain⟨q0,u0,f0,HO,hq0,k0⟩:=ia.fix zF.ok (by decide) hR (n:=2) rfl (j:=0) (x:=r0) rfl;obtain⟨_,_,_,_,ef0,_⟩:=id HO;have mZ:hcell H8 ⟨q0,u0+0,none⟩=some (Value.string (ag r0.name)):=hq0 0 _ (by rw[ef0];rfl);obtain⟨xa,xc,rfl,ve,CU,Ey⟩:=nh;obtain⟨ya,yc,rfl,hyc,Qo,Yw⟩:=lZ;have Ba:=mc 0 _ rfl;have CD:=wM 0 _ rfl;obtain⟨Lu,HZ⟩:=Z9 r0 (by simp);obtain⟨hv1,wO⟩:=Z9 r1 (by simp);have Rw:=dx trivial (x08.2.trans kA);have akq:c0.length=37:=oS.ok.len iL;have aiO:c1.length=37:=oS.ok.len pq;have Qf:=fun H' (k:ax H9 H')=>De (H:=H') (lV r0) c0 (oS.ok.ext k iL) Lu (by show r0.name.length<=1000;omega) B0 xa _ xc (Ey.row.ext (kA.trans k)) rfl ve CU (by omega) (hg.ext (Rw.2.trans k)) (by have:=k.size;omega);have akr:=fun H' (k:ax H9 H')=>De (H:=H') (lV r1) c1 (oS.ok.ext k pq) hv1 (by show r1.name.length<=1000;omega) B1 ya _ yc (Yw.row.ext (kA.trans k)) rfl hyc Qo (by omega) (hg.ext (Rw.2.trans k)) (by have:=k.size;omega);obtain⟨Rh,QG⟩:=abn (same:=decide (ix B0=(lV r0).sum)) (n:=(lV r0).name) (v:=km (lV r0).v) (b:=B0);have hFc:=acD (same:=decide (ix B0=(lV r0).sum)) (n:=(lV r0).name) (v:=km (lV r0).v) (b:=B0);have Ig:=aaJ (same:=decide (ix B0=(lV r0).sum)) (n:=(lV r0).name) (v:=km (lV r0).v) (b:=B0);obtain⟨F,hF⟩: ∃ F,jN (decide (ix B0=(lV r0).sum)) (lV r0).name (km (lV r0).v) B0=F:=⟨_,rfl⟩;rw[hF]at Rh QG hFc Ig;simp only[hF]at Qf;have CK:(lV r0).name.length<=100:=by show r0.name.length<=100;omega
   have rL:=fun H' (k:ax H H') v (h:pF H' (lV r0).name F.2 v)=>af5 (hg.ext k) CK hFc h;have cz:((F.2:Int) != (F.2:Int))=false:=by simp
   have hfq:decide (F.1=F.1)=true:=by simp
   by_cases h0:F.2=0;all_goals
    ((conv=>whnf);repeat(any_goals((first|(refine hi0 _ _ rfl ?_)|(refine A2 _ _ rfl ?_)|(refine j0 _ _ rfl ?_)|(refine j1 _ _ rfl ?_)|((with_reducible apply NM);(exact akq);(exact rP);(exact Vc.xt);(conv=>whnf))|((with_reducible apply NM);(exact aiO);(exact lu);(exact Vc.xt);(conv=>whnf))|((fail_if_success (have:=EW));refine(Qf _ (ax.refl _)).mono ?_;rintro _ HA ⟨⟨aA,cA,fsA,erA,rfl,yT,htA,heA⟩,EW⟩;have hzA:=EW.size;rcases heA.eq with ⟨Rx,rfl⟩|⟨Rx,tyA,plA,rfl⟩<;>(first|exact absurd h0 Rx|exact absurd Rx h0|skip))|((fail_if_success (have:=IJ));refine(akr _ (by exact Vc.xt)).mono ?_;rintro _ HB ⟨_,IJ⟩;have ZS:=IJ.size)|((fail_if_success (have:=IK));refine(Qf _ (by exact Vc.xt)).mono ?_;rintro _ HC ⟨⟨aC,cC,fsC,erC,rfl,hoC,htC,heC⟩,IK⟩;have ZT:=IK.size;rcases heC.eq with ⟨Ry,rfl⟩|⟨Ry,tyC,plC,rfl⟩<;>(first|exact absurd h0 Ry|exact absurd Ry h0|skip))|refine Vc.aq ?_)<;>(intros;(conv=>whnf)))))
    have E7:ax HA HC:=IJ.trans IK;have hgA:=dx trivial (Rw.2.trans (EW.trans E7));have aks:=heA.ext E7;have hrA:j4 HC aA F.1:=⟨_,yT.row.ext E7,htA.files.ext E7⟩;have hrC:j4 HC aC F.1:=⟨_,hoC.row,htC.files⟩;have lQ:=fun H' (k:ax HC H')=>ab7 F.1 F.1 aA aC _ _ cA cC H' (hrA.ext k) (hrC.ext k) rfl rfl (by omega) (by omega);simp only[hfq]at lQ;((conv=>whnf);repeat(any_goals((first|((fail_if_success (have:=EX));refine(rL _ (by exact hgA.2) _ aks).mono ?_;rintro _ HD ⟨rfl,EX⟩;have hzD:=EX.size;have hgD:=dx trivial (hgA.2.trans EX))|((fail_if_success (have:=EY));refine(rL _ (by exact hgD.2) _ (heC.ext (by exact Vc.xt))).mono ?_;rintro _ HE ⟨rfl,EY⟩;have hzE:=EY.size)|(refine(lQ _ (by exact Vc.xt)).mono ?_;rintro _ _ ⟨rfl,rfl⟩)|refine Vc.aq ?_)<;>(intros;(conv=>whnf)))))
    have hyE:ax HC HE:=EX.trans EY;have hxE:=dx trivial (hgD.2.trans EY);have akt:ax H8 HE:=kA.trans (EW.trans (E7.trans hyE));refine dt.intro (fun(j:Nat)=>[(14,.int .i64 j)]) (fun j H'=>j<=F.1.length/\HE=H') (fun j=>F.1.length-j) 0 ⟨rfl,aF⟩ ⟨aI _,rfl⟩ ?_;rintro j _ ⟨hj,rfl⟩;by_cases Iu:j<F.1.length
    .obtain⟨f,hfj⟩: ∃ f,F.1[j]? =some f:=⟨_,aD Iu⟩;have LP:=aU hfj;obtain⟨Rg,_⟩:=QG f LP;have hwf:=Ig f LP;have yJ:=fun H'=>aa4 f.1 (lV r0).name (by omega) (by omega) H';rw[hwf]at yJ;((conv=>whnf);repeat(any_goals((first|(refine cm.sf (yT.row.ext (E7.trans hyE)) htA rfl j f rfl hfj ?_;intro bf of_ ff jS hcf;have alo:=hcf 0 _ rfl)|(refine k0 _ _ rfl ?_)|(refine aE.nZ rfl mZ akt ?_)|(refine(yJ _).mono ?_;rintro _ _ ⟨rfl,rfl⟩)|refine Vc.aq ?_)<;>(intros;(conv=>whnf)))))
     exact⟨j+1,⟨rfl,aF⟩,⟨by omega,rfl⟩,by omega⟩
    .obtain rfl:j=F.1.length:=by omega
     ((conv=>whnf);repeat(any_goals((first|refine Vc.aq ?_)<;>(intros;(conv=>whnf)))))
     exact⟨rfl,hxE.2⟩
end Go.Proofs.YtphkaogbcfdllaaGreatDoor
