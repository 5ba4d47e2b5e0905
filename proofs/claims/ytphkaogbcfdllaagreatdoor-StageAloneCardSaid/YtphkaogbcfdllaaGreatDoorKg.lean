import Derived.Test.YtphkaogbcfdllaaGreatDoorKe
import Derived.Test.YtphkaogbcfdllaaGreatDoorKf
import Derived.Test.YtphkaogbcfdllaaGreatDoorKd
import Derived.Lib.Join
import Derived.Shelf.LaysM
import Derived.Shelf.Strconv.Itoa3
import Derived.Test.YtphkaogbcfdllaaGreatDoorProg
import Derived.Stop.Asserts
set_option linter.unusedVariables false
set_option linter.unusedSimpArgs false
set_option maxRecDepth 100000
/- Build scripts at work, plain: what holds of every run. -/
namespace Go.Run
open Go.cN Go.eg Go.cM Go.bu
open Go.Vc (ck fk jX)
theorem JT (stay:Nat): ∀ (xs l:List ap),(iP stay l xs).2<=51
 |[],l=>by
  unfold iP;split<;>exact aS rfl
 |x::xs,l=>by
  unfold iP;split
  .exact JT stay xs l
  split
  .split
   .exact aS rfl
   .exact JT stay xs _
  split
  .exact aS rfl
  .exact JT stay xs _
theorem ri (s:ap):(cF s).2<=51:=by
 rcases M2 s with h|h|⟨_,h⟩
 .show(r6 [] s).2<=51;rw[h];exact aS rfl
 .show(r6 [] s).2<=51;rw[h];exact aB _
 .show(r6 [] s).2<=51;rw[h];exact JT _ _ _
theorem abU (A:Tr) (s b:ap):(nP A s b).2<=55:=by
 unfold nP;split
 .unfold iO;split
  .exact aS rfl
  split<;>exact aS rfl
 .have:=ri s;dsimp only;omega
theorem aaZ (A:Tr) (s b:ap):(qH A s b).2<=55:=by
 unfold qH;split
 .unfold iO;split
  .exact aS rfl
  split<;>exact aS rfl
 .have:=ri s;dsimp only;omega
theorem abV (A:Tr) (s:ap):(oU A s).2<=55:=by
 unfold oU;split
 .unfold zM;split
  .exact aS rfl
  split
  .exact aS rfl
  split<;>exact aS rfl
 .have:=ri s;dsimp only;omega
theorem aa0 (A:Tr) (s:ap):(nN A s).2<=55:=by
 unfold nN;split
 .split
  .exact aS rfl
  split<;>exact aS rfl
 .have:=ri s;dsimp only;omega
theorem ade (A:Tr) (p q:ap) (st:Bool):(As A p q st).2<=55:=by
 unfold As;by_cases h1:p≠ []/\ck A p=none
 .rw[av h1];exact aS rfl
 rw[ak h1];by_cases h2:p=[]\/eL q p=true
 .rw[av h2];exact aS rfl
 rw[ak h2];by_cases h3:q=[]\/(ck A q).isSome=true
 .rw[av h3];exact aS rfl
 rw[ak h3];by_cases h4:kG A q=true
 .rw[av h4];exact aS rfl
 rw[ak h4];by_cases h5:yn (eM A p q)=true
 .rw[av h5];exact aS rfl
 rw[ak h5];by_cases h6:500<A.length+((dm A q).length+if st=true then(eM A p q).length else 0)\/1048576<cQ A+(if st=true then cQ (eM A p q)else 0)
 .rw[av h6];exact aB _
 .rw[ak h6];exact aI _
theorem Uf (A:Tr) (s t:ap) (st:Bool):(cM.kW A s t st).2<=55:=by
 unfold cM.kW;split
 .split
  .exact ade _ _ _ _
  .have:=ri t;dsimp only;omega
 .have:=ri s;dsimp only;omega
theorem SG (K:List Nat) (x:Ln) (s:St):(∃ r:Tr×Nat,fX K x s=qO s r/\r.2<=55/\(dr s.A->dr r.1))\/
  ((fX K x s).1.A=s.A/\(fX K x s).2<=72/\((fX K x s).1.V=s.V\/((fX K x s).1.V=s.V.map (fun V=>fk V x.a (gd V x.tx))/\(gd (lp s.V) x.tx).length<=65536))):=by
 unfold fX;by_cases h0:x.k=0
 .rw[av h0];exact .inl ⟨_,rfl,Uf _ _ _ _,fun h=>dr.kW h _ _ _⟩
 rw[ak h0];by_cases h1:x.k=1
 .rw[av h1];exact .inl ⟨_,rfl,abU _ _ _,fun h=>dr.nP h _ _⟩
 rw[ak h1];by_cases h2:x.k=2
 .rw[av h2];exact .inl ⟨_,rfl,aaZ _ _ _,fun h=>dr.qH h _ _⟩
 rw[ak h2];by_cases h3:x.k=3
 .rw[av h3];exact .inl ⟨_,rfl,abV _ _,fun h=>dr.oU h _⟩
 rw[ak h3];by_cases h4:x.k=4
 .rw[av h4];exact .inl ⟨_,rfl,aa0 _ _,fun h=>dr.nN h _⟩
 rw[ak h4];by_cases h5:x.k=5
 .rw[av h5];exact .inl ⟨_,rfl,Uf _ _ _ _,fun h=>dr.kW h _ _ _⟩
 rw[ak h5];refine .inr ?_;by_cases h6:x.k=6
 .rw[av h6];by_cases ha:uN x.a=false
  .rw[av ha];exact⟨rfl,aB _,.inl rfl⟩
  rw[ak ha];by_cases hb:65536<(gd (lp s.V) x.tx).length
  .rw[av hb];exact⟨rfl,aS rfl,.inl rfl⟩
  .rw[ak hb];exact⟨rfl,aI _,.inr ⟨rfl,by omega⟩⟩
 rw[ak h6];by_cases h7:x.k=7
 .rw[av h7];by_cases ha:uI s.A (gd (lp s.V) x.a)=x.nt
  .rw[av ha];exact⟨rfl,aI _,.inl rfl⟩
  .rw[ak ha];exact⟨rfl,aI _,.inl rfl⟩
 rw[ak h7];by_cases h8:x.k=8
 .rw[av h8];by_cases ha:x.n=0
  .rw[av ha];exact⟨rfl,aI _,.inl rfl⟩
  .rw[ak ha];exact⟨rfl,aI _,.inl rfl⟩
 rw[ak h8];by_cases h9:x.k=9
 .rw[av h9];exact⟨rfl,aI _,.inl rfl⟩
 rw[ak h9];by_cases nI:x.k=10
 .rw[av nI];cases hS:s.S with
  |nil=>exact⟨rfl,aI _,.inl rfl⟩
  |cons p S=>
   dsimp only;by_cases ha:(iV K p.1).2=s.at_
   .rw[av ha];by_cases hb:1<p.2
    .rw[av hb];exact⟨rfl,aI _,.inl rfl⟩
    .rw[ak hb];exact⟨rfl,aI _,.inl rfl⟩
   .rw[ak ha];exact⟨rfl,aI _,.inl rfl⟩
 rw[ak nI];by_cases um:x.k=11
 .rw[av um];exact⟨rfl,aB _,.inl rfl⟩
 .rw[ak um];exact⟨rfl,aI _,.inl rfl⟩
theorem Tv (K:List Nat) (x:Ln) (s:St):(fX K x s).2<=72:=by
 rcases SG K x s with ⟨r,e,h,_⟩|⟨_,h,_⟩
 .rw[e];show r.2<=72;omega
 .exact h
theorem adf (K:List Nat) (x:Ln) {s:St} (h:dr s.A):dr (fX K x s).1.A:=by
 rcases SG K x s with ⟨r,e,_,h2⟩|⟨e,_,_⟩
 .rw[e];exact h2 h
 .rw[e];exact h
theorem Ug (L:List Ln): ∀ (f u:Nat) (s:St),dr s.A->dr (jF L f u s).2.A
 |0,u,s,h=>by
  rw[jF];split<;>exact h
 |f+1,u,s,h=>by
  cases hx:L[s.at_]? with
  |none=>rw[jF,hx];exact h
  |some x=>
   rw[Nv hx];have h2:=adf (cY L) x h;split
   .exact Ug L f _ _ h2
   .exact h2
def Fit (V:Option kP):Prop:=∀ k,(qi (lp V) k).length<=65536
theorem Fit.none:Fit none:=fun k=>by simp[lp,qi,ck]
theorem Fit.put {V:kP} (h:Fit (some V)) {k t:ap} (ht:t.length<=65536):Fit (some (fk V k t)):=fun k'=>by
 have:=h k';show((ck (fk V k t) k').getD []).length<=_;rw[jX];split
 .exact ht
 .exact this
theorem Dk {L:List Ln} {i:Nat} {x:Ln} (h:L[i]? =some x):(cY L)[i]? =some x.k:=by unfold cY;rw[dK,h];rfl
theorem Dl (L:List Ln):(cY L).length=L.length:=by simp[cY]
theorem Vd {L:List Ln} (hn:mn (cY L)) {x:Ln} {s:St} (hx:L[s.at_]? =some x) (hS: ∀ p∈s.S,p.1<L.length):(fX (cY L) x s).1.at_<=L.length/\ ∀ p∈(fX (cY L) x s).1.S,p.1<L.length:=by
 have hk:=Dk hx;have hl:=(aH.1 hx).1;have hlen:=Dl L;unfold fX;by_cases h0:x.k=0
 .rw[av h0];exact⟨by unfold qO;dsimp only;omega,hS⟩
 rw[ak h0];by_cases h1:x.k=1
 .rw[av h1];exact⟨by unfold qO;dsimp only;omega,hS⟩
 rw[ak h1];by_cases h2:x.k=2
 .rw[av h2];exact⟨by unfold qO;dsimp only;omega,hS⟩
 rw[ak h2];by_cases h3:x.k=3
 .rw[av h3];exact⟨by unfold qO;dsimp only;omega,hS⟩
 rw[ak h3];by_cases h4:x.k=4
 .rw[av h4];exact⟨by unfold qO;dsimp only;omega,hS⟩
 rw[ak h4];by_cases h5:x.k=5
 .rw[av h5];exact⟨by unfold qO;dsimp only;omega,hS⟩
 rw[ak h5];by_cases h6:x.k=6
 .rw[av h6];by_cases ha:uN x.a=false
  .rw[av ha];exact⟨by dsimp only;omega,hS⟩
  rw[ak ha];by_cases hb:65536<(gd (lp s.V) x.tx).length
  .rw[av hb];exact⟨by dsimp only;omega,hS⟩
  .rw[ak hb];exact⟨by unfold mD;dsimp only;omega,hS⟩
 rw[ak h6];by_cases h7:x.k=7
 .rw[av h7];rw[h7]at hk;have he:=DF hn hk (.inl rfl);by_cases ha:uI s.A (gd (lp s.V) x.a)=x.nt
  .rw[av ha];refine⟨?_,hS⟩;dsimp only;split
   .rename_i e oJ;have:=(aH.1 (he.qE e oJ).1).1;omega
   .have:=he.lt;omega
  .rw[ak ha];exact⟨by unfold mD;dsimp only;omega,hS⟩
 rw[ak h7];by_cases h8:x.k=8
 .rw[av h8];rw[h8]at hk;have he:=DF hn hk (.inr rfl);by_cases ha:x.n=0
  .rw[av ha];exact⟨by have:=he.lt;dsimp only;omega,hS⟩
  .rw[ak ha];refine⟨by unfold mD;dsimp only;omega,fun p hp=> ?_⟩;rcases aM.1 hp with rfl|hp
   .exact hl
   .exact hS p hp
 rw[ak h8];by_cases h9:x.k=9
 .rw[av h9];rw[h9]at hk;exact⟨by have:=(U9 hn hk).lt;dsimp only;omega,hS⟩
 rw[ak h9];by_cases nI:x.k=10
 .rw[av nI];cases LQ:s.S with
  |nil=>exact⟨by unfold mD;dsimp only;omega,by dsimp only[mD];rw[LQ];intro p hp;cases hp⟩
  |cons p S=>
   obtain⟨h,n⟩:=p;dsimp only;have hh:=hS (h,n) (by rw[LQ];simp);by_cases ha:(iV (cY L) h).2=s.at_
   .rw[av ha];by_cases hb:1<n
    .rw[av hb];refine⟨by dsimp only at hh ⊢;omega,fun p hp=> ?_⟩;rcases aM.1 hp with rfl|hp
     .exact hh
     .exact hS p (by rw[LQ];exact bG _ hp)
    .rw[ak hb];exact⟨by unfold mD;dsimp only;omega,fun p hp=>hS p (by rw[LQ];exact bG _ hp)⟩
   .rw[ak ha];exact⟨by unfold mD;dsimp only;omega,hS⟩
 rw[ak nI];by_cases um:x.k=11
 .rw[av um];exact⟨by dsimp only;omega,hS⟩
 .rw[ak um];exact⟨by unfold mD;dsimp only;omega,hS⟩
end Go.Run
namespace Go.Vc
variable {P:Program} {H H':ae}
theorem aE.adg {t kt et:TypeId} {i:TypeInfo} {z:Value} {k:Bs} {K:Value->ae->Prop} (ht:P.underlying t=some (.map kt et)) (hk:P.underlying kt=some .string)
  (hi:P.info? et=some i) (hz:i.zero=some z) (h:K z H):aE P (Instr.lookup t (.map none) (.string (ag k)) false) H K:=by
 refine⟨fun w hw=>⟨_,w,?_,dC.refl w,by rw[hw];exact h⟩⟩;have hf:Instr.findNow .string (.string (ag k)) [] 0=some none:=rfl;simp[Instr.lookup,Sem.run_bind,ft ht,BE hk,BA hk hf,zeroValue,xn hi,hz]
theorem Row.mF {F:Nat->Prop} {a:Option Addr} {cs:List Value} {s:ByteArray} (h:Row H a cs) (k:cD F H H') {j:Nat} (hs:cs≠ []->cs[j]? =some (.string s)) (hF: ∀ b,F b->b<H.size->qQ H b):Row H' a cs:=h.vY k fun cz p hp hf=>by
 obtain⟨b,o,ha,ct,hc⟩:=h.at (bY.2 cz);rw[ha]at hp;cases hp;have:=(hF _ hf ct).out _ _ (hc j _ (hs cz));cases this
end Go.Vc
namespace Go.Proofs.YtphkaogbcfdllaaGreatDoor
open Go Go.Vc Go.cN Go.eg Go.cM Go.bu Go.Run
variable {Z:Nat->Prop}
def tP (V:kP):List (Bs×Value):=V.map fun x=>(x.1,.string (ag x.2))
theorem Ve: ∀ (V:kP) (k:Bs),ck (tP V) k=(ck V k).map fun t=>Value.string (ag t)
 |[],k=>rfl
 |x::V,k=>by
  show(if k=x.1 then some (Value.string (ag x.2))else ck (tP V) k)=(if k=x.1 then some x.2 else ck V k).map _;split
  .rfl
  .exact Ve V k
theorem DG: ∀ (V:kP) (k t:Bs),fk (tP V) k (.string (ag t))=tP (fk V k t)
 |[],k,t=>rfl
 |x::V,k,t=>by
  show(if k=x.1 then(k,Value.string (ag t))::tP V else(x.1,Value.string (ag x.2))::fk (tP V) k (.string (ag t)))=tP (if k=x.1 then(k,t)::V else x::fk V k t);split
  .rfl
  .rw[DG V k t];rfl
def pA (H:ae):Option Nat->Option kP->Prop
 |none,none=>True
 |some b,some V=>jb H b (tP V)
 |_,_=>False
theorem pA.keep {F:Nat->Prop} {H H':ae} {vm:Option Nat} {V:Option kP} (h:pA H vm V) (k:cD F H H') (hF: ∀ b,vm=some b-> ¬F b):pA H' vm V:=by
 cases vm with
 |none=>cases V with|none=>trivial|some V=>exact h.elim
 |some b=>cases V with|none=>exact h.elim|some V=>exact jb.keep h k (hF b rfl)
theorem pA.ext {H H':ae} {vm:Option Nat} {V:Option kP} (h:pA H vm V) (k:ax H H'):pA H' vm V:=h.keep k fun _ _=>id
theorem aE.var {H:ae} {vm:Option Nat} {V:Option kP} {k:Bs} {K:Value->ae->Prop} (h:pA H vm V) (hk:K (.string (ag (qi (lp V) k))) H):aE Tryz.prog (Instr.lookup 44 (.map vm) (.string (ag k)) false) H K:=by
 cases vm with
 |none=>
  cases V with
  |some V=>exact h.elim
  |none=>exact aE.adg (z:= .string ⟨#[]⟩) rfl rfl rfl rfl hk
 |some b=>
  cases V with
  |none=>exact h.elim
  |some V=>
   refine aE.n9 (z:= .string ⟨#[]⟩) h rfl rfl rfl rfl ?_;rw[Ve];have e:((ck V k).map fun t=>Value.string (ag t)).getD (.string ⟨#[]⟩)= .string (ag (qi (lp (some V)) k)):=by
    show _=Value.string (ag ((ck V k).getD []));cases ck V k<;>rfl
   rw[e];exact hk
theorem cP.GC {H:ae} {u ty:TypeId} {a:Option Addr} {n cap base m:Nat} {l y:Bs} {x:Value} {cb:Array Bool} {K:Value->ae->Prop}
  (jZ:cq H base 5 1 a n cap (cv l)) (mU:Src Tryz.prog H x 1 m (cv y)) (hn:n<=1000000000000) (hm:m<=1000000000000) (hb:base<=H.size) (hu: ∃ d,Tryz.prog.underlying u=some d/\(∀ k,d≠ .int k))
  (hk: ∀ a' cS H',cq H' base 5 1 a' (n+m) cS (cv (l++y))->Wr a H H'->K (.slice a' (n+m) cS) H'):cP Tryz.prog (builtin .append #[33,u] ty cb #[.slice a n cap,x]) H K:=by
 refine Go.Vc.cP.append (i:=Tryz.t5) (z:= .int .u8 0) rfl hu rfl rfl rfl jZ mU (by unfold maxLen;omega) ?_ hb fun a' cS H' h1 h2 _=>hk a' cS H' (by rw[rh];exact h1) h2;show(n+m)*1<=_;omega
theorem adh (l v r:Bs) (m:Nat) (hm:m=min v.length 65537):((l++v.take m)++r).take 65537=(l++(v++r)).take 65537:=by
 rcases bR 65537 v.length with h|h
 .rw[show m=65537 by omega,bM,List.take_append,List.take_append,List.take_append,List.take_append (l₁:=v),List.take_take,aJ];congr 2
  .rw[gL (by omega)]
  .rw[show 65537-l.length-min 65537 v.length=0 by omega,show 65537-l.length-v.length=0 by omega,fu]
 .rw[show m=v.length by omega,fB,bM]
theorem Uh {F:Nat->Prop} {H H':ae} {a:Option Addr} {L:List Ln} (h:Row H a (lL L)) (k:cD F H H') (hF: ∀ b,F b->b<H.size->qQ H b):Row H' a (lL L):=by
 cases L with
 |nil=>exact Row.nil _ _
 |cons x L=>exact Row.mF (j:=1) (s:=ag x.a) h k (fun _=>rfl) hF
theorem rZ {l:List Nat} {j n:Nat} (h:l[j]? =some n):(kH l)[j]? =some (.int .i64 (n:Int)):=by unfold kH;rw[dK,h];rfl
theorem zB (l:List Nat) (j n:Nat):(kH l).set j (.int .i64 (n:Int))=kH (l.set j n):=by unfold kH;rw[List.map_set]
theorem Ui (n:Nat):(madeCells (Value.int .i64 0).cells (n*1)).toList=kH (List.replicate n 0):=by
 apply fF;intro j;rw[bQ,dL];simp only[madeCells,Array.getElem?_map,Array.getElem?_range,kH,List.map_replicate,List.getElem?_replicate];split
 .show some ((#[Value.int .i64 0])[j % 1]!)=_;rw[Nat.mod_one];rfl
 .simp
abbrev jf (H:ae) (B g n:Nat) (l:List Nat):Prop:=cq H B 3 1 (some ⟨g,0,none⟩) n n (kH l)
theorem jf.cL {H:ae} {B g n:Nat} {l:List Nat} (h:jf H B g n l) (hl:l.length=n):bu H g (kH l).toArray 3:=by
 rcases h.out with ⟨h1,_⟩|⟨g',eE,h1,_,hb,_,_,hs,ht⟩
 .cases h1
 .cases h1;have:eE.toList=kH l:=by rw[<-ht,aL];rw[dR];omega
  rw[<-this];simpa using hb
theorem jf.mF {H:ae} {B g n:Nat} {l:List Nat} (h:jf H B g n l) (hl:l.length=n):pL H g:=pL.cL (h.cL hl) (fun v hv=>by
 have hv:v∈kH l:=by simpa using hv
 obtain⟨n,_,rfl⟩:=bH.1 hv;rfl) (by decide)
end Go.Proofs.YtphkaogbcfdllaaGreatDoor
namespace Go.Proofs.YtphkaogbcfdllaaGreatDoor
open Go Go.Vc Go.cN Go.eg Go.cM Go.bu Go.Run
theorem Tw (c:UInt8) (H:ae):az Tryz.prog 204 [.int .u8 c.toNat] H fun v H'=>v= .bool (sd c)/\H=H':=by
 have hc:=c.toNat_lt;unfold sd;refine Vc.az.body Tryz.func204 Tryz.call204 rfl (by decide+kernel) rfl ?_;((conv=>whnf);repeat(any_goals((first|refine Vc.aq ?_|refine Vc.bz ?_ ?_)<;>(intros;(conv=>whnf)))))
 all_goals(refine⟨?_,rfl⟩;first|(rw[bB (by omega)];rfl)|(rw[aN (by omega)];rfl)|(show Value.bool _=Value.bool _;congr 1;rw[dI,aK,aK];omega))
theorem adi (c:UInt8) (H:ae):az Tryz.prog 205 [.int .u8 c.toNat] H fun v H'=>v= .bool (nB c)/\H=H':=by
 have hc:=c.toNat_lt;unfold nB;refine Vc.az.body Tryz.func205 Tryz.call205 rfl (by decide+kernel) rfl ?_;((conv=>whnf);repeat(any_goals((first|refine Vc.aq ?_|refine Vc.bz ?_ ?_)<;>(intros;(conv=>whnf)))))
 all_goals(refine⟨?_,rfl⟩;first|(rw[bB (by omega)];rfl)|(rw[aN (by omega)];rfl)|(show Value.bool _=Value.bool _;congr 1;rw[dI,aK,aK];omega))
theorem Dm (s:Bs) (hl:s.length<=1000000000) (H:ae):az Tryz.prog 164 [.string (ag s)] H fun v H'=>v= .int .i64 (pz s)/\H=H':=by
 have ez:(ag s).size=s.length:=rfl;by_cases D5:s=[]
 .subst D5;refine Vc.az.body Tryz.func164 Tryz.call164 rfl (by decide+kernel) rfl ?_;((conv=>whnf);repeat(any_goals((first|refine Vc.aq ?_|refine Vc.bz ?_ ?_)<;>(intros;(conv=>whnf)))))
  exact⟨rfl,rfl⟩
 obtain⟨c,t,q5⟩: ∃ c t,s=c::t:=by cases s with|nil=>exact absurd rfl D5|cons c t=>exact⟨c,t,rfl⟩
 have cz:((ag s).toList==(⟨#[]⟩:ByteArray).toList)=false:=by rw[q5];exact xv c t
 have yM:=fun H=>Tw c H;have h0:(ag s).data.toList.getD 0 0=c:=by rw[q5];rfl
 have hlen:s.length=t.length+1:=by rw[q5];rfl
 refine Vc.az.body Tryz.func164 Tryz.call164 rfl (by decide+kernel) rfl ?_;cases tO:sd c with
 |false=>
  rw[tO]at yM;have iF:pz s=0:=by rw[q5];show(if sd c=true then _ else 0)=0;rw[tO];rfl
  rw[iF];((conv=>whnf);repeat(any_goals((first|(refine db.nat 0 rfl (by omega) ?_;(conv=>whnf);rw[h0])|(refine(yM _).mono ?_;rintro _ _ ⟨rfl,rfl⟩)|refine Vc.aq ?_|refine Vc.bz ?_ ?_)<;>(intros;(conv=>whnf)))))
  exact⟨rfl,rfl⟩
 |true=>
  rw[tO]at yM;have iF:pz s=(s.takeWhile fun x=>sd x || nB x).length:=by
   rw[q5,eP,av (by rw[tO];rfl),ay];show(if sd c=true then 1+(t.takeWhile fun x=>sd x || nB x).length else 0)=_;rw[av tO];omega
  ((conv=>whnf);repeat(any_goals((first|(refine db.nat 0 rfl (by omega) ?_;(conv=>whnf);rw[h0])|(refine(yM _).mono ?_;rintro _ _ ⟨rfl,rfl⟩)|refine Vc.aq ?_|refine Vc.bz ?_ ?_)<;>(intros;(conv=>whnf)))))
  clear yM h0 tO cz;refine dt.intro (fun(i:Nat)=>[(14,.int .i64 i)]) (fun i H'=>H=H'/\i<=s.length/\pz s=i+((s.drop i).takeWhile fun x=>sd x || nB x).length) (fun i=>s.length-i) 0 ⟨rfl,aF⟩ ⟨rfl,aI _,by rw[iF];simp⟩ ?_;rintro i _ ⟨rfl,hi,hb⟩;dsimp only;by_cases ct:i<s.length
  .obtain⟨c,hc,hd⟩:=pX ct;rw[hd,eP]at hb;have jr:=fun H=>Tw c H;have lZ:=fun H=>adi c H;cases eC:sd c with
   |true=>
    rw[eC]at jr hb;rw[Bool.true_or,av rfl,ay]at hb;((conv=>whnf);repeat(any_goals((first|(refine db.nat i rfl (by omega) ?_;(conv=>whnf);rw[hc])|(refine(jr _).mono ?_;rintro _ _ ⟨rfl,rfl⟩)|(refine(lZ _).mono ?_;rintro _ _ ⟨rfl,rfl⟩)|refine Vc.aq ?_|refine Vc.bz ?_ ?_)<;>(intros;(conv=>whnf)))))
    exact⟨i+1,⟨rfl,aF⟩,⟨rfl,by omega,by omega⟩,by omega⟩
   |false=>
    rw[eC]at jr hb;cases di:nB c with
    |true=>
     rw[di]at lZ hb;rw[Bool.false_or,av rfl,ay]at hb;((conv=>whnf);repeat(any_goals((first|(refine db.nat i rfl (by omega) ?_;(conv=>whnf);rw[hc])|(refine(jr _).mono ?_;rintro _ _ ⟨rfl,rfl⟩)|(refine(lZ _).mono ?_;rintro _ _ ⟨rfl,rfl⟩)|refine Vc.aq ?_|refine Vc.bz ?_ ?_)<;>(intros;(conv=>whnf)))))
     exact⟨i+1,⟨rfl,aF⟩,⟨rfl,by omega,by omega⟩,by omega⟩
    |false=>
     rw[di]at lZ hb;rw[Bool.false_or,ak (by decide)]at hb;((conv=>whnf);repeat(any_goals((first|(refine db.nat i rfl (by omega) ?_;(conv=>whnf);rw[hc])|(refine(jr _).mono ?_;rintro _ _ ⟨rfl,rfl⟩)|(refine(lZ _).mono ?_;rintro _ _ ⟨rfl,rfl⟩)|refine Vc.aq ?_|refine Vc.bz ?_ ?_)<;>(intros;(conv=>whnf)))))
     exact⟨by rw[hb];rfl,rfl⟩
  .rw[aV (by omega)]at hb;((conv=>whnf);repeat(any_goals((first|refine Vc.aq ?_|refine Vc.bz ?_ ?_)<;>(intros;(conv=>whnf)))))
   exact⟨by rw[hb];show Value.int _ _=Value.int _ _;congr 1;simp;omega,rfl⟩
structure TxS where
 i:Nat
 l:Bs
 a:Option Addr
 cap:Nat
set_option maxHeartbeats 2000000 in
theorem Dn (g:Nat) (vm:Option Nat) (V:Option kP) (s:Bs) (hl:s.length<=1000000000) (H:ae) (hv:pA H vm V) (EK:hcell H ⟨g,4,none⟩=some (.map vm)):
  az Tryz.prog 110 [.pointer (some ⟨g,0,none⟩),.string (ag s)] H fun v H'=>v= .string (ag ((gd (lp V) s).take 65537))/\ax H H':=by
 have ez:(ag s).size=s.length:=rfl;obtain⟨W,hW⟩: ∃ W,lp V=W:=⟨_,rfl⟩;rw[hW];refine Vc.az.body Tryz.func110 Tryz.call110 rfl (by decide+kernel) rfl ?_;((conv=>whnf);repeat(any_goals((first|refine Vc.aq ?_)<;>(intros;(conv=>whnf)))))
 refine dt.intro (fun(x:TxS)=>[(6,.int .i64 x.i),(5,.slice x.a x.l.length x.cap)]) (fun x H'=>x.i<=s.length/\x.l.length<=131074/\cq H' H.size 5 1 x.a x.l.length x.cap (cv x.l)/\(gd W s).take 65537=(x.l++gd W (s.drop x.i)).take 65537/\ax H H') (fun x=>s.length-x.i) ⟨0,[],none,0⟩ ⟨rfl,rfl,aF⟩ ⟨aI _,aI _,cq.nil _ _ _ _,rfl,ax.refl _⟩ ?_;rintro⟨i,l,a,cap⟩ H1 ⟨hi,lx,ho,hinv,cd⟩;dsimp only at hi lx ho hinv cd ⊢;have eR:=cd.size;by_cases ct:i<s.length
 .obtain⟨c,hc,hd⟩:=pX ct;rw[hd,Dc]at hinv;by_cases AX:l.length<65537
  .by_cases HY:c≠36
   .rw[av HY]at hinv;have n36:=vT 36 (by decide) HY;((conv=>whnf);repeat(any_goals((first|(refine db.nat i rfl (by omega) ?_;(conv=>whnf);rw[hc])|(refine dk.nat (i+1+n) (by omega) (by omega) ?_)|(refine dk.nat m Ar (by omega) ?_;(conv=>whnf);rw[nM])|(refine aE.var (hv.ext (by exact Vc.xt)) ?_;rw[hW,vt])|(refine cP.GC (y:=v.take m) (m:=(ag (v.take m)).size) ho (Src.str (ag (v.take m))) (by omega) (by omega) (by omega) ⟨_,rfl,fun _ h=>by cases h⟩ ?_;intro a2 c2 H2 dy pO)|(refine dk.nat (i+1) (by omega) (by omega) ?_;(conv=>whnf);first|rw[B8]|rw[nY,ht])|(refine(iF _).mono ?_;rintro _ _ ⟨rfl,rfl⟩)|refine Vc.aq ?_)<;>(intros;(conv=>whnf)))))
    rename_i Ha za ba xa a2 c2 H2 dy bh;exact⟨⟨i+1,l++[c],a2,c2⟩,⟨rfl,zA a2 l c c2,aF⟩,⟨by show i+1<=_;omega,by show(l++[c]).length<=_;simp;omega,zn dy,by show _=((l++[c])++_).take _;rw[hinv,bM];rfl,bh⟩,by show s.length-(i+1)<s.length-i;omega⟩
   .have HY:c=36:=Classical.not_not.1 HY;subst HY;rw[ak (by simp)]at hinv;have n36:(36:UInt8).toNat=36:=rfl;obtain⟨t,ht⟩: ∃ t,s.drop (i+1)=t:=⟨_,rfl⟩;have kB:t.length=s.length-(i+1):=by rw[<-ht,aO]
    have ajj:=aeJ t;rw[ht]at hinv;obtain⟨n,hN⟩: ∃ n,pz t=n:=⟨_,rfl⟩;rw[hN]at hinv ajj;have iF:=fun H=>Dm t (by omega) H;rw[hN]at iF;by_cases HZ:n=0
    .rw[ak (by omega)]at hinv;subst HZ;cases t with
     |nil=>
      have lu:i+1=s.length:=by rw[cu]at kB;omega
      rw[ak (by simp)]at hinv;((conv=>whnf);repeat(any_goals((first|(refine db.nat i rfl (by omega) ?_;(conv=>whnf);rw[hc])|(refine dk.nat (i+1+n) (by omega) (by omega) ?_)|(refine dk.nat m Ar (by omega) ?_;(conv=>whnf);rw[nM])|(refine aE.var (hv.ext (by exact Vc.xt)) ?_;rw[hW,vt])|(refine cP.GC (y:=v.take m) (m:=(ag (v.take m)).size) ho (Src.str (ag (v.take m))) (by omega) (by omega) (by omega) ⟨_,rfl,fun _ h=>by cases h⟩ ?_;intro a2 c2 H2 dy pO)|(refine dk.nat (i+1) (by omega) (by omega) ?_;(conv=>whnf);first|rw[B8]|rw[nY,ht])|(refine(iF _).mono ?_;rintro _ _ ⟨rfl,rfl⟩)|refine Vc.aq ?_)<;>(intros;(conv=>whnf)))))
      rename_i Ha za ba xa a2 c2 H2 dy bh;exact⟨⟨i+1,l++[36],a2,c2⟩,⟨rfl,zA a2 l 36 c2,aF⟩,⟨by show i+1<=_;omega,by show(l++[36]).length<=_;simp;omega,zn dy,by show _=((l++[36])++gd W (s.drop (i+1))).take _;rw[hinv,bM,ht];rfl,bh⟩,by show s.length-(i+1)<s.length-i;omega⟩
     |cons d u=>
      have lu:i+1<s.length:=by rw[ay]at kB;omega
      obtain⟨d',pI,CD⟩:=pX lu;rw[ht,iC]at CD;obtain⟨rfl,hu⟩:=CD;by_cases h2:d=36
      .subst h2;rw[av (by rfl)]at hinv;have n37:(36:UInt8).toNat=36:=rfl;((conv=>whnf);repeat(any_goals((first|(refine db.nat (i+1) (by omega) (by omega) ?_;(conv=>whnf);rw[pI])|(refine db.nat i rfl (by omega) ?_;(conv=>whnf);rw[hc])|(refine dk.nat (i+1+n) (by omega) (by omega) ?_)|(refine dk.nat m Ar (by omega) ?_;(conv=>whnf);rw[nM])|(refine aE.var (hv.ext (by exact Vc.xt)) ?_;rw[hW,vt])|(refine cP.GC (y:=v.take m) (m:=(ag (v.take m)).size) ho (Src.str (ag (v.take m))) (by omega) (by omega) (by omega) ⟨_,rfl,fun _ h=>by cases h⟩ ?_;intro a2 c2 H2 dy pO)|(refine dk.nat (i+1) (by omega) (by omega) ?_;(conv=>whnf);first|rw[B8]|rw[nY,ht])|(refine(iF _).mono ?_;rintro _ _ ⟨rfl,rfl⟩)|refine Vc.aq ?_)<;>(intros;(conv=>whnf)))))
       rename_i Ha za ba xa a2 c2 H2 dy bh;exact⟨⟨i+1+1,l++[36],a2,c2⟩,⟨rfl,zA a2 l 36 c2,aF⟩,⟨by show i+1+1<=_;omega,by show(l++[36]).length<=_;simp;omega,zn dy,by show _=((l++[36])++gd W (s.drop (i+1+1))).take _;rw[hinv,bM,<-hu];rfl,bh⟩,by show s.length-(i+1+1)<s.length-i;omega⟩
      .rw[ak (by simpa using h2)]at hinv;have n37:=vT 36 (by decide) h2;((conv=>whnf);repeat(any_goals((first|(refine db.nat (i+1) (by omega) (by omega) ?_;(conv=>whnf);rw[pI])|(refine db.nat i rfl (by omega) ?_;(conv=>whnf);rw[hc])|(refine dk.nat (i+1+n) (by omega) (by omega) ?_)|(refine dk.nat m Ar (by omega) ?_;(conv=>whnf);rw[nM])|(refine aE.var (hv.ext (by exact Vc.xt)) ?_;rw[hW,vt])|(refine cP.GC (y:=v.take m) (m:=(ag (v.take m)).size) ho (Src.str (ag (v.take m))) (by omega) (by omega) (by omega) ⟨_,rfl,fun _ h=>by cases h⟩ ?_;intro a2 c2 H2 dy pO)|(refine dk.nat (i+1) (by omega) (by omega) ?_;(conv=>whnf);first|rw[B8]|rw[nY,ht])|(refine(iF _).mono ?_;rintro _ _ ⟨rfl,rfl⟩)|refine Vc.aq ?_)<;>(intros;(conv=>whnf)))))
       rename_i Ha za ba xa a2 c2 H2 dy bh;exact⟨⟨i+1,l++[36],a2,c2⟩,⟨rfl,zA a2 l 36 c2,aF⟩,⟨by show i+1<=_;omega,by show(l++[36]).length<=_;simp;omega,zn dy,by show _=((l++[36])++gd W (s.drop (i+1))).take _;rw[hinv,bM,ht];rfl,bh⟩,by show s.length-(i+1)<s.length-i;omega⟩
    .rw[av HZ]at hinv;obtain⟨v,vt⟩: ∃ v,qi W (t.take n)=v:=⟨_,rfl⟩;rw[vt]at hinv;have B8:(ag s).extract (i+1) (i+1+n)=ag (t.take n):=by rw[xA,ht,show i+1+n-(i+1)=n by omega]
     obtain⟨m,hm⟩: ∃ m,m=min v.length 65537:=⟨_,rfl⟩;have Ar:min ((v.length:Nat):Int) 65537=(m:Int):=by omega
     have nH:(ag v).size=v.length:=rfl;have Ia:(ag (v.take m)).size=m:=by show(v.take m).length=m;rw[aJ];omega
     ((conv=>whnf);repeat(any_goals((first|(refine db.nat i rfl (by omega) ?_;(conv=>whnf);rw[hc])|(refine dk.nat (i+1+n) (by omega) (by omega) ?_)|(refine dk.nat m Ar (by omega) ?_;(conv=>whnf);rw[nM])|(refine aE.var (hv.ext (by exact Vc.xt)) ?_;rw[hW,vt])|(refine cP.GC (y:=v.take m) (m:=(ag (v.take m)).size) ho (Src.str (ag (v.take m))) (by omega) (by omega) (by omega) ⟨_,rfl,fun _ h=>by cases h⟩ ?_;intro a2 c2 H2 dy pO)|(refine dk.nat (i+1) (by omega) (by omega) ?_;(conv=>whnf);first|rw[B8]|rw[nY,ht])|(refine(iF _).mono ?_;rintro _ _ ⟨rfl,rfl⟩)|refine Vc.aq ?_)<;>(intros;(conv=>whnf)))))
     have bh:ax H H2:=cd.wr ho (aB _) pO;have WT:(l++v.take m).length=l.length+(ag (v.take m)).size:=by rw[au];rfl
     refine⟨⟨i+n+1,l++v.take m,a2,c2⟩,⟨rfl,by show Value.slice _ _ _=Value.slice _ _ _;rw[WT],aF⟩,⟨by show i+n+1<=_;omega,by show(l++v.take m).length<=_;omega,by show cq _ _ _ 1 _ (l++v.take m).length _ _;rw[WT];exact dy,?_,bh⟩,by show s.length-(i+n+1)<s.length-i;omega⟩;show _=((l++v.take m)++gd W (s.drop (i+n+1))).take 65537;rw[hinv,adh l v _ m hm,<-ht,List.drop_drop,show i+1+n=i+n+1 by omega]
  .rw[List.take_append_of_le_length (by omega)]at hinv
   (obtain⟨M,hM⟩: ∃ M,M=min l.length 65537:=⟨_,rfl⟩;have oI:min ((l.length:Nat):Int) 65537=(M:Int):=(by omega);have cU:=ho.jC;have jz:=ho.row.take M;rw[zi]at jz;have oL:(l.take M).length=M:=(by rw[aJ];omega);have lY:l.take M=l.take 65537:=(by rcases bR 65537 l.length with h|h;(rw[show M=65537 by omega]);(rw[aL (by omega),aL (by omega)]));((conv=>whnf);repeat(any_goals((first|(refine dk.nat M oI (by omega) ?_)|(refine ml (l:=l.take M) rfl rfl rfl jz oL ?_)|refine Vc.aq ?_)<;>(intros;(conv=>whnf)))));exact⟨(by rw[hinv,<-lY];rfl),cd⟩)
 .rw[aV (by omega),Tg,dD]at hinv
  (obtain⟨M,hM⟩: ∃ M,M=min l.length 65537:=⟨_,rfl⟩;have oI:min ((l.length:Nat):Int) 65537=(M:Int):=(by omega);have cU:=ho.jC;have jz:=ho.row.take M;rw[zi]at jz;have oL:(l.take M).length=M:=(by rw[aJ];omega);have lY:l.take M=l.take 65537:=(by rcases bR 65537 l.length with h|h;(rw[show M=65537 by omega]);(rw[aL (by omega),aL (by omega)]));((conv=>whnf);repeat(any_goals((first|(refine dk.nat M oI (by omega) ?_)|(refine ml (l:=l.take M) rfl rfl rfl jz oL ?_)|refine Vc.aq ?_)<;>(intros;(conv=>whnf)))));exact⟨(by rw[hinv,<-lY];rfl),cd⟩)
structure MP where
 B:Nat
 g:Nat
 go:Nat
 gh:Nat
 gm:Nat
 al:Option Addr
 cl:Nat
 n:Nat
 L:List Ln
 O:List Nat
 Hd:List Nat
 b:Nat
 mb:Nat
 vm:Option Nat
def uW (m:MP) (f:Nat):Array Value:= #[.slice (some ⟨m.go,0,none⟩) m.n m.n,.slice (some ⟨m.gh,0,none⟩) m.n m.n,.slice m.al m.n m.cl,.pointer (some ⟨m.b,0,none⟩),.map m.vm,.slice (some ⟨m.gm,0,none⟩) m.n m.n,.int .i64 f]
structure jU (H:ae) (m:MP) (s:St) (M:List Nat) (f:Nat):Prop where
 cL:bu H m.g (uW m f) 139
 jT:jf H m.B m.go m.n m.O
 uo:jf H m.B m.gh m.n m.Hd
 pP:jf H m.B m.gm m.n M
 row:Row H m.al (lL m.L)
 len:m.L.length=m.n
 small:m.n<=1000000
 lens: ∀ x∈m.L,x.a.length<=1000000/\x.b.length<=1000000/\x.tx.length<=1000000/\x.n<=1000000
 CP: ∀ c∈M,c<=1000000
 tree:iQ no H m.b m.mb s.A
 vars:pA H m.vm s.V
 wm:Go.bu.Tables (cY m.L) m.O m.Hd
 rel:kY (cY m.L) s.at_ s.S M
 mH:dr s.A
 d1:m.go≠m.gm
 d2:m.gh≠m.gm
 dv: ∀ v,m.vm=some v->v≠m.mb
theorem aeR (m:MP) (f:Nat): ∀ v∈(uW m f).toList,rm v=true:=by simp[uW,rm]
theorem jU.WU {H:ae} {m:MP} {s:St} {M:List Nat} {f:Nat} (h:jU H m s M f):pL H m.g:= .cL h.cL (aeR m f) (by decide)
theorem jU.qR {H:ae} {m:MP} {s:St} {M:List Nat} {f:Nat} (h:jU H m s M f):(cY m.L).length=m.n:=by rw[Dl,h.len]
theorem jU.X5 {H:ae} {m:MP} {s:St} {M:List Nat} {f:Nat} (h:jU H m s M f):hcell H ⟨m.g,4,none⟩=some (.map m.vm):=by rw[h.cL.cell];rfl
def po (m:MP) (x:Nat):Prop:=x=m.b\/x=m.mb\/m.vm=some x\/x=m.gm
theorem zu {H:ae} {vm:Option Nat} {V:Option kP} (h:pA H vm V) {v:Nat} (e:vm=some v): ∃ W,V=some W/\jb H v (tP W):=by
 subst e;cases V with
 |none=>exact h.elim
 |some W=>exact⟨W,rfl,h⟩
theorem jU.keep {H H':ae} {m:MP} {s s':St} {M M':List Nat} {f:Nat} (h:jU H m s M f) (k:cD (po m) H H') (hm:jf H' m.B m.gm m.n M') (ht:iQ no H' m.b m.mb s'.A) (hv:pA H' m.vm s'.V) (hr:kY (cY m.L) s'.at_ s'.S M') (ho:dr s'.A) (pG: ∀ c∈M',c<=1000000):jU H' m s' M' f:=by
 have oL:M.length=m.n:=by rw[h.rel.len,h.qR]
 have Ib:=h.pP.cL oL;have WV: ∀ {g:Nat} {c:Array Value} {t:TypeId},bu H g c t->t≠133->g≠m.gm-> ¬po m g:=by
  intro g c t hb LR hg hd;rcases hd with e|e|e|e
  .subst e;exact LR (pw hb h.tree.cL).1
  .exact h.tree.map.ne hb e.symm
  .obtain⟨W,_,hW⟩:=zu h.vars e;exact hW.ne hb rfl
  .exact hg e
 have hgG:m.g≠m.gm:=fun e=>by
  have h1:=h.cL;rw[e]at h1;exact absurd (pw h1 Ib).1 (by decide)
 have QD:m.O.length=m.n:=by rw[h.wm.wj,h.qR]
 have QE:m.Hd.length=m.n:=by rw[h.wm.yo,h.qR]
 have Ec: ∀ {g:Nat} {l:List Nat},jf H m.B g m.n l->l.length=m.n->g≠m.gm->jf H' m.B g m.n l:=by
  intro g l LR hl hg;exact LR.keep k fun p hp hd=>by
   cases hp;exact WV (LR.cL hl) (by decide) hg hd
 refine⟨h.cL.keep k (WV h.cL (by decide) hgG),Ec h.jT QD h.d1,Ec h.uo QE h.d2,hm,Uh h.row k fun x hx _=> ?_,h.len,h.small,h.lens,pG,ht,hv,h.wm,hr,ho,h.d1,h.d2,h.dv⟩;rcases hx with e|e|e|e
 .subst e;exact h.tree.jT.mF
 .subst e;exact h.tree.map.jT.mF
 .obtain⟨W,_,hW⟩:=zu h.vars e;exact .map hW
 .subst e;exact(h.pP.mF oL).mF
theorem jU.ext {H H':ae} {m:MP} {s:St} {M:List Nat} {f:Nat} (h:jU H m s M f) (k:ax H H'):jU H' m s M f:=
 h.keep k.only (h.pP.ext k) (h.tree.ext k) (h.vars.ext k) h.rel h.mH h.CP
theorem jU.did {H H1 H':ae} {m:MP} {s:St} {M:List Nat} {f:Nat} {v:Value} {r:Tr×Nat} (h:jU H m s M f) (k:ax H H1) (hd:Did no H1 H' m.b m.mb v r) (ho:dr r.1) (hh:gl (cY m.L) (s.at_+1)=gl (cY m.L) s.at_):
  jU H' m (qO s r).1 M f/\cD (po m) H H':=by
 have h1:=h.ext k;have oL:M.length=m.n:=by rw[h.rel.len,h.qR]
 have hx:cD (po m) H1 H':=hd.only.mono fun x e=>e.elim .inl fun e=> .inr (.inl e);refine⟨h1.keep hx (h1.pP.keep hd.only fun p hp e=> ?_) hd.tree (h1.vars.keep hd.only fun v hv e=> ?_) (h1.rel.same hh) ho h.CP,k.only.trans hx fun _ _ e=>e⟩
 .cases hp;have hb:=h1.pP.cL oL;rcases e with e|e
  .dsimp only at e;rw[e]at hb;exact absurd (pw hb h1.tree.cL).1 (by decide)
  .exact h1.tree.map.ne hb e.symm
 .obtain⟨W,_,hW⟩:=zu h1.vars hv;rcases e with e|e
  .exact hW.ne h1.tree.cL e
  .exact h.dv v hv e
theorem jU.more {H H1 H':ae} {m:MP} {s s':St} {M M':List Nat} {f:Nat} (h:jU H m s M f) (k:ax H H1) (hm:jf H' m.B m.gm m.n M') (hb:fw m.gm H1 H') (hA:s'.A=s.A) (hV:s'.V=s.V) (hr:kY (cY m.L) s'.at_ s'.S M') (pG: ∀ c∈M',c<=1000000):
  jU H' m s' M' f/\cD (po m) H H':=by
 have h1:=h.ext k;have oL:M.length=m.n:=by rw[h.rel.len,h.qR]
 have Ib:=h1.pP.cL oL;have hx:cD (po m) H1 H':=hb.mono fun x e=> .inr (.inr (.inr e));refine⟨h1.keep hx hm ?_ ?_ hr (by rw[hA];exact h1.mH) pG,k.only.trans hx fun _ _ e=>e⟩
 .rw[hA];refine h1.tree.keep hb (fun e=> ?_) (fun e=>h1.tree.map.ne Ib e) fun x e _=>by subst e;exact .inl (h1.pP.mF oL)
  have h2:=h1.tree.cL;rw[e]at h2;exact absurd (pw h2 Ib).1 (by decide)
 .rw[hV];exact h1.vars.keep hb fun v hv e=>by
   obtain⟨W,_,hW⟩:=zu h1.vars hv;exact hW.ne Ib e
theorem jU.to {H H':ae} {m:MP} {s s':St} {M:List Nat} {f:Nat} (h:jU H m s M f) (k:ax H H') (hA:s'.A=s.A) (hV:s'.V=s.V) (hr:kY (cY m.L) s'.at_ s'.S M):jU H' m s' M f/\cD (po m) H H':=
 ⟨h.keep k.only (h.pP.ext k) (by rw[hA];exact h.tree.ext k) (by rw[hV];exact h.vars.ext k) hr (by rw[hA];exact h.mH) h.CP,k.only⟩
theorem jU.set {H H1 H':ae} {m:MP} {s s':St} {M:List Nat} {f:Nat} (h:jU H m s M f) (k:ax H H1) (hA:s'.A=s.A) (hv:pA H' m.vm s'.V) (hb:cD (fun y=>m.vm=some y) H1 H') (hr:kY (cY m.L) s'.at_ s'.S M):jU H' m s' M f/\cD (po m) H H':=by
 have h1:=h.ext k;have oL:M.length=m.n:=by rw[h.rel.len,h.qR]
 have hx:cD (po m) H1 H':=hb.mono fun x e=> .inr (.inr (.inl e));refine⟨h1.keep hx (h1.pP.keep hb fun p hp e=> ?_) ?_ hv hr (by rw[hA];exact h1.mH) h.CP,k.only.trans hx fun _ _ e=>e⟩
 .cases hp;obtain⟨W,_,hW⟩:=zu h1.vars e;exact hW.ne (h1.pP.cL oL) rfl
 .rw[hA];refine h1.tree.keep hb (fun e=> ?_) (fun e=>h.dv _ e rfl) fun x e _=> ?_
  .obtain⟨W,_,hW⟩:=zu h1.vars e;exact hW.ne h1.tree.cL rfl
  .obtain⟨W,_,hW⟩:=zu h1.vars e;exact .inl (.map hW)
theorem Gi {vm:Option Nat} {o1 o2:Operand} {K:Value->Prop} (hk:K (.bool vm.isSome)):da Tryz.prog (do eqGuard .neq 44 o1 o2 (.map vm) (.map none);binOp .neq 44 (.map vm) (.map none)) K:=by
 refine⟨⟨_,fun w=> ?_,hk⟩⟩;cases vm<;>rfl
structure ajk (H H':ae) (vm:Option Nat) (V:Option kP) (x:Ln) (v:Value):Prop where
 out:if uN x.a=false then v= .int .i64 72/\ax H H'
 else if 65536<(gd (lp V) x.tx).length then v= .int .i64 55/\ax H H'
 else v= .int .i64 0/\ ∃ H1,ax H H1/\pA H' vm (V.map fun V=>fk V x.a (gd V x.tx))/\cD (fun y=>vm=some y) H1 H'
theorem aeS (g:Nat) (vm:Option Nat) (V:Option kP) (x:Ln) (Ic:x.a.length<=1000000000) (Ie:x.tx.length<=1000000000) (H:ae) (hv:pA H vm V) (EK:hcell H ⟨g,4,none⟩=some (.map vm)):
  az Tryz.prog 115 [.pointer (some ⟨g,0,none⟩),.agg (qX x)] H fun v H'=>ajk H H' vm V x v:=by
 have e0:=eq_empty x.a;have ez:(ag x.a).size=x.a.length:=rfl;obtain⟨F,hF⟩: ∃ F,gd (lp V) x.tx=F:=⟨_,rfl⟩;have QG:(ag (F.take 65537)).size=min 65537 F.length:=by show(F.take 65537).length=_;exact aJ
 refine Vc.az.body Tryz.func115 Tryz.call115 rfl (by decide+kernel) rfl ?_;by_cases ha:x.a=[]
 .rw[bB ha]at e0;have hn:uN x.a=false:=by unfold uN;rw[aY];exact fun h=>h.1 ha
  ((conv=>whnf);repeat(any_goals((first|(refine(Dn g _ _ x.tx Ie _ (hv.ext (by exact Vc.xt)) (jj EK (by exact Vc.xt) id)).mono ?_;rintro _ H3 ⟨rfl,bw⟩;have eJ:=bw.size;rw[hF])|((with_reducible apply Gi);(conv=>whnf))|(refine(Dm x.a Ic _).mono ?_;rintro _ _ ⟨rfl,rfl⟩)|((with_reducible refine Vc.cy.held [0,1,2,3,4,5,7,8,9,6,10,11,12] [(6,[8])] mixed (by decide+kernel) ?_))|refine Vc.aq ?_)<;>(intros;(conv=>whnf)))))
  exact⟨by rw[av hn];exact⟨rfl,by exact Vc.xt⟩⟩
 rw[aN ha]at e0;by_cases hb:pz x.a=x.a.length
 .have hn:uN x.a=true:=by unfold uN;rw[aK];exact⟨ha,hb⟩
  by_cases hc:65536<F.length
  ·((conv=>whnf);repeat(any_goals((first|(refine(Dn g _ _ x.tx Ie _ (hv.ext (by exact Vc.xt)) (jj EK (by exact Vc.xt) id)).mono ?_;rintro _ H3 ⟨rfl,bw⟩;have eJ:=bw.size;rw[hF])|((with_reducible apply Gi);(conv=>whnf))|(refine(Dm x.a Ic _).mono ?_;rintro _ _ ⟨rfl,rfl⟩)|((with_reducible refine Vc.cy.held [0,1,2,3,4,5,7,8,9,6,10,11,12] [(6,[8])] mixed (by decide+kernel) ?_))|refine Vc.aq ?_)<;>(intros;(conv=>whnf)))))
   exact⟨by rw[ak (by rw[hn];decide),hF,av hc];exact⟨rfl,by exact Vc.xt⟩⟩
  .have hFt:F.take 65537=F:=aL (by omega);cases vm with
   |none=>
    cases V with
    |some W=>exact hv.elim
    |none=>
     ((conv=>whnf);repeat(any_goals((first|(refine(Dn g _ _ x.tx Ie _ (hv.ext (by exact Vc.xt)) (jj EK (by exact Vc.xt) id)).mono ?_;rintro _ H3 ⟨rfl,bw⟩;have eJ:=bw.size;rw[hF])|((with_reducible apply Gi);(conv=>whnf))|(refine(Dm x.a Ic _).mono ?_;rintro _ _ ⟨rfl,rfl⟩)|((with_reducible refine Vc.cy.held [0,1,2,3,4,5,7,8,9,6,10,11,12] [(6,[8])] mixed (by decide+kernel) ?_))|refine Vc.aq ?_)<;>(intros;(conv=>whnf)))))
     exact⟨by rw[ak (by rw[hn];decide),hF,ak hc];exact⟨rfl,H3,by exact Vc.xt,aF,cD.refl _ _⟩⟩
   |some b=>
    cases V with
    |none=>exact hv.elim
    |some W=>
     have hmo: ∀ {H':ae},ax H H'->jb H' b (tP W):=fun k=>hv.ext k;((conv=>whnf);repeat(any_goals((first|(refine(Dn g _ _ x.tx Ie _ (hv.ext (by exact Vc.xt)) (jj EK (by exact Vc.xt) id)).mono ?_;rintro _ H3 ⟨rfl,bw⟩;have eJ:=bw.size;rw[hF])|((with_reducible apply Gi);(conv=>whnf))|(refine(Dm x.a Ic _).mono ?_;rintro _ _ ⟨rfl,rfl⟩)|(refine eN.pos (show(some b).isSome=true from rfl) ?_)|((with_reducible apply dc.p9);(exact hmo (by exact Vc.xt));rfl;rfl;(intro H4 gA mA iX;(conv=>whnf)))|((with_reducible refine Vc.cy.held [0,1,2,3,4,5,7,8,9,6,10,11,12] [(6,[8])] mixed (by decide+kernel) ?_))|refine Vc.aq ?_)<;>(intros;(conv=>whnf)))))
     rw[hFt,DG]at mA;have sW:pA H4 (some b) ((some W).map fun V=>fk V x.a (gd V x.tx)):=by
      show jb H4 b (tP (fk W x.a (gd W x.tx)));rw[show gd W x.tx=F from hF];exact mA
     exact⟨by rw[ak (by rw[hn];decide),hF,ak hc];exact⟨rfl,H3,by exact Vc.xt,sW,iX.mono fun y e=>by rw[e]⟩⟩
 .have hn:uN x.a=false:=by unfold uN;rw[aY];exact fun h=>hb h.2
  ((conv=>whnf);repeat(any_goals((first|(refine(Dn g _ _ x.tx Ie _ (hv.ext (by exact Vc.xt)) (jj EK (by exact Vc.xt) id)).mono ?_;rintro _ H3 ⟨rfl,bw⟩;have eJ:=bw.size;rw[hF])|((with_reducible apply Gi);(conv=>whnf))|(refine(Dm x.a Ic _).mono ?_;rintro _ _ ⟨rfl,rfl⟩)|((with_reducible refine Vc.cy.held [0,1,2,3,4,5,7,8,9,6,10,11,12] [(6,[8])] mixed (by decide+kernel) ?_))|refine Vc.aq ?_)<;>(intros;(conv=>whnf)))))
  exact⟨by rw[av hn];exact⟨rfl,by exact Vc.xt⟩⟩
theorem SH {m:MP} {s:St} {M:List Nat} {f:Nat} {H:ae} (h:jU H m s M f) {i o:Nat} {y:Ln} (hi:i<m.n) (hO:m.O[i]? =some o) (hy:m.L[o]? =some y):
  az Tryz.prog 116 [.pointer (some ⟨m.g,0,none⟩),.int .i64 i] H fun v H'=>v= .int .i64 (if y.k=9 then 1 else 0)/\H=H':=by
 have hb:=h.cL;have ho:=(aH.1 hy).1;have j5:o<m.n:=by rw[<-h.len];exact ho
 refine Vc.az.body Tryz.func116 Tryz.call116 rfl (by decide+kernel) rfl ?_;unfold uW at hb;by_cases h9:y.k=9
 .rw[av h9];((conv=>whnf);repeat(any_goals((first|(refine cm.mX i rfl hi ?_)|((with_reducible apply aE.load);rfl;(exact cq.hcell h.jT (rZ hO));(conv=>whnf))|(refine cm.ln h.row h.len o y rfl hy ?_;intro _ _ dp;have iL:=dp 0 _ rfl)|refine Vc.aq ?_)<;>(intros;(conv=>whnf)))))
  exact⟨rfl,rfl⟩
 .rw[ak h9];((conv=>whnf);repeat(any_goals((first|(refine cm.mX i rfl hi ?_)|((with_reducible apply aE.load);rfl;(exact cq.hcell h.jT (rZ hO));(conv=>whnf))|(refine cm.ln h.row h.len o y rfl hy ?_;intro _ _ dp;have iL:=dp 0 _ rfl)|refine Vc.aq ?_)<;>(intros;(conv=>whnf)))))
  exact⟨rfl,rfl⟩
structure mo (H H':ae) (m:MP) (s:St) (x:Ln) (f:Nat) (v:Value):Prop where
 out: ∃ (nx:Nat) (M':List Nat),v= .tuple #[.int .i64 nx,.int .i64 (fX (cY m.L) x s).2]/\((fX (cY m.L) x s).2=0->nx=(fX (cY m.L) x s).1.at_)/\jU H' m (fX (cY m.L) x s).1 M' f/\cD (po m) H H'
theorem aeT {K:List Nat} (hn:mn K) {h:Nat} (hk:K[h]? =some 8):(iV K h).1=none:=by
 cases vu:(iV K h).1 with
 |none=>rfl
 |some x=>
  obtain⟨h9,hd⟩:=(DF hn hk (.inr rfl)).qE x vu;obtain⟨h',t,e,h7,_⟩:=Ti hn h9;rw[FV h9]at hd;unfold gl at hd;rw[e,dw,iC]at hd;rw[show h'=h from hd.1,hk]at h7;cases h7
theorem mo.did {H H1 H':ae} {m:MP} {s:St} {M:List Nat} {f k:Nat} {x:Ln} {v v':Value} {r:Tr×Nat} (h:jU H m s M f) (hk:(cY m.L)[s.at_]? =some k) (cz: ¬(k=7\/k=8)/\k≠9/\k≠10) (e:fX (cY m.L) x s=qO s r) (ho:dr r.1) (k1:ax H H1) (hd:Did no H1 H' m.b m.mb v r) (hv:v'= .tuple #[.int .i64 ((s.at_:Int)+1),.int .i64 r.2]):mo H H' m s x f v':=by
 obtain⟨h1,h2⟩:=h.did k1 hd ho (FI hk cz.1 cz.2.1 cz.2.2);exact⟨s.at_+1,M,by rw[e,hv];rfl,fun _=>by rw[e];rfl,by rw[e];exact h1,h2⟩
theorem mo.to {H H':ae} {m:MP} {s s':St} {M':List Nat} {f nx:Nat} {x:Ln} {v:Value} {e:Nat} (es:fX (cY m.L) x s=(s',e)) (hm:jU H' m s' M' f) (hx:cD (po m) H H') (hv:v= .tuple #[.int .i64 nx,.int .i64 e]) (hn:e=0->nx=s'.at_):mo H H' m s x f v:=
 ⟨nx,M',by rw[es];exact hv,fun h=>by rw[es]at h ⊢;exact hn h,by rw[es];exact hm,hx⟩
set_option maxHeartbeats 8000000 in
theorem VF {m:MP} {s:St} {M:List Nat} {f:Nat} {H:ae} (h:jU H m s M f) (hn:mn (cY m.L)) {x:Ln} (hx:m.L[s.at_]? =some x):
  az Tryz.prog 61 [.pointer (some ⟨m.g,0,none⟩),.int .i64 s.at_] H fun v H'=>mo H H' m s x f v:=by
 have hb:=h.cL;unfold uW at hb;have pH:=(aH.1 hx).1;rw[h.len]at pH;have jd:=h.small;have qz:=hb.lt;obtain⟨mY,LA,ct,rJ⟩:=h.lens x (aU hx);have uX: ∀ (i c:Nat),c<=1000000-> ∀ d∈M.set i c,d<=1000000:=fun i c hc d hd=>by
  rcases List.mem_or_eq_of_mem_set hd with hd|rfl
  .exact h.CP d hd
  .exact hc
 have mY:x.a.length<=1000000000:=by omega
 have LA:x.b.length<=1000000000:=by omega
 have ct:x.tx.length<=1000000000:=by omega
 have hk:=Dk hx;have ht:=fun H' (k:ax H H') (w:Bs) (hw:w.length<=1000000000)=>Dn m.g m.vm s.V w hw H' (h.vars.ext k) (jj h.X5 k id);obtain⟨W,hW⟩: ∃ W,lp s.V=W:=⟨_,rfl⟩;rw[hW]at ht;obtain⟨FA,lR⟩: ∃ F,gd W x.a=F:=⟨_,rfl⟩;obtain⟨FB,LS⟩: ∃ F,gd W x.b=F:=⟨_,rfl⟩;obtain⟨FT,LU⟩: ∃ F,gd W x.tx=F:=⟨_,rfl⟩;have QH:(ag (FT.take 65537)).size=min 65537 FT.length:=by show(FT.take 65537).length=_;exact aJ
 have Ig:(ag (FT.take 65537)).size<=10000000000:=by rw[QH];omega
 obtain⟨k,wQ⟩: ∃ k,x.k=k:=⟨_,rfl⟩;rw[wQ]at hk;by_cases h0:k=0
 .refine Vc.az.body Tryz.func61 Tryz.call61 rfl (by decide+kernel) rfl ?_;((conv=>whnf);repeat(any_goals((first|(refine cm.ln h.row h.len s.at_ x rfl hx ?_;intro _ _ dp)|((with_reducible apply aE.mQ);(exact dp);(exact ax.refl _);(conv=>whnf))|(refine(ht _ (by exact Vc.xt) x.a mY).mono ?_;rintro _ H2 ⟨rfl,bh⟩;have dT:=bh.size;rw[lR])|(refine(ht _ (by exact Vc.xt) x.b LA).mono ?_;rintro _ H3 ⟨rfl,bw⟩;have eJ:=bw.size;rw[LS])|(refine(aeQ (h.tree.ext (by exact Vc.xt)) h.mH _ _).mono ?_;rintro _ H5 hd;obtain rfl:=hd.code;rw[Va]at hd ⊢)|((with_reducible refine Vc.cy.held [0,1,2,3,4,5,6,7,8,9,10] [(8,[3])] mixed (by decide+kernel) ?_))|((with_reducible refine Vc.cy.held [0,1,2,3,4,5,6,7,8,9,10] [(8,[3])] mixed (by decide+kernel) ?_))|((with_reducible refine Vc.cy.held [0,1,2,3,4,5,6,7,8,9,10,11] [(8,[3]),(9,[3])] mixed (by decide+kernel) ?_))|((with_reducible refine Vc.cy.held [0,1,2,3,4,5,6,7,8,9,10,11] [(8,[3]),(9,[3])] mixed (by decide+kernel) ?_))|((with_reducible refine Vc.cy.held [0,1,2,3,4,6,7,5,8] [(5,[7])] mixed (by decide+kernel) ?_))|((with_reducible refine Vc.cy.held [0,1,2,3,4,5,6,7,8,9,10,11,12,13] [(10,[4,7])] mixed (by decide+kernel) ?_))|refine Vc.aq ?_)<;>(intros;(conv=>whnf)))))
  exact mo.did h hk (by omega) (by unfold fX;rw[av (by omega:x.k=0),hW,lR,LS]) (dr.kW h.mH _ _ _) (show ax H _ by exact Vc.xt) hd rfl
 by_cases h1:k=1
 .refine Vc.az.body Tryz.func61 Tryz.call61 rfl (by decide+kernel) rfl ?_;((conv=>whnf);repeat(any_goals((first|(refine cm.ln h.row h.len s.at_ x rfl hx ?_;intro _ _ dp)|((with_reducible apply aE.mQ);(exact dp);(exact ax.refl _);(conv=>whnf))|(refine(ht _ (by exact Vc.xt) x.a mY).mono ?_;rintro _ H2 ⟨rfl,bh⟩;have dT:=bh.size;rw[lR])|(refine(ht _ (by exact Vc.xt) x.tx ct).mono ?_;rintro _ H3 ⟨rfl,bw⟩;have eJ:=bw.size;rw[LU])|((with_reducible apply aE.of_string);rfl;rfl;rfl;(rw[QH];unfold maxLen;omega);(focus((intro c4 H4 dE cH;have gA:=cH.size;replace dE:cq H4 H3.size 5 1 (some ⟨H3.size,0,none⟩) (ag (FT.take 65537)).size c4 (cv (FT.take 65537)):=dE;(conv=>whnf)))))|(refine(Bt (h.tree.ext (by exact Vc.xt)) h.mH _ _ _ _ _ dE.row rfl Ig).mono ?_;rintro _ H5 hd;obtain rfl:=hd.code;rw[ac3]at hd ⊢)|((with_reducible refine Vc.cy.held [0,1,2,3,4,5,6,7,8,9,10] [(8,[3])] mixed (by decide+kernel) ?_))|((with_reducible refine Vc.cy.held [0,1,2,3,4,5,6,7,8,9,10] [(8,[3])] mixed (by decide+kernel) ?_))|((with_reducible refine Vc.cy.held [0,1,2,3,4,5,6,7,8,9,10,11] [(8,[3]),(9,[3])] mixed (by decide+kernel) ?_))|((with_reducible refine Vc.cy.held [0,1,2,3,4,5,6,7,8,9,10,11] [(8,[3]),(9,[3])] mixed (by decide+kernel) ?_))|((with_reducible refine Vc.cy.held [0,1,2,3,4,6,7,5,8] [(5,[7])] mixed (by decide+kernel) ?_))|((with_reducible refine Vc.cy.held [0,1,2,3,4,5,6,7,8,9,10,11,12,13] [(10,[4,7])] mixed (by decide+kernel) ?_))|refine Vc.aq ?_)<;>(intros;(conv=>whnf)))))
  exact mo.did h hk (by omega) (by unfold fX;simp only[(by omega:x.k=1),Nat.reduceEqDiff,reduceIte];rw[hW,lR,LU]) (dr.nP h.mH _ _) (show ax H _ by exact Vc.xt) hd rfl
 by_cases h2:k=2
 .refine Vc.az.body Tryz.func61 Tryz.call61 rfl (by decide+kernel) rfl ?_;((conv=>whnf);repeat(any_goals((first|(refine cm.ln h.row h.len s.at_ x rfl hx ?_;intro _ _ dp)|((with_reducible apply aE.mQ);(exact dp);(exact ax.refl _);(conv=>whnf))|(refine(ht _ (by exact Vc.xt) x.a mY).mono ?_;rintro _ H2 ⟨rfl,bh⟩;have dT:=bh.size;rw[lR])|(refine(ht _ (by exact Vc.xt) x.tx ct).mono ?_;rintro _ H3 ⟨rfl,bw⟩;have eJ:=bw.size;rw[LU])|((with_reducible apply aE.of_string);rfl;rfl;rfl;(rw[QH];unfold maxLen;omega);(focus((intro c4 H4 dE cH;have gA:=cH.size;replace dE:cq H4 H3.size 5 1 (some ⟨H3.size,0,none⟩) (ag (FT.take 65537)).size c4 (cv (FT.take 65537)):=dE;(conv=>whnf)))))|(refine(abR (h.tree.ext (by exact Vc.xt)) h.mH _ _ _ _ _ dE.row rfl dE.jC Ig).mono ?_;rintro _ H5 hd;obtain rfl:=hd.code;rw[Go.Run.M7]at hd ⊢)|((with_reducible refine Vc.cy.held [0,1,2,3,4,5,6,7,8,9,10] [(8,[3])] mixed (by decide+kernel) ?_))|((with_reducible refine Vc.cy.held [0,1,2,3,4,5,6,7,8,9,10] [(8,[3])] mixed (by decide+kernel) ?_))|((with_reducible refine Vc.cy.held [0,1,2,3,4,5,6,7,8,9,10,11] [(8,[3]),(9,[3])] mixed (by decide+kernel) ?_))|((with_reducible refine Vc.cy.held [0,1,2,3,4,5,6,7,8,9,10,11] [(8,[3]),(9,[3])] mixed (by decide+kernel) ?_))|((with_reducible refine Vc.cy.held [0,1,2,3,4,6,7,5,8] [(5,[7])] mixed (by decide+kernel) ?_))|((with_reducible refine Vc.cy.held [0,1,2,3,4,5,6,7,8,9,10,11,12,13] [(10,[4,7])] mixed (by decide+kernel) ?_))|refine Vc.aq ?_)<;>(intros;(conv=>whnf)))))
  exact mo.did h hk (by omega) (by unfold fX;simp only[(by omega:x.k=2),Nat.reduceEqDiff,reduceIte];rw[hW,lR,LU]) (dr.qH h.mH _ _) (show ax H _ by exact Vc.xt) hd rfl
 by_cases h3:k=3
 .refine Vc.az.body Tryz.func61 Tryz.call61 rfl (by decide+kernel) rfl ?_;((conv=>whnf);repeat(any_goals((first|(refine cm.ln h.row h.len s.at_ x rfl hx ?_;intro _ _ dp)|((with_reducible apply aE.mQ);(exact dp);(exact ax.refl _);(conv=>whnf))|(refine(ht _ (by exact Vc.xt) x.a mY).mono ?_;rintro _ H2 ⟨rfl,bh⟩;have dT:=bh.size;rw[lR])|(refine(Bu (h.tree.ext (by exact Vc.xt)) h.mH _).mono ?_;rintro _ H5 hd;obtain rfl:=hd.code;rw[ac4]at hd ⊢)|((with_reducible refine Vc.cy.held [0,1,2,3,4,5,6,7,8,9,10] [(8,[3])] mixed (by decide+kernel) ?_))|((with_reducible refine Vc.cy.held [0,1,2,3,4,5,6,7,8,9,10] [(8,[3])] mixed (by decide+kernel) ?_))|((with_reducible refine Vc.cy.held [0,1,2,3,4,5,6,7,8,9,10,11] [(8,[3]),(9,[3])] mixed (by decide+kernel) ?_))|((with_reducible refine Vc.cy.held [0,1,2,3,4,5,6,7,8,9,10,11] [(8,[3]),(9,[3])] mixed (by decide+kernel) ?_))|((with_reducible refine Vc.cy.held [0,1,2,3,4,6,7,5,8] [(5,[7])] mixed (by decide+kernel) ?_))|((with_reducible refine Vc.cy.held [0,1,2,3,4,5,6,7,8,9,10,11,12,13] [(10,[4,7])] mixed (by decide+kernel) ?_))|refine Vc.aq ?_)<;>(intros;(conv=>whnf)))))
  exact mo.did h hk (by omega) (by unfold fX;simp only[(by omega:x.k=3),Nat.reduceEqDiff,reduceIte];rw[hW,lR]) (dr.oU h.mH _) (show ax H _ by exact Vc.xt) hd rfl
 by_cases h4:k=4
 .refine Vc.az.body Tryz.func61 Tryz.call61 rfl (by decide+kernel) rfl ?_;((conv=>whnf);repeat(any_goals((first|(refine cm.ln h.row h.len s.at_ x rfl hx ?_;intro _ _ dp)|((with_reducible apply aE.mQ);(exact dp);(exact ax.refl _);(conv=>whnf))|(refine(ht _ (by exact Vc.xt) x.a mY).mono ?_;rintro _ H2 ⟨rfl,bh⟩;have dT:=bh.size;rw[lR])|(refine(SD (h.tree.ext (by exact Vc.xt)) h.mH _).mono ?_;rintro _ H5 hd;obtain rfl:=hd.code;rw[abN]at hd ⊢)|((with_reducible refine Vc.cy.held [0,1,2,3,4,5,6,7,8,9,10] [(8,[3])] mixed (by decide+kernel) ?_))|((with_reducible refine Vc.cy.held [0,1,2,3,4,5,6,7,8,9,10] [(8,[3])] mixed (by decide+kernel) ?_))|((with_reducible refine Vc.cy.held [0,1,2,3,4,5,6,7,8,9,10,11] [(8,[3]),(9,[3])] mixed (by decide+kernel) ?_))|((with_reducible refine Vc.cy.held [0,1,2,3,4,5,6,7,8,9,10,11] [(8,[3]),(9,[3])] mixed (by decide+kernel) ?_))|((with_reducible refine Vc.cy.held [0,1,2,3,4,6,7,5,8] [(5,[7])] mixed (by decide+kernel) ?_))|((with_reducible refine Vc.cy.held [0,1,2,3,4,5,6,7,8,9,10,11,12,13] [(10,[4,7])] mixed (by decide+kernel) ?_))|refine Vc.aq ?_)<;>(intros;(conv=>whnf)))))
  exact mo.did h hk (by omega) (by unfold fX;simp only[(by omega:x.k=4),Nat.reduceEqDiff,reduceIte];rw[hW,lR]) (dr.nN h.mH _) (show ax H _ by exact Vc.xt) hd rfl
 by_cases h5:k=5
 .refine Vc.az.body Tryz.func61 Tryz.call61 rfl (by decide+kernel) rfl ?_;((conv=>whnf);repeat(any_goals((first|(refine cm.ln h.row h.len s.at_ x rfl hx ?_;intro _ _ dp)|((with_reducible apply aE.mQ);(exact dp);(exact ax.refl _);(conv=>whnf))|(refine(ht _ (by exact Vc.xt) x.a mY).mono ?_;rintro _ H2 ⟨rfl,bh⟩;have dT:=bh.size;rw[lR])|(refine(ht _ (by exact Vc.xt) x.b LA).mono ?_;rintro _ H3 ⟨rfl,bw⟩;have eJ:=bw.size;rw[LS])|(refine(abT (h.tree.ext (by exact Vc.xt)) h.mH _ _).mono ?_;rintro _ H5 hd;obtain rfl:=hd.code;rw[Va]at hd ⊢)|((with_reducible refine Vc.cy.held [0,1,2,3,4,5,6,7,8,9,10] [(8,[3])] mixed (by decide+kernel) ?_))|((with_reducible refine Vc.cy.held [0,1,2,3,4,5,6,7,8,9,10] [(8,[3])] mixed (by decide+kernel) ?_))|((with_reducible refine Vc.cy.held [0,1,2,3,4,5,6,7,8,9,10,11] [(8,[3]),(9,[3])] mixed (by decide+kernel) ?_))|((with_reducible refine Vc.cy.held [0,1,2,3,4,5,6,7,8,9,10,11] [(8,[3]),(9,[3])] mixed (by decide+kernel) ?_))|((with_reducible refine Vc.cy.held [0,1,2,3,4,6,7,5,8] [(5,[7])] mixed (by decide+kernel) ?_))|((with_reducible refine Vc.cy.held [0,1,2,3,4,5,6,7,8,9,10,11,12,13] [(10,[4,7])] mixed (by decide+kernel) ?_))|refine Vc.aq ?_)<;>(intros;(conv=>whnf)))))
  exact mo.did h hk (by omega) (by unfold fX;simp only[(by omega:x.k=5),Nat.reduceEqDiff,reduceIte];rw[hW,lR,LS]) (dr.kW h.mH _ _ _) (show ax H _ by exact Vc.xt) hd rfl
 have akO:=(h.pP.cL (by rw[h.rel.len,h.qR])).lt;have akP:m.g≠m.gm:=fun e=>by
  have h1:=h.cL;rw[e]at h1;exact absurd (pw h1 (h.pP.cL (by rw[h.rel.len,h.qR]))).1 (by decide)
 by_cases h6:k=6
 .have aip:=fun H' (k:ax H H')=>aeS m.g m.vm s.V x mY ct H' (h.vars.ext k) (jj h.X5 k id);refine Vc.az.body Tryz.func61 Tryz.call61 rfl (by decide+kernel) rfl ?_;((conv=>whnf);repeat(any_goals((first|(refine cm.ln h.row h.len s.at_ x rfl hx ?_;intro _ _ dp)|((with_reducible apply aE.mQ);(exact dp);(exact ax.refl _);(conv=>whnf))|(refine(ht _ (by exact Vc.xt) x.a mY).mono ?_;rintro _ H2 ⟨rfl,bh⟩;have dT:=bh.size;rw[lR])|(refine(aip _ (by exact Vc.xt)).mono ?_;rintro v4 H4 rN;have gn:=(show ax H H2 by exact Vc.xt))|((with_reducible refine Vc.cy.held [0,1,2,3,4,5,6,7,8,9,10] [(8,[3])] mixed (by decide+kernel) ?_))|((with_reducible refine Vc.cy.held [0,1,2,3,4,5,6,7,8,9,10] [(8,[3])] mixed (by decide+kernel) ?_))|((with_reducible refine Vc.cy.held [0,1,2,3,4,5,6,7,8,9,10,11] [(8,[3]),(9,[3])] mixed (by decide+kernel) ?_))|((with_reducible refine Vc.cy.held [0,1,2,3,4,5,6,7,8,9,10,11] [(8,[3]),(9,[3])] mixed (by decide+kernel) ?_))|((with_reducible refine Vc.cy.held [0,1,2,3,4,6,7,5,8] [(5,[7])] mixed (by decide+kernel) ?_))|((with_reducible refine Vc.cy.held [0,1,2,3,4,5,6,7,8,9,10,11,12,13] [(10,[4,7])] mixed (by decide+kernel) ?_))|refine Vc.aq ?_)<;>(intros;(conv=>whnf)))))
  have cW:=rN.out;by_cases iF:uN x.a=false
  .rw[av iF]at cW;obtain⟨rfl,cH⟩:=cW;obtain⟨h1,h2⟩:=h.to (s':=s) (gn.trans cH) rfl rfl h.rel;exact mo.to (nx:=s.at_+1) (e:=72) (by unfold fX;simp only[(by omega:x.k=6),Nat.reduceEqDiff,reduceIte];rw[av iF]) h1 h2 rfl (fun e=>by cases e)
  rw[ak iF]at cW;by_cases LV:65536<(gd (lp s.V) x.tx).length
  .rw[av LV]at cW;obtain⟨rfl,cH⟩:=cW;obtain⟨h1,h2⟩:=h.to (s':=s) (gn.trans cH) rfl rfl h.rel;exact mo.to (nx:=s.at_+1) (e:=55) (by unfold fX;simp only[(by omega:x.k=6),Nat.reduceEqDiff,reduceIte];rw[ak iF,av LV]) h1 h2 rfl (fun e=>by cases e)
  .rw[ak LV]at cW;obtain⟨rfl,H5,cE,hv5,im⟩:=cW;obtain⟨h1,h2⟩:=h.set (s':={mD s with V:=s.V.map fun V=>fk V x.a (gd V x.tx)}) (gn.trans cE) rfl hv5 im (h.rel.same (FI hk (by omega) (by omega) (by omega)));exact mo.to (nx:=s.at_+1) (e:=0) (by unfold fX;simp only[(by omega:x.k=6),Nat.reduceEqDiff,reduceIte];rw[ak iF,ak LV]) h1 h2 rfl (fun _=>rfl)
 by_cases h7:k=7
 .subst h7;have he:=DF hn hk (.inl rfl);have hO:=h.wm.opn s.at_ 7 hk (.inl rfl);by_cases hex:uI s.A FA=x.nt
  .have hq:(uI s.A FA==x.nt)=true:=by rw[hex];exact eD _
   cases vu:(iV (cY m.L) s.at_).1 with
   |some e=>
    rw[vu]at hO;replace hO:m.O[s.at_]? =some e:=hO;obtain⟨EL,io⟩:=he.qE e vu;obtain⟨y,hy⟩: ∃ y,m.L[e]? =some y:=⟨_,aD (by have:=(aH.1 EL).1;rw[Dl]at this;exact this)⟩;have QI:y.k=9:=by have:=Dk hy;rw[EL]at this;exact(bW this).symm
    have QJ:=cq.hcell h.jT (rZ hO);have Ih:=(aH.1 hy).1;rw[h.len]at Ih;have A7:=fun H' (k:ax H H')=>SH (h.ext k) pH hO hy;rw[av QI]at A7;refine Vc.az.body Tryz.func61 Tryz.call61 rfl (by decide+kernel) rfl ?_;((conv=>whnf);repeat(any_goals((first|(refine cm.ln h.row h.len s.at_ x rfl hx ?_;intro _ _ dp)|((with_reducible apply aE.mQ);(exact dp);(exact ax.refl _);(conv=>whnf))|(refine(ht _ (by exact Vc.xt) x.a mY).mono ?_;rintro _ H2 ⟨rfl,bh⟩;have dT:=bh.size;rw[lR])|(refine cm.mX s.at_ rfl pH ?_)|(refine(Na (h.tree.ext (by exact Vc.xt)) _).mono ?_;rintro _ H3 ⟨rfl,bw⟩;have eJ:=bw.size;rw[M8])|(refine(A7 _ (by exact Vc.xt)).mono ?_;rintro _ _ ⟨rfl,rfl⟩)|((with_reducible refine Vc.cy.held [0,1,2,3,4,5,6,7,8,9,10] [(8,[3])] mixed (by decide+kernel) ?_))|((with_reducible refine Vc.cy.held [0,1,2,3,4,5,6,7,8,9,10] [(8,[3])] mixed (by decide+kernel) ?_))|((with_reducible refine Vc.cy.held [0,1,2,3,4,5,6,7,8,9,10,11] [(8,[3]),(9,[3])] mixed (by decide+kernel) ?_))|((with_reducible refine Vc.cy.held [0,1,2,3,4,5,6,7,8,9,10,11] [(8,[3]),(9,[3])] mixed (by decide+kernel) ?_))|((with_reducible refine Vc.cy.held [0,1,2,3,4,6,7,5,8] [(5,[7])] mixed (by decide+kernel) ?_))|((with_reducible refine Vc.cy.held [0,1,2,3,4,5,6,7,8,9,10,11,12,13] [(10,[4,7])] mixed (by decide+kernel) ?_))|refine Vc.aq ?_)<;>(intros;(conv=>whnf)))))
    obtain⟨h1,h2⟩:=h.to (s':={s with at_:=e+1}) (show ax H H3 by exact Vc.xt) rfl rfl (h.rel.into io hk);exact mo.to (nx:=e+1) (e:=0) (by unfold fX;simp only[(by omega:x.k=7),Nat.reduceEqDiff,reduceIte];rw[hW,lR,av hex];rw[vu]) h1 h2 rfl (fun _=>rfl)
   |none=>
    rw[vu]at hO;replace hO:m.O[s.at_]? =some (iV (cY m.L) s.at_).2:=hO;obtain⟨y,hy⟩: ∃ y,m.L[(iV (cY m.L) s.at_).2]? =some y:=⟨_,aD (by have:=he.lt;rw[Dl]at this;exact this)⟩;have QI:y.k≠9:=by have:=Dk hy;rw[he.kind]at this;have:=(bW this).symm;omega
    have QJ:=cq.hcell h.jT (rZ hO);have Ih:=(aH.1 hy).1;rw[h.len]at Ih;have A7:=fun H' (k:ax H H')=>SH (h.ext k) pH hO hy;rw[ak QI]at A7;refine Vc.az.body Tryz.func61 Tryz.call61 rfl (by decide+kernel) rfl ?_;((conv=>whnf);repeat(any_goals((first|(refine cm.ln h.row h.len s.at_ x rfl hx ?_;intro _ _ dp)|((with_reducible apply aE.mQ);(exact dp);(exact ax.refl _);(conv=>whnf))|(refine(ht _ (by exact Vc.xt) x.a mY).mono ?_;rintro _ H2 ⟨rfl,bh⟩;have dT:=bh.size;rw[lR])|(refine cm.mX s.at_ rfl pH ?_)|(refine(Na (h.tree.ext (by exact Vc.xt)) _).mono ?_;rintro _ H3 ⟨rfl,bw⟩;have eJ:=bw.size;rw[M8])|(refine(A7 _ (by exact Vc.xt)).mono ?_;rintro _ _ ⟨rfl,rfl⟩)|((with_reducible refine Vc.cy.held [0,1,2,3,4,5,6,7,8,9,10] [(8,[3])] mixed (by decide+kernel) ?_))|((with_reducible refine Vc.cy.held [0,1,2,3,4,5,6,7,8,9,10] [(8,[3])] mixed (by decide+kernel) ?_))|((with_reducible refine Vc.cy.held [0,1,2,3,4,5,6,7,8,9,10,11] [(8,[3]),(9,[3])] mixed (by decide+kernel) ?_))|((with_reducible refine Vc.cy.held [0,1,2,3,4,5,6,7,8,9,10,11] [(8,[3]),(9,[3])] mixed (by decide+kernel) ?_))|((with_reducible refine Vc.cy.held [0,1,2,3,4,6,7,5,8] [(5,[7])] mixed (by decide+kernel) ?_))|((with_reducible refine Vc.cy.held [0,1,2,3,4,5,6,7,8,9,10,11,12,13] [(10,[4,7])] mixed (by decide+kernel) ?_))|refine Vc.aq ?_)<;>(intros;(conv=>whnf)))))
    obtain⟨h1,h2⟩:=h.to (s':={s with at_:=(iV (cY m.L) s.at_).2}) (show ax H H3 by exact Vc.xt) rfl rfl (h.rel.into he.hd hk);exact mo.to (nx:=(iV (cY m.L) s.at_).2) (e:=0) (by unfold fX;simp only[(by omega:x.k=7),Nat.reduceEqDiff,reduceIte];rw[hW,lR,av hex];rw[vu]) h1 h2 (by simp only[Int.add_zero];rfl) (fun _=>rfl)
  .have hq:(uI s.A FA==x.nt)=false:=by simpa using hex
   refine Vc.az.body Tryz.func61 Tryz.call61 rfl (by decide+kernel) rfl ?_;((conv=>whnf);repeat(any_goals((first|(refine cm.ln h.row h.len s.at_ x rfl hx ?_;intro _ _ dp)|((with_reducible apply aE.mQ);(exact dp);(exact ax.refl _);(conv=>whnf))|(refine(ht _ (by exact Vc.xt) x.a mY).mono ?_;rintro _ H2 ⟨rfl,bh⟩;have dT:=bh.size;rw[lR])|(refine(Na (h.tree.ext (by exact Vc.xt)) _).mono ?_;rintro _ H3 ⟨rfl,bw⟩;have eJ:=bw.size;rw[M8])|((with_reducible refine Vc.cy.held [0,1,2,3,4,5,6,7,8,9,10] [(8,[3])] mixed (by decide+kernel) ?_))|((with_reducible refine Vc.cy.held [0,1,2,3,4,5,6,7,8,9,10] [(8,[3])] mixed (by decide+kernel) ?_))|((with_reducible refine Vc.cy.held [0,1,2,3,4,5,6,7,8,9,10,11] [(8,[3]),(9,[3])] mixed (by decide+kernel) ?_))|((with_reducible refine Vc.cy.held [0,1,2,3,4,5,6,7,8,9,10,11] [(8,[3]),(9,[3])] mixed (by decide+kernel) ?_))|((with_reducible refine Vc.cy.held [0,1,2,3,4,6,7,5,8] [(5,[7])] mixed (by decide+kernel) ?_))|((with_reducible refine Vc.cy.held [0,1,2,3,4,5,6,7,8,9,10,11,12,13] [(10,[4,7])] mixed (by decide+kernel) ?_))|refine Vc.aq ?_)<;>(intros;(conv=>whnf)))))
   obtain⟨h1,h2⟩:=h.to (s':=mD s) (show ax H H3 by exact Vc.xt) rfl rfl (h.rel.into (DE hk (.inl rfl)) hk);exact mo.to (nx:=s.at_+1) (e:=0) (by unfold fX;simp only[(by omega:x.k=7),Nat.reduceEqDiff,reduceIte];rw[hW,lR,ak hex]) h1 h2 rfl (fun _=>rfl)
 by_cases h8:k=8
 .subst h8;have he:=DF hn hk (.inr rfl);have hO:=h.wm.opn s.at_ 8 hk (.inr rfl);rw[aeT hn hk]at hO;replace hO:m.O[s.at_]? =some (iV (cY m.L) s.at_).2:=hO;have QK:M.length=m.n:=by rw[h.rel.len,h.qR]
  have Ih:=he.lt;rw[h.qR]at Ih;have QJ:=cq.hcell h.jT (rZ hO);by_cases X6:x.n=0
  .refine Vc.az.body Tryz.func61 Tryz.call61 rfl (by decide+kernel) rfl ?_;((conv=>whnf);repeat(any_goals((first|(refine cm.ln h.row h.len s.at_ x rfl hx ?_;intro _ _ dp)|((with_reducible apply aE.mQ);(exact dp);(exact ax.refl _);(conv=>whnf))|(refine(ht _ (by exact Vc.xt) x.a mY).mono ?_;rintro _ H2 ⟨rfl,bh⟩;have dT:=bh.size;rw[lR])|(refine cm.mX s.at_ rfl pH ?_)|((with_reducible apply dc.uA);(exact h.pP.ext (show ax H _ by exact Vc.xt));rfl;rfl;rfl;(focus(omega));(focus((intro H4 gA mA iX;have fW:=dx trivial (show ax H H2 by exact Vc.xt);(conv=>whnf)))))|((with_reducible apply aE.load);rfl;(focus((exact jj (jj (cq.hcell h.jT (rZ hO)) fW.2 id) iX h.d1)));(conv=>whnf))|((with_reducible refine Vc.cy.held [0,1,2,3,4,5,6,7,8,9,10] [(8,[3])] mixed (by decide+kernel) ?_))|((with_reducible refine Vc.cy.held [0,1,2,3,4,5,6,7,8,9,10] [(8,[3])] mixed (by decide+kernel) ?_))|((with_reducible refine Vc.cy.held [0,1,2,3,4,5,6,7,8,9,10,11] [(8,[3]),(9,[3])] mixed (by decide+kernel) ?_))|((with_reducible refine Vc.cy.held [0,1,2,3,4,5,6,7,8,9,10,11] [(8,[3]),(9,[3])] mixed (by decide+kernel) ?_))|((with_reducible refine Vc.cy.held [0,1,2,3,4,6,7,5,8] [(5,[7])] mixed (by decide+kernel) ?_))|((with_reducible refine Vc.cy.held [0,1,2,3,4,5,6,7,8,9,10,11,12,13] [(10,[4,7])] mixed (by decide+kernel) ?_))|refine Vc.aq ?_)<;>(intros;(conv=>whnf)))))
   rw[aQ,zB]at mA;obtain⟨h1,h2⟩:=h.more (s':={s with at_:=(iV (cY m.L) s.at_).2+1}) fW.2 mA iX rfl rfl ((h.rel.set hn (by rw[h.qR];omega) x.n).same he.behind) (uX _ _ rJ);exact mo.to (nx:=(iV (cY m.L) s.at_).2+1) (e:=0) (by unfold fX;simp only[(by omega:x.k=8),Nat.reduceEqDiff,reduceIte];rw[av X6]) h1 h2 rfl (fun _=>rfl)
  .refine Vc.az.body Tryz.func61 Tryz.call61 rfl (by decide+kernel) rfl ?_;((conv=>whnf);repeat(any_goals((first|(refine cm.ln h.row h.len s.at_ x rfl hx ?_;intro _ _ dp)|((with_reducible apply aE.mQ);(exact dp);(exact ax.refl _);(conv=>whnf))|(refine(ht _ (by exact Vc.xt) x.a mY).mono ?_;rintro _ H2 ⟨rfl,bh⟩;have dT:=bh.size;rw[lR])|(refine cm.mX s.at_ rfl pH ?_)|((with_reducible apply dc.uA);(exact h.pP.ext (show ax H _ by exact Vc.xt));rfl;rfl;rfl;(focus(omega));(focus((intro H4 gA mA iX;have fW:=dx trivial (show ax H H2 by exact Vc.xt);(conv=>whnf)))))|((with_reducible refine Vc.cy.held [0,1,2,3,4,5,6,7,8,9,10] [(8,[3])] mixed (by decide+kernel) ?_))|((with_reducible refine Vc.cy.held [0,1,2,3,4,5,6,7,8,9,10] [(8,[3])] mixed (by decide+kernel) ?_))|((with_reducible refine Vc.cy.held [0,1,2,3,4,5,6,7,8,9,10,11] [(8,[3]),(9,[3])] mixed (by decide+kernel) ?_))|((with_reducible refine Vc.cy.held [0,1,2,3,4,5,6,7,8,9,10,11] [(8,[3]),(9,[3])] mixed (by decide+kernel) ?_))|((with_reducible refine Vc.cy.held [0,1,2,3,4,6,7,5,8] [(5,[7])] mixed (by decide+kernel) ?_))|((with_reducible refine Vc.cy.held [0,1,2,3,4,5,6,7,8,9,10,11,12,13] [(10,[4,7])] mixed (by decide+kernel) ?_))|refine Vc.aq ?_)<;>(intros;(conv=>whnf)))))
   rw[aQ,zB]at mA;obtain⟨h1,h2⟩:=h.more (s':={mD s with S:=(s.at_,x.n)::s.S}) fW.2 mA iX rfl rfl (h.rel.push hn hk (by omega)) (uX _ _ rJ);exact mo.to (nx:=s.at_+1) (e:=0) (by unfold fX;simp only[(by omega:x.k=8),Nat.reduceEqDiff,reduceIte];rw[ak X6]) h1 h2 rfl (fun _=>rfl)
 by_cases um:k=11
 .refine Vc.az.body Tryz.func61 Tryz.call61 rfl (by decide+kernel) rfl ?_;((conv=>whnf);repeat(any_goals((first|(refine cm.ln h.row h.len s.at_ x rfl hx ?_;intro _ _ dp)|((with_reducible apply aE.mQ);(exact dp);(exact ax.refl _);(conv=>whnf))|(refine(ht _ (by exact Vc.xt) x.a mY).mono ?_;rintro _ H2 ⟨rfl,bh⟩;have dT:=bh.size;rw[lR])|((with_reducible refine Vc.cy.held [0,1,2,3,4,5,6,7,8,9,10] [(8,[3])] mixed (by decide+kernel) ?_))|((with_reducible refine Vc.cy.held [0,1,2,3,4,5,6,7,8,9,10] [(8,[3])] mixed (by decide+kernel) ?_))|((with_reducible refine Vc.cy.held [0,1,2,3,4,5,6,7,8,9,10,11] [(8,[3]),(9,[3])] mixed (by decide+kernel) ?_))|((with_reducible refine Vc.cy.held [0,1,2,3,4,5,6,7,8,9,10,11] [(8,[3]),(9,[3])] mixed (by decide+kernel) ?_))|((with_reducible refine Vc.cy.held [0,1,2,3,4,6,7,5,8] [(5,[7])] mixed (by decide+kernel) ?_))|((with_reducible refine Vc.cy.held [0,1,2,3,4,5,6,7,8,9,10,11,12,13] [(10,[4,7])] mixed (by decide+kernel) ?_))|refine Vc.aq ?_)<;>(intros;(conv=>whnf)))))
  obtain⟨h1,h2⟩:=h.to (s':=s) (show ax H H2 by exact Vc.xt) rfl rfl h.rel;exact mo.to (nx:=s.at_+1) (e:=72) (by unfold fX;simp only[(by omega:x.k=11),Nat.reduceEqDiff,reduceIte]) h1 h2 rfl (fun e=>by cases e)
 by_cases h9:k=9
 .subst h9;have hO:=h.wm.qE s.at_ hk;have QJ:=cq.hcell h.jT (rZ hO);have he:=U9 hn hk;refine Vc.az.body Tryz.func61 Tryz.call61 rfl (by decide+kernel) rfl ?_;((conv=>whnf);repeat(any_goals((first|(refine cm.ln h.row h.len s.at_ x rfl hx ?_;intro _ _ dp)|((with_reducible apply aE.mQ);(exact dp);(exact ax.refl _);(conv=>whnf))|(refine(ht _ (by exact Vc.xt) x.a mY).mono ?_;rintro _ H2 ⟨rfl,bh⟩;have dT:=bh.size;rw[lR])|(refine cm.mX s.at_ rfl pH ?_)|((with_reducible refine Vc.cy.held [0,1,2,3,4,5,6,7,8,9,10] [(8,[3])] mixed (by decide+kernel) ?_))|((with_reducible refine Vc.cy.held [0,1,2,3,4,5,6,7,8,9,10] [(8,[3])] mixed (by decide+kernel) ?_))|((with_reducible refine Vc.cy.held [0,1,2,3,4,5,6,7,8,9,10,11] [(8,[3]),(9,[3])] mixed (by decide+kernel) ?_))|((with_reducible refine Vc.cy.held [0,1,2,3,4,5,6,7,8,9,10,11] [(8,[3]),(9,[3])] mixed (by decide+kernel) ?_))|((with_reducible refine Vc.cy.held [0,1,2,3,4,6,7,5,8] [(5,[7])] mixed (by decide+kernel) ?_))|((with_reducible refine Vc.cy.held [0,1,2,3,4,5,6,7,8,9,10,11,12,13] [(10,[4,7])] mixed (by decide+kernel) ?_))|refine Vc.aq ?_)<;>(intros;(conv=>whnf)))))
  obtain⟨h1,h2⟩:=h.to (s':={s with at_:=(iV (cY m.L) s.at_).2}) (show ax H H2 by exact Vc.xt) rfl rfl (h.rel.same he.hd);exact mo.to (e:=0) (by unfold fX;simp only[(by omega:x.k=9),Nat.reduceEqDiff,reduceIte]) h1 h2 rfl (fun _=>rfl)
 by_cases nI:k=10
 .subst nI;obtain⟨hd,t,hh,Cc,aiq,_⟩:=N5 hn hk;have yN:=h.wm.hd s.at_ hk hd t hh;have hcH:=cq.hcell h.uo (rZ yN);have QL:=Pb hn (i:=s.at_) (by rw[h.qR];omega) hd (by rw[hh];simp);have LW:hd<m.n:=by omega
  have QK:M.length=m.n:=by rw[h.rel.len,h.qR]
  obtain⟨y,hy⟩: ∃ y,m.L[hd]? =some y:=⟨_,aD (by rw[h.len];exact LW)⟩;have fx:=Dk hy;rcases aiq with X7|X8
  .have X9:y.k=7:=by rw[X7]at fx;exact(bW fx).symm
   obtain⟨hr,je⟩:=h.rel.iff hn hk hh X7;have cW:fX (cY m.L) x s=(mD s,0):=by
    unfold fX;simp only[(by omega:x.k=10),Nat.reduceEqDiff,reduceIte];cases hS:s.S with
    |nil=>rfl
    |cons p S'=>
     obtain⟨g,c⟩:=p;dsimp only;rw[ak (je (g,c) S' hS)]
   refine Vc.az.body Tryz.func61 Tryz.call61 rfl (by decide+kernel) rfl ?_;((conv=>whnf);repeat(any_goals((first|(refine cm.ln h.row h.len s.at_ x rfl hx ?_;intro _ _ dp)|((with_reducible apply aE.mQ);(exact dp);(exact ax.refl _);(conv=>whnf))|(refine(ht _ (by exact Vc.xt) x.a mY).mono ?_;rintro _ H2 ⟨rfl,bh⟩;have dT:=bh.size;rw[lR])|(refine cm.mX s.at_ rfl pH ?_)|(refine cm.mX hd rfl LW ?_)|(refine cm.ln h.row h.len hd y rfl hy ?_;intro _ _ nk;have iL:=nk 0 _ rfl)|((with_reducible refine Vc.cy.held [0,1,2,3,4,5,6,7,8,9,10] [(8,[3])] mixed (by decide+kernel) ?_))|((with_reducible refine Vc.cy.held [0,1,2,3,4,5,6,7,8,9,10] [(8,[3])] mixed (by decide+kernel) ?_))|((with_reducible refine Vc.cy.held [0,1,2,3,4,5,6,7,8,9,10,11] [(8,[3]),(9,[3])] mixed (by decide+kernel) ?_))|((with_reducible refine Vc.cy.held [0,1,2,3,4,5,6,7,8,9,10,11] [(8,[3]),(9,[3])] mixed (by decide+kernel) ?_))|((with_reducible refine Vc.cy.held [0,1,2,3,4,6,7,5,8] [(5,[7])] mixed (by decide+kernel) ?_))|((with_reducible refine Vc.cy.held [0,1,2,3,4,5,6,7,8,9,10,11,12,13] [(10,[4,7])] mixed (by decide+kernel) ?_))|refine Vc.aq ?_)<;>(intros;(conv=>whnf)))))
   obtain⟨h1,h2⟩:=h.to (s':=mD s) (show ax H H2 by exact Vc.xt) rfl rfl hr;exact mo.to (nx:=s.at_+1) (e:=0) cW h1 h2 rfl (fun _=>rfl)
  .have Ya:y.k=8:=by rw[X8]at fx;exact(bW fx).symm
   obtain⟨c,S',hS,hM,pq,_,iz,cT⟩:=h.rel.rep hn hk hh X8 Cc;have hcM:=cq.hcell h.pP (rZ hM);have LX:=h.CP c (aU hM);by_cases q9:1<c
   .have cW:fX (cY m.L) x s=({s with at_:=hd+1,S:=(hd,c-1)::S'},0):=by
     unfold fX;simp only[(by omega:x.k=10),Nat.reduceEqDiff,reduceIte];rw[hS];dsimp only;rw[av Cc,av q9]
    refine Vc.az.body Tryz.func61 Tryz.call61 rfl (by decide+kernel) rfl ?_;((conv=>whnf);repeat(any_goals((first|(refine cm.ln h.row h.len s.at_ x rfl hx ?_;intro _ _ dp)|((with_reducible apply aE.mQ);(exact dp);(exact ax.refl _);(conv=>whnf))|(refine(ht _ (by exact Vc.xt) x.a mY).mono ?_;rintro _ H2 ⟨rfl,bh⟩;have dT:=bh.size;rw[lR])|(refine cm.mX s.at_ rfl pH ?_)|(refine cm.mX hd rfl LW ?_)|(refine cm.ln h.row h.len hd y rfl hy ?_;intro _ _ nk;have iL:=nk 0 _ rfl)|((with_reducible apply dc.uA);(exact h.pP.ext (show ax H _ by exact Vc.xt));rfl;rfl;rfl;(focus(omega));(focus((intro H4 gA mA iX;have fW:=dx trivial (show ax H H2 by exact Vc.xt);rw[aQ,show((c:Int)-1)=((c-1:Nat):Int)by omega,zB]at mA;have hcN:=cq.hcell mA (rZ (eO (by rw[QK];omega)));(conv=>whnf)))))|((with_reducible refine Vc.cy.held [0,1,2,3,4,5,6,7,8,9,10] [(8,[3])] mixed (by decide+kernel) ?_))|((with_reducible refine Vc.cy.held [0,1,2,3,4,5,6,7,8,9,10] [(8,[3])] mixed (by decide+kernel) ?_))|((with_reducible refine Vc.cy.held [0,1,2,3,4,5,6,7,8,9,10,11] [(8,[3]),(9,[3])] mixed (by decide+kernel) ?_))|((with_reducible refine Vc.cy.held [0,1,2,3,4,5,6,7,8,9,10,11] [(8,[3]),(9,[3])] mixed (by decide+kernel) ?_))|((with_reducible refine Vc.cy.held [0,1,2,3,4,6,7,5,8] [(5,[7])] mixed (by decide+kernel) ?_))|((with_reducible refine Vc.cy.held [0,1,2,3,4,5,6,7,8,9,10,11,12,13] [(10,[4,7])] mixed (by decide+kernel) ?_))|refine Vc.aq ?_)<;>(intros;(conv=>whnf)))))
    obtain⟨h1,h2⟩:=h.more (s':={s with at_:=hd+1,S:=(hd,c-1)::S'}) fW.2 mA iX rfl rfl (iz q9) (uX _ _ (by omega));exact mo.to (nx:=hd+1) (e:=0) cW h1 h2 rfl (fun _=>rfl)
   .have cW:fX (cY m.L) x s=({mD s with S:=S'},0):=by
     unfold fX;simp only[(by omega:x.k=10),Nat.reduceEqDiff,reduceIte];rw[hS];dsimp only;rw[av Cc,ak q9]
    refine Vc.az.body Tryz.func61 Tryz.call61 rfl (by decide+kernel) rfl ?_;((conv=>whnf);repeat(any_goals((first|(refine cm.ln h.row h.len s.at_ x rfl hx ?_;intro _ _ dp)|((with_reducible apply aE.mQ);(exact dp);(exact ax.refl _);(conv=>whnf))|(refine(ht _ (by exact Vc.xt) x.a mY).mono ?_;rintro _ H2 ⟨rfl,bh⟩;have dT:=bh.size;rw[lR])|(refine cm.mX s.at_ rfl pH ?_)|(refine cm.mX hd rfl LW ?_)|(refine cm.ln h.row h.len hd y rfl hy ?_;intro _ _ nk;have iL:=nk 0 _ rfl)|((with_reducible apply dc.uA);(exact h.pP.ext (show ax H _ by exact Vc.xt));rfl;rfl;rfl;(focus(omega));(focus((intro H4 gA mA iX;have fW:=dx trivial (show ax H H2 by exact Vc.xt);rw[aQ,show((c:Int)-1)=((c-1:Nat):Int)by omega,zB]at mA;have hcN:=cq.hcell mA (rZ (eO (by rw[QK];omega)));(conv=>whnf)))))|((with_reducible refine Vc.cy.held [0,1,2,3,4,5,6,7,8,9,10] [(8,[3])] mixed (by decide+kernel) ?_))|((with_reducible refine Vc.cy.held [0,1,2,3,4,5,6,7,8,9,10] [(8,[3])] mixed (by decide+kernel) ?_))|((with_reducible refine Vc.cy.held [0,1,2,3,4,5,6,7,8,9,10,11] [(8,[3]),(9,[3])] mixed (by decide+kernel) ?_))|((with_reducible refine Vc.cy.held [0,1,2,3,4,5,6,7,8,9,10,11] [(8,[3]),(9,[3])] mixed (by decide+kernel) ?_))|((with_reducible refine Vc.cy.held [0,1,2,3,4,6,7,5,8] [(5,[7])] mixed (by decide+kernel) ?_))|((with_reducible refine Vc.cy.held [0,1,2,3,4,5,6,7,8,9,10,11,12,13] [(10,[4,7])] mixed (by decide+kernel) ?_))|refine Vc.aq ?_)<;>(intros;(conv=>whnf)))))
    obtain⟨h1,h2⟩:=h.more (s':={mD s with S:=S'}) fW.2 mA iX rfl rfl cT (uX _ _ (by omega));exact mo.to (nx:=s.at_+1) (e:=0) cW h1 h2 rfl (fun _=>rfl)
 have cW:fX (cY m.L) x s=(mD s,0):=by
  unfold fX;rw[ak (by omega: ¬x.k=0),ak (by omega: ¬x.k=1),ak (by omega: ¬x.k=2),ak (by omega: ¬x.k=3),ak (by omega: ¬x.k=4),ak (by omega: ¬x.k=5),ak (by omega: ¬x.k=6),ak (by omega: ¬x.k=7),ak (by omega: ¬x.k=8),ak (by omega: ¬x.k=9),ak (by omega: ¬x.k=10),ak (by omega: ¬x.k=11)]
 refine Vc.az.body Tryz.func61 Tryz.call61 rfl (by decide+kernel) rfl ?_;((conv=>whnf);repeat(any_goals((first|(refine cm.ln h.row h.len s.at_ x rfl hx ?_;intro _ _ dp)|((with_reducible apply aE.mQ);(exact dp);(exact ax.refl _);(conv=>whnf))|(refine(ht _ (by exact Vc.xt) x.a mY).mono ?_;rintro _ H2 ⟨rfl,bh⟩;have dT:=bh.size;rw[lR])|((with_reducible refine Vc.cy.held [0,1,2,3,4,5,6,7,8,9,10] [(8,[3])] mixed (by decide+kernel) ?_))|((with_reducible refine Vc.cy.held [0,1,2,3,4,5,6,7,8,9,10] [(8,[3])] mixed (by decide+kernel) ?_))|((with_reducible refine Vc.cy.held [0,1,2,3,4,5,6,7,8,9,10,11] [(8,[3]),(9,[3])] mixed (by decide+kernel) ?_))|((with_reducible refine Vc.cy.held [0,1,2,3,4,5,6,7,8,9,10,11] [(8,[3]),(9,[3])] mixed (by decide+kernel) ?_))|((with_reducible refine Vc.cy.held [0,1,2,3,4,6,7,5,8] [(5,[7])] mixed (by decide+kernel) ?_))|((with_reducible refine Vc.cy.held [0,1,2,3,4,5,6,7,8,9,10,11,12,13] [(10,[4,7])] mixed (by decide+kernel) ?_))|refine Vc.aq ?_)<;>(intros;(conv=>whnf)))))
 obtain⟨h1,h2⟩:=h.to (s':=mD s) (show ax H H2 by exact Vc.xt) rfl rfl (h.rel.same (FI hk (by omega) (by omega) (by omega)));exact mo.to (nx:=s.at_+1) (e:=0) cW h1 h2 rfl (fun _=>rfl)
theorem ahw {K:Value->Prop} {o1 o2:Operand} {a b:Option Addr} {n m c d:Nat} (h:K (.agg #[.slice a n c,.slice b m d])):da Tryz.prog (Instr.build 136 ((List.map (fun x:Nat×Operand=>x.1) (#[(0,o1),(1,o2)]:Array (Nat×Operand)).toList).zip [.slice a n c,.slice b m d]).toArray) K:=da.build _ (by kernel_rfl) h
theorem jf.ext {H H':ae} {B g n:Nat} {l:List Nat} (h:jf H B g n l) (k:ax H H'):jf H' B g n l:=cq.ext h k
theorem jf.but {H H':ae} {B g b n:Nat} {l:List Nat} (h:jf H B g n l) (k:fw b H H') (hb:g≠b):jf H' B g n l:=cq.keep h k fun p hp e=>by cases hp;exact hb e
structure QM (H H1 H':ae) (n gj go gh:Nat):Prop where
 cL:bu H' gj #[.slice (some ⟨go,0,none⟩) n n,.slice (some ⟨gh,0,none⟩) n n] 136
 jT:jf H' H.size go n (List.replicate n 0)
 uo:jf H' H.size gh n (List.replicate n 0)
 ne:go≠gh
 low:H1.size<=gj
 lo:H1.size<=go
 lh:H1.size<=gh
 ext:ax H1 H'
structure rb (H H2 H':ae) (n gj go gh:Nat) (O Hd:List Nat):Prop where
 cL:bu H' gj #[.slice (some ⟨go,0,none⟩) n n,.slice (some ⟨gh,0,none⟩) n n] 136
 res:bu H' H.size #[Value.slice none 0 0,Value.slice none 0 0] 136
 jT:jf H' H.size go n O
 uo:jf H' H.size gh n Hd
 ext:ax H H'
 lt:gj<H2.size/\go<H2.size/\gh<H2.size/\H.size<H2.size
 ne:go≠gh/\H.size≠gj/\H.size≠go/\H.size≠gh/\gj≠go/\gj≠gh
 low:H2.size<=H'.size
theorem rb.up {H H2 H' lG:ae} {n gj go gh:Nat} {O Hd:List Nat} (h:rb H H2 H' n gj go gh O Hd) (k:cD (fun x=>H2.size<=x) H' lG):rb H H2 lG n gj go gh O Hd:=by
 have hl:=h.lt;have hc:=h.res;exact⟨h.cL.keep k (by omega),hc.keep k (by omega),h.jT.keep k fun p hp=>by cases hp;dsimp only;omega,h.uo.keep k fun p hp=>by cases hp;dsimp only;omega,cD.trans h.ext k fun b hb e=>by omega,h.lt,h.ne,dh h.low k.size⟩
theorem rb.ext' {H H2 H' lG:ae} {n gj go gh:Nat} {O Hd:List Nat} (h:rb H H2 H' n gj go gh O Hd) (k:ax H' lG):rb H H2 lG n gj go gh O Hd:=h.up (k.mono fun _ e=>e.elim)
theorem rb.WW {H H2 H' lG:ae} {n gj go gh:Nat} {O O' Hd:List Nat} (h:rb H H2 H' n gj go gh O Hd) (hO:jf lG H.size go n O') (k:fw go H' lG):rb H H2 lG n gj go gh O' Hd:=by
 obtain⟨n1,n2,n3,n4,n5,n6⟩:=h.ne;have hc:=h.res;have hb:=(h.jT.block _ rfl).1;dsimp only at hb;exact⟨h.cL.but k n5,hc.but k n3,hO,jf.but h.uo k n1.symm,h.ext.but k hb,h.lt,h.ne,dh h.low k.size⟩
theorem rb.ajl {H H2 H' lG:ae} {n gj go gh:Nat} {O Hd Yb:List Nat} (h:rb H H2 H' n gj go gh O Hd) (hO:jf lG H.size gh n Yb) (k:fw gh H' lG):rb H H2 lG n gj go gh O Yb:=by
 obtain⟨n1,n2,n3,n4,n5,n6⟩:=h.ne;have hc:=h.res;have hb:=(h.uo.block _ rfl).1;dsimp only at hb;exact⟨h.cL.but k n6,hc.but k n4,jf.but h.jT k n1,hO,h.ext.but k hb,h.lt,h.ne,dh h.low k.size⟩
abbrev qj (H':ae) (B:Nat) (a:Option Addr) (c:Nat) (l:List Nat):Prop:=cq H' B 3 1 a l.length c (kH l)
def jg (K:List Nat) (i:Nat):List Nat:=((gk K i).map (·.2)).reverse
def jV (K:List Nat) (i:Nat):List Nat:=((gk K i).map (·.1)).reverse
theorem OX {B n cap:Nat} {a:Option Addr} {xs:List Value} {H H':ae} (ho:cq H B 3 1 a n cap xs) (hw:Wr a H H'):cD (fun x=>B<=x) H H':=hw.mono fun b ⟨p,hp,e⟩=>by have:=(ho.block p hp).1;omega
theorem cP.KK {H:ae} {u ty:TypeId} {a:Option Addr} {cap g base m:Nat} {l:List Nat} {cb:Array Bool} {K:Value->ae->Prop}
  (jZ:qj H base a cap l) (tL:bu H g #[.int .i64 (m:Int)] 3) (hn:l.length<=1000000) (hb:base<=H.size) (hu: ∃ d,Tryz.prog.underlying u=some d/\(∀ k,d≠ .int k))
  (hk: ∀ a' cS H',qj H' base a' cS (l++[m])->Wr a H H'->(∀ p,a'=some p->a'=a\/H.size<=p.block)->K (.slice a' (l.length+1) cS) H'):
  cP Tryz.prog (builtin .append #[125,u] ty cb #[.slice a l.length cap,.slice (some ⟨g,0,none⟩) 1 1]) H K:=by
 refine cP.append (i:=Tryz.t3) (z:= .int .i64 0) (m:=1) (news:=[.int .i64 (m:Int)]) rfl hu rfl rfl rfl jZ (Src.row (c:=1) (bu.row (c:=[.int .i64 (m:Int)]) tL) rfl (by simp[jt])) (by unfold maxLen;omega) ?_ hb fun a' cS H' h1 h2 h3=>hk a' cS H' ?_ h2 h3
 .show(l.length+1)*8<=_;omega
 .show cq _ _ _ 1 _ (l++[m]).length _ _;rw[au,Jw];exact h1
theorem OB (K:List Nat): ∀ i,(gk K i).length<=i
 |0=>aB _
 |i+1=>by
  have ih:=OB K i;rw[gk];split
  .rename_i k _;unfold ni;split
   .rw[ay];omega
   split
   .cases hs:gk K i with
    |nil=>exact aI _
    |cons p t=>rw[hs]at ih;rw[ay]at ih ⊢;omega
   split
   .rw[iy];omega
   .omega
  .omega
theorem agt (K:List Nat) (i:Nat):(jg K i).length<=i:=by unfold jg;rw[List.length_reverse,dn];exact OB K i
theorem agu (K:List Nat) (i:Nat):(jV K i).length<=i:=by unfold jV;rw[List.length_reverse,dn];exact OB K i
structure Yc where
 i:Nat
 a:Option Addr
 c:Nat
 ah:Option Addr
 ch:Nat
 O:List Nat
 Hd:List Nat
set_option maxHeartbeats 8000000 in
theorem aeU {H:ae} {al:Option Addr} {cl n:Nat} {L:List Ln} (hr:Row H al (lL L)) (hl:L.length=n) (hn:n<=1000000) (cz:mn (cY L)):
  az Tryz.prog 60 [.slice al n cl] H fun v H'=>(∃ go gh O Hd,v= .agg #[.slice (some ⟨go,0,none⟩) n n,.slice (some ⟨gh,0,none⟩) n n]/\jf H' H.size go n O/\jf H' H.size gh n Hd/\Go.bu.Tables (cY L) O Hd)/\ax H H':=by
 refine Vc.az.body Tryz.func60 Tryz.call60 rfl (by decide+kernel) rfl ?_;((conv=>whnf);repeat(any_goals((first|((with_reducible apply aE.make);rfl;rfl;rfl;(show 8*n<=_;omega);(unfold maxLen;omega);(intro H1 fg cd;(conv=>whnf)))|refine Vc.pe ?_|refine Vc.bz ?_ ?_)<;>(intros;(conv=>whnf)))))
 rename_i H1 z1 b1 x1;have fin: ∀ {env:Env} {H':ae} {gj go gh:Nat},bu H' gj #[.slice (some ⟨go,0,none⟩) n n,.slice (some ⟨gh,0,none⟩) n n] 136->Bears env [(3,.pointer (some ⟨gj,0,none⟩))]->jf H' H.size go n (List.replicate n 0)->jf H' H.size gh n (List.replicate n 0)->go≠gh->H1.size<=gj->H1.size<=go->H1.size<=gh->ax H1 H'->
   ∃ s:Nat×Nat×Nat,Bears env [(3,.pointer (some ⟨s.1,0,none⟩))]/\QM H H1 H' n s.1 s.2.1 s.2.2:=fun a b c d e f l1 l2 g=>⟨(_,_,_),b,a,c,d,e,f,l1,l2,g⟩
 refine jO.cut (fun(x:Nat×Nat×Nat)=>[(3,.pointer (some ⟨x.1,0,none⟩))]) (fun x H'=>QM H H1 H' n x.1 x.2.1 x.2.2) ?_ ?_
 ·((conv=>whnf);repeat(any_goals((first|((with_reducible apply aE.make);rfl;rfl;rfl;(show 8*n<=_;omega);(unfold maxLen;omega);(focus((intro Hx jI yF;replace jI:jf Hx _ _ n (List.replicate n 0):=(by(show cq _ _ _ 1 _ _ _ (kH (List.replicate n 0)));rw[<-Ui];exact jI);replace jI:jf Hx H.size _ n (List.replicate n 0):=Go.Vc.cq.base jI (by omega);have hzx:=yF.size;have QN:=(show _<Hx.size from(jI.block _ rfl).2);dsimp only at QN;(conv=>whnf)))))|((with_reducible apply ahw);(conv=>whnf))|(first|(with_reducible refine Vc.cy.ku (id:=1) mixed ?_)|(with_reducible refine Vc.cg.split (es:=[]) 2 5 (by decide) (by decide) (by decide) ?_ ?_)|(with_reducible refine Vc.cg.split (es:=[(2,5)]) 2 7 (by decide) (by decide) (by decide) ?_ ?_)|(with_reducible refine Vc.cg.split (es:=[(2,7),(2,5)]) 5 7 (by decide) (by decide) (by decide) ?_ ?_)|(with_reducible refine Vc.cg.held (es:=[(5,7),(2,7),(2,5)]) [0,1,3,4,2,5,6,7,8] [] (by decide+kernel) ?_)|(with_reducible refine Vc.cg.held (es:=[(7,5),(2,7),(2,5)]) [0,1,3,4,2,7,5,6,8] [] (by decide+kernel) ?_)|(with_reducible refine Vc.cg.held (es:=[(7,2),(2,5)]) [0,1,3,4,7,2,5,6,8] [] (by decide+kernel) ?_)|(with_reducible refine Vc.cg.split (es:=[(5,2)]) 5 7 (by decide) (by decide) (by decide) ?_ ?_)|(with_reducible refine Vc.cg.split (es:=[(5,7),(5,2)]) 2 7 (by decide) (by decide) (by decide) ?_ ?_)|(with_reducible refine Vc.cg.held (es:=[(2,7),(5,7),(5,2)]) [0,1,3,4,5,2,6,7,8] [] (by decide+kernel) ?_)|(with_reducible refine Vc.cg.held (es:=[(7,2),(5,7),(5,2)]) [0,1,3,4,5,7,2,6,8] [] (by decide+kernel) ?_)|(with_reducible refine Vc.cg.held (es:=[(7,5),(5,2)]) [0,1,3,4,7,5,2,6,8] [] (by decide+kernel) ?_))|refine Vc.aq ?_|refine Vc.bz ?_ ?_)<;>(intros;(conv=>whnf)))))
  all_goals(refine fin (by assumption) ⟨rfl,aF⟩ ?_ ?_ ?_ ?_ ?_ ?_ ?_<;>first|omega|(exact Vc.xt;done)|((repeat(first|assumption|((with_reducible apply jf.ext);(case k=>assumption))|((with_reducible apply jf.but);(case k=>assumption);(case hb=>omega))));done))
 .rintro⟨gj,go,gh⟩ H2 hj;have hj:QM H H1 H2 n gj go gh:=hj;have dT:=hj.ext.size;have Ii:=hj.jT.cL (by simp);have A7:=hj.uo.cL (by simp);have hB:rb H H2 H2 n gj go gh (List.replicate n 0) (List.replicate n 0):=by
   have ct:=hj.cL.lt;have h3:=Ii.lt;have h4:=A7.lt;have:=hj.low;have:=hj.lo;have:=hj.lh;refine⟨hj.cL,b1.ext hj.ext,hj.jT,hj.uo,x1.trans hj.ext,by omega,⟨hj.ne,by omega,by omega,by omega,fun e=> ?_,fun e=> ?_⟩,aB _⟩
   .have:=hj.cL;rw[e]at this;exact absurd (pw this Ii).1 (by decide)
   .have:=hj.cL;rw[e]at this;exact absurd (pw this A7).1 (by decide)
  have jQ:(cY L).length=n:=by rw[Dl,hl]
  ((conv=>whnf);repeat(any_goals((first|refine Vc.aq ?_)<;>(intros;(conv=>whnf)))))
  refine dt.intro (fun(x:Yc)=>[(19,.int .i64 x.i),(4,.slice x.a (jg (cY L) x.i).length x.c),(5,.slice x.ah (jV (cY L) x.i).length x.ch)]) (fun x H'=>x.i<=n/\oh (cY L) x.i x.O x.Hd/\rb H H2 H' n gj go gh x.O x.Hd/\qj H' H2.size x.a x.c (jg (cY L) x.i)/\qj H' H2.size x.ah x.ch (jV (cY L) x.i)/\(∀ p q,x.a=some p->x.ah=some q->p.block≠q.block)) (fun x=>n-x.i) ⟨0,none,0,none,0,List.replicate n 0,List.replicate n 0⟩ ⟨rfl,rfl,rfl,aF⟩ ⟨aI _,by rw[<-jQ];exact oh.zero _,hB,cq.nil _ _ _ _,cq.nil _ _ _ _,fun p q hp=>by cases hp⟩ ?_;rintro⟨i,a,ca,ah,ch,O,Hd⟩ H3 ⟨hi,A8,lS,ho,hh,jH⟩;dsimp only at hi A8 lS ho hh jH ⊢;have eJ:=lS.low;have j5:=agt (cY L) i;have QL:=agu (cY L) i;by_cases ct:i<n
  .obtain⟨x,hx⟩: ∃ x,L[i]? =some x:=⟨_,aD (by omega)⟩;have hk:=Dk hx;obtain⟨k,wQ⟩: ∃ k,x.k=k:=⟨_,rfl⟩;rw[wQ]at hk;by_cases su:k=7\/k=8
   .have Yd:jg (cY L) (i+1)=jg (cY L) i++[i]:=by unfold jg;rw[pY hk];unfold ni;rw[av su];simp
    have Ij:jV (cY L) (i+1)=jV (cY L) i++[i]:=by unfold jV;rw[pY hk];unfold ni;rw[av su];simp
    have Qi:=A8.open hk su;have WX: ∀ {env:Env} {H5 H6 H7 H8:ae} {a6 a8:Option Addr} {c6 c8:Nat},ax H3 H5->rb H H2 H6 n gj go gh O Hd->qj H6 H2.size a6 c6 (jg (cY L) i++[i])->qj H6 H2.size ah ch (jV (cY L) i)->H5.size<=H6.size->(∀ p,a6=some p->a6=a\/H5.size<=p.block)->ax H6 H7->qj H8 H2.size a8 c8 (jV (cY L) i++[i])->Wr ah H7 H8->(∀ p,a8=some p->a8=ah\/H7.size<=p.block)->
      Bears env [(19,.int .i64 ((i:Int)+1)),(4,.slice a6 ((jg (cY L) i).length+1) c6),(5,.slice a8 ((jV (cY L) i).length+1) c8)]->
      ∃ s':Yc,Bears env [(19,.int .i64 s'.i),(4,.slice s'.a (jg (cY L) s'.i).length s'.c),(5,.slice s'.ah (jV (cY L) s'.i).length s'.ch)]/\(s'.i<=n/\oh (cY L) s'.i s'.O s'.Hd/\rb H H2 H8 n gj go gh s'.O s'.Hd/\qj H8 H2.size s'.a s'.c (jg (cY L) s'.i)/\qj H8 H2.size s'.ah s'.ch (jV (cY L) s'.i)/\(∀ p q,s'.a=some p->s'.ah=some q->p.block≠q.block))/\n-s'.i<n-i:=by
     intro env H5 H6 H7 H8 a6 a8 c6 c8 k35 CQ ei sX akQ Ik LY Il mg CS oM;have WY: ∀ p q,a6=some p->ah=some q->p.block≠q.block:=fun p q hp hq=>by
      rcases Ik p hp with e|e
      .exact jH p q (e▸hp) hq
      .have:=(hh.block q hq).2;have:=k35.size;omega
     have iT:qj H8 H2.size a6 c6 (jg (cY L) i++[i]):=(ei.ext LY).keep mg fun p hp ⟨q,hq,e⟩=>WY p q hp hq e.symm;refine⟨⟨i+1,a6,c6,a8,c8,O,Hd⟩,?_,⟨by show i+1<=n;omega,Qi,(CQ.ext' LY).up (OX (sX.ext LY) mg),by dsimp only;rw[Yd];exact iT,by dsimp only;rw[Ij];exact Il,fun p q hp hq=> ?_⟩,by show n-(i+1)<n-i;omega⟩
     .dsimp only;rw[Yd,Ij,au,au];exact oM
     .rcases CS q hq with e|e
      .exact WY p q hp (e▸hq)
      .have:=(ei.block p hp).2;have:=LY.size;omega
    rcases su with h7|h7
    ·((conv=>whnf);repeat(any_goals((first|(refine cm.ln (hr.ext lS.ext) hl i x rfl hx ?_;intro _ _ dp)|((with_reducible apply aE.mQ);(exact dp);(exact ax.refl _);(conv=>whnf))|(have:=sX;rename_i H7 z7 b7 x7;have Im:ax H6 H7:=x7;refine cP.KK (l:=jV (cY L) i) (m:=i) (sX.ext Im) b7 (by omega) (by omega) ⟨_,rfl,fun _ h=>by cases h⟩ ?_;intro a8 c8 H8 Il mg CS)|(have:=ho;rename_i H5 z5 b5 x5;have vv:=dx trivial (show ax H3 H5 by exact Vc.xt);refine cP.KK (l:=jg (cY L) i) (m:=i) (ho.ext vv.2) b5 (by omega) (by omega) ⟨_,rfl,fun _ h=>by cases h⟩ ?_;intro a6 c6 H6 ei j6 Ik;have sX:qj H6 H2.size ah ch (jV (cY L) i):=(hh.ext vv.2).keep j6 (fun p hp ⟨q,hq,e⟩=>jH q p hq hp e);have QO:=OX (ho.ext vv.2) j6;have fS:=j6.size;have CQ:=(lS.ext' vv.2).up QO)|refine Vc.aq ?_)<;>(intros;(conv=>whnf)))))
     exact WX vv.2 CQ ei sX fS Ik Im Il mg CS ⟨rfl,rfl,rfl,aF⟩
    ·((conv=>whnf);repeat(any_goals((first|(refine cm.ln (hr.ext lS.ext) hl i x rfl hx ?_;intro _ _ dp)|((with_reducible apply aE.mQ);(exact dp);(exact ax.refl _);(conv=>whnf))|(have:=sX;rename_i H7 z7 b7 x7;have Im:ax H6 H7:=x7;refine cP.KK (l:=jV (cY L) i) (m:=i) (sX.ext Im) b7 (by omega) (by omega) ⟨_,rfl,fun _ h=>by cases h⟩ ?_;intro a8 c8 H8 Il mg CS)|(have:=ho;rename_i H5 z5 b5 x5;have vv:=dx trivial (show ax H3 H5 by exact Vc.xt);refine cP.KK (l:=jg (cY L) i) (m:=i) (ho.ext vv.2) b5 (by omega) (by omega) ⟨_,rfl,fun _ h=>by cases h⟩ ?_;intro a6 c6 H6 ei j6 Ik;have sX:qj H6 H2.size ah ch (jV (cY L) i):=(hh.ext vv.2).keep j6 (fun p hp ⟨q,hq,e⟩=>jH q p hq hp e);have QO:=OX (ho.ext vv.2) j6;have fS:=j6.size;have CQ:=(lS.ext' vv.2).up QO)|refine Vc.aq ?_)<;>(intros;(conv=>whnf)))))
     exact WX vv.2 CQ ei sX fS Ik Im Il mg CS ⟨rfl,rfl,rfl,aF⟩
   by_cases h9:k=9
   .subst h9;obtain⟨h0,t,cW,h07,Ye⟩:=Ti cz hk;have eo:jg (cY L) i=(t.map (·.2)).reverse++[h0]:=by unfold jg;rw[cW];simp
    obtain⟨ga,rfl,hga⟩: ∃ g,a=some ⟨g,0,none⟩/\H2.size<=g:=by
     rcases ho.out with ⟨_,rS,_⟩|⟨g,_,ha,hb,_⟩
     .rw[eo,au]at rS;simp at rS
     .exact⟨g,ha,hb⟩
    obtain⟨m,hm⟩: ∃ m,(jg (cY L) i).length=m+1:=⟨t.length,by rw[eo];simp⟩;have rC:(jg (cY L) i)[m]? =some h0:=by
     rw[eo]at hm ⊢;rw[au,dQ]at hm;rw[bA (by omega),show m-(t.map (·.2)).reverse.length=0 by omega];rfl
    have iL:=cq.hcell ho (rZ rC);have Io:=lS.cL;obtain⟨l1,l2,l3,l4⟩:=lS.lt;have uX:(jg (cY L) i).set m i=jg (cY L) (i+1):=by
     have e1:jg (cY L) (i+1)=(t.map (·.2)).reverse++[i]:=by unfold jg;rw[pY hk,cW];unfold ni;rw[ak (by decide),av rfl];simp
     rw[e1,eo];rw[eo,au,dQ]at hm;rw[List.set_append_right _ _ (by omega),show m-(t.map (·.2)).reverse.length=0 by omega];rfl
    have Ij:jV (cY L) (i+1)=jV (cY L) i:=by unfold jV;rw[pY hk,cW];unfold ni;rw[ak (by decide),av rfl];rfl
    have WZ:(jg (cY L) i).length=(jg (cY L) (i+1)).length:=by rw[<-uX,gM]
    ((conv=>whnf);repeat(any_goals((first|(refine cm.ln (hr.ext lS.ext) hl i x rfl hx ?_;intro _ _ dp)|((with_reducible apply aE.mQ);(exact dp);(exact ax.refl _);(conv=>whnf))|(refine cm.mX m (by omega) (by omega) ?_)|(refine cm.mX h0 rfl (by omega) ?_)|(rename_i H4 z4 b4 k4;have sY:=dx trivial (show ax H3 H4 by exact Vc.xt);refine dc.uA (o:=0+h0) (lS.jT.ext sY.2) rfl rfl rfl (by omega) ?_;intro H5 z5 m5 k5;rw[aQ,zB]at m5;have LZ:=(lS.ext' sY.2).WW m5 k5;have eW:qj H5 H2.size (some ⟨ga,0,none⟩) ca (jg (cY L) i):=(ho.ext sY.2).keep k5 (fun p hp e=>by cases hp;dsimp only at e;omega))|(refine dc.uA (o:=0+m) eW rfl rfl rfl (by omega) ?_;intro H6 z6 m6 k6;rw[aQ,zB,uX,WZ]at m6)|refine Vc.aq ?_)<;>(intros;(conv=>whnf)))))
    have sX:qj H6 H2.size ah ch (jV (cY L) i):=((hh.ext sY.2).keep k5 fun p hp e=>by have:=(hh.block p hp).1;omega).keep k6 fun p hp e=>jH ⟨ga,0,none⟩ p rfl hp e.symm;refine⟨⟨i+1,some ⟨ga,0,none⟩,ca,ah,ch,O.set h0 i,Hd⟩,⟨rfl,by show Value.slice _ _ _=Value.slice _ _ _;rw[WZ],by show Value.slice _ _ _=Value.slice _ _ _;rw[Ij],aF⟩,⟨by show i+1<=n;omega,A8.else cz hk cW h07 Ye,LZ.up (k6.mono fun b e=>by omega),m6,by dsimp only;rw[Ij];exact sX,jH⟩,by show n-(i+1)<n-i;omega⟩
   by_cases nI:k=10
   .subst nI;obtain⟨h0,x0,t,cW,Ye,x0i⟩:=agk cz hk;have eo:jg (cY L) i=(t.map (·.2)).reverse++[x0]:=by unfold jg;rw[cW];simp
    have eh:jV (cY L) i=(t.map (·.1)).reverse++[h0]:=by unfold jV;rw[cW];simp
    obtain⟨ga,rfl,hga⟩: ∃ g,a=some ⟨g,0,none⟩/\H2.size<=g:=by
     rcases ho.out with ⟨_,rS,_⟩|⟨g,_,ha,hb,_⟩
     .rw[eo,au]at rS;simp at rS
     .exact⟨g,ha,hb⟩
    obtain⟨gb,rfl,hgb⟩: ∃ g,ah=some ⟨g,0,none⟩/\H2.size<=g:=by
     rcases hh.out with ⟨_,rS,_⟩|⟨g,_,ha,hb,_⟩
     .rw[eh,au]at rS;simp at rS
     .exact⟨g,ha,hb⟩
    obtain⟨m,hm⟩: ∃ m,t.length=m:=⟨_,rfl⟩;have mK:(jg (cY L) i).length=m+1:=by rw[eo];simp[hm]
    have hmh:(jV (cY L) i).length=m+1:=by rw[eh];simp[hm]
    have pb:(jg (cY L) i)[m]? =some x0:=by rw[eo,bA (by simp;omega)];simp[hm]
    have rI:(jV (cY L) i)[m]? =some h0:=by rw[eh,bA (by simp;omega)];simp[hm]
    have iL:=cq.hcell ho (rZ pb);have pq:=cq.hcell hh (rZ rI);have Io:=lS.cL;obtain⟨l1,l2,l3,l4⟩:=lS.lt;obtain⟨n1,n2,n3,n4,n5,n6⟩:=lS.ne;have QP:=ho.jC;have LX:=hh.jC;have e1:jg (cY L) (i+1)=(jg (cY L) i).take m:=by
     have:jg (cY L) (i+1)=(t.map (·.2)).reverse:=by unfold jg;rw[pY hk,cW];unfold ni;rw[ak (by decide),ak (by decide),av rfl];rfl
     rw[this,eo,List.take_left' (by simp[hm])]
    have e2:jV (cY L) (i+1)=(jV (cY L) i).take m:=by
     have:jV (cY L) (i+1)=(t.map (·.1)).reverse:=by unfold jV;rw[pY hk,cW];unfold ni;rw[ak (by decide),ak (by decide),av rfl];rfl
     rw[this,eh,List.take_left' (by simp[hm])]
    ((conv=>whnf);repeat(any_goals((first|(refine cm.ln (hr.ext lS.ext) hl i x rfl hx ?_;intro _ _ dp)|((with_reducible apply aE.mQ);(exact dp);(exact ax.refl _);(conv=>whnf))|(refine cm.mX m (by omega) (by omega) ?_)|(refine cm.mX x0 rfl (by omega) ?_)|(refine cm.mX i rfl (by omega) ?_)|(have:=m5;refine dc.uA (o:=0+i) LZ.uo rfl rfl rfl (by omega) ?_;intro H6 z6 m6 k6;rw[aQ,zB]at m6;have CQ:=LZ.ajl m6 k6)|(rename_i H4 z4 b4 k4;have sY:=dx trivial (show ax H3 H4 by exact Vc.xt);refine dc.uA (o:=0+x0) (lS.jT.ext sY.2) rfl rfl rfl (by omega) ?_;intro H5 z5 m5 k5;rw[aQ,zB]at m5;have LZ:=(lS.ext' sY.2).WW m5 k5;have eW:qj H5 H2.size (some ⟨ga,0,none⟩) ca (jg (cY L) i):=(ho.ext sY.2).keep k5 (fun p hp e=>by cases hp;dsimp only at e;omega))|(refine dk.nat m (by omega) (by omega) ?_)|((with_reducible refine Vc.cy.held [0,1,2,3,4,5,6,7,8,9,10,11,12,13,14,15,16,17,18,19] [(17,[8])] mixed (by decide+kernel) ?_))|refine Vc.aq ?_)<;>(intros;(conv=>whnf)))))
    have ei:qj H6 H2.size (some ⟨ga,0,none⟩) ca (jg (cY L) (i+1)):=by
     have:=(eW.keep k6 fun p hp e=>by cases hp;dsimp only at e;omega).cut m (by omega);rw[bQ]at this;have el:(jg (cY L) (i+1)).length=m:=by rw[e1,aJ];omega
     show cq _ _ _ 1 _ (jg (cY L) (i+1)).length _ _;rw[el,e1];unfold kH;rw[List.map_take];exact this
    have sX:qj H6 H2.size (some ⟨gb,0,none⟩) ch (jV (cY L) (i+1)):=by
     have:=(((hh.ext sY.2).keep k5 fun p hp e=>by cases hp;dsimp only at e;omega).keep k6 fun p hp e=>by cases hp;dsimp only at e;omega).cut m (by omega);rw[bQ]at this;have el:(jV (cY L) (i+1)).length=m:=by rw[e2,aJ];omega
     show cq _ _ _ 1 _ (jV (cY L) (i+1)).length _ _;rw[el,e2];unfold kH;rw[List.map_take];exact this
    have el1:(jg (cY L) (i+1)).length=m:=by rw[e1,aJ];omega
    have el2:(jV (cY L) (i+1)).length=m:=by rw[e2,aJ];omega
    exact⟨⟨i+1,some ⟨ga,0,none⟩,ca,some ⟨gb,0,none⟩,ch,O.set x0 i,Hd.set i h0⟩,⟨rfl,by show Value.slice _ _ _=Value.slice _ _ _;rw[el1],by show Value.slice _ _ _=Value.slice _ _ _;rw[el2],aF⟩,⟨by show i+1<=n;omega,A8.end cz hk cW,CQ,ei,sX,jH⟩,by show n-(i+1)<n-i;omega⟩
   have eo:jg (cY L) (i+1)=jg (cY L) i:=by unfold jg;rw[pY hk];unfold ni;rw[ak su,ak h9,ak nI]
   have eh:jV (cY L) (i+1)=jV (cY L) i:=by unfold jV;rw[pY hk];unfold ni;rw[ak su,ak h9,ak nI]
   ((conv=>whnf);repeat(any_goals((first|(refine cm.ln (hr.ext lS.ext) hl i x rfl hx ?_;intro _ _ dp)|((with_reducible apply aE.mQ);(exact dp);(exact ax.refl _);(conv=>whnf))|refine Vc.aq ?_)<;>(intros;(conv=>whnf)))))
   rename_i H4 z4 b4 k4;have sY:ax H3 H4:=by exact Vc.xt
   exact⟨⟨i+1,a,ca,ah,ch,O,Hd⟩,⟨rfl,by show Value.slice _ _ _=Value.slice _ _ _;rw[eo],by show Value.slice _ _ _=Value.slice _ _ _;rw[eh],aF⟩,⟨by show i+1<=n;omega,A8.other hk su h9 nI,lS.ext' sY,by dsimp only;rw[eo];exact ho.ext sY,by dsimp only;rw[eh];exact hh.ext sY,jH⟩,by show n-(i+1)<n-i;omega⟩
  .obtain rfl:i=n:=by omega
   have A2:=lS.res;have sj:=lS.cL;obtain⟨l1,l2,l3,l4⟩:=lS.lt;have n2':=lS.ne.2.1;((conv=>whnf);repeat(any_goals((first|refine Vc.aq ?_)<;>(intros;(conv=>whnf)))))
   rename_i H4 z4 b4 k4;obtain⟨n1,n2,n3,n4,n5,n6⟩:=lS.ne;exact⟨⟨go,gh,O,Hd,rfl,jf.but lS.jT k4 n3.symm,jf.but lS.uo k4 n4.symm,oh.done cz (by rw[jQ];exact A8)⟩,lS.ext.but k4 (aB _)⟩
end Go.Proofs.YtphkaogbcfdllaaGreatDoor
namespace Go.Proofs.YtphkaogbcfdllaaGreatDoor
open Go Go.Vc Go.cN Go.RowKit
end Go.Proofs.YtphkaogbcfdllaaGreatDoor
namespace Go.Proofs
open Go.Shelf
def Tryz.aaE:Go.Shelf.Ren:=⟨fun|171=>63|243=>118|246=>169|283=>208|284=>209|285=>210|286=>211|129=>191|317=>245|318=>246|319=>247|320=>248|337=>271|338=>272|n=>n,fun|3=>3|9=>9|2=>2|4=>4|171=>303|0=>0|53=>187|37=>33|5=>5|173=>305|212=>353|51=>234|20=>20|213=>354|46=>226|232=>84|233=>374|n=>n,fun|17=>1|18=>3|19=>4|n=>n⟩
theorem Tryz.aeV:Go.Proofs.LaysM.n171 Tryz.prog Tryz.aaE:={
 mixed:=by kernel_rfl
 f129:=Tryz.func191.trans (aZ some (by kernel_rfl))
 f171:=Tryz.func63.trans (aZ some (by kernel_rfl))
 f243:=Tryz.func118.trans (aZ some (by kernel_rfl))
 f246:=Tryz.func169.trans (aZ some (by kernel_rfl))
 f283:=Tryz.func208.trans (aZ some (by kernel_rfl))
 f284:=Tryz.func209.trans (aZ some (by kernel_rfl))
 f285:=Tryz.func210.trans (aZ some (by kernel_rfl))
 f286:=Tryz.func211.trans (aZ some (by kernel_rfl))
 f317:=Tryz.func245.trans (aZ some (by kernel_rfl))
 f318:=Tryz.func246.trans (aZ some (by kernel_rfl))
 f319:=Tryz.func247.trans (aZ some (by kernel_rfl))
 f320:=Tryz.func248.trans (aZ some (by kernel_rfl))
 f337:=Tryz.func271.trans (aZ some (by kernel_rfl))
 f338:=Tryz.func272.trans (aZ some (by kernel_rfl))
 t0:=Tryz.underlying0
 a0:=Tryz.isAgg0
 z0:=Tryz.sizeOf0
 v0:=Tryz.zeroValue0
 t2:=Tryz.underlying2
 a2:=Tryz.isAgg2
 z2:=Tryz.sizeOf2
 v2:=Tryz.zeroValue2
 t3:=Tryz.underlying3
 a3:=Tryz.isAgg3
 z3:=Tryz.sizeOf3
 v3:=Tryz.zeroValue3
 t4:=Tryz.underlying4
 a4:=Tryz.isAgg4
 z4:=Tryz.sizeOf4
 v4:=Tryz.zeroValue4
 t5:=Tryz.underlying5
 a5:=Tryz.isAgg5
 z5:=Tryz.sizeOf5
 v5:=Tryz.zeroValue5
 t9:=Tryz.underlying9
 a9:=Tryz.isAgg9
 z9:=Tryz.sizeOf9
 v9:=Tryz.zeroValue9
 t20:=Tryz.underlying20
 a20:=Tryz.isAgg20
 z20:=Tryz.sizeOf20
 v20:=Tryz.zeroValue20
 t37:=Tryz.underlying33
 a37:=Tryz.isAgg33
 z37:=Tryz.sizeOf33
 v37:=Tryz.zeroValue33
 t46:=Tryz.underlying226
 a46:=Tryz.isAgg226
 z46:=Tryz.sizeOf226
 v46:=Tryz.zeroValue226
 t51:=Tryz.underlying234
 a51:=Tryz.isAgg234
 z51:=Tryz.sizeOf234
 v51:=Tryz.zeroValue234
 t53:=Tryz.underlying187
 a53:=Tryz.isAgg187
 z53:=Tryz.sizeOf187
 v53:=Tryz.zeroValue187
 t171:=Tryz.underlying303
 a171:=Tryz.isAgg303
 z171:=Tryz.sizeOf303
 v171:=Tryz.zeroValue303
 t173:=Tryz.underlying305
 a173:=Tryz.isAgg305
 z173:=Tryz.sizeOf305
 v173:=Tryz.zeroValue305
 t212:=Tryz.underlying353
 a212:=Tryz.isAgg353
 z212:=Tryz.sizeOf353
 v212:=Tryz.zeroValue353
 t213:=Tryz.underlying354
 a213:=Tryz.isAgg354
 z213:=Tryz.sizeOf354
 t232:=Tryz.underlying84
 a232:=Tryz.isAgg84
 z232:=Tryz.sizeOf84
 v232:=Tryz.zeroValue84
 t233:=Tryz.underlying374
 a233:=Tryz.isAgg374
 z233:=Tryz.sizeOf374
 v233:=Tryz.zeroValue374
 g17:=by kernel_rfl
 g18:=by kernel_rfl
 g19:=by kernel_rfl
 i0:=by kernel_rfl
 i2:=by kernel_rfl
 i3:=by kernel_rfl
 i4:=by kernel_rfl
 i5:=by kernel_rfl
 i9:=by kernel_rfl
 i20:=by kernel_rfl
 i37:=by kernel_rfl
 i46:=by kernel_rfl
 i51:=by kernel_rfl
 i53:=by kernel_rfl
 i171:=by kernel_rfl
 i173:=by kernel_rfl
 i212:=by kernel_rfl
 i232:=by kernel_rfl
 i233:=by kernel_rfl
 m17:=by kernel_rfl
 m18:=by kernel_rfl
 m19:=by kernel_rfl}
end Go.Proofs
namespace Go.Vc
variable {P:Program} {H H':ae}
theorem cP.method {v:Value} {name:String} {vs:Array Value} {f:FuncId} {args:List Value} {K:Value->ae->Prop} (hm: ∀ w,(callMethod v name vs).run P w=(callFunc f args.toArray).run P w) (h:az P f args H K):cP P (callMethod v name vs) H K:=
 ⟨fun w hw=>by rw[hm];exact h.out w hw⟩
end Go.Vc
namespace Go.Proofs.YtphkaogbcfdllaaGreatDoor
open Go Go.Vc Go.RowKit
theorem xH {n:Int} {K:Value->Prop} (hk:K (.tuple #[.pointer none,.bool false])):da Tryz.prog (Instr.typeAssert (.iface 34 (.int .i64 n)) 30 208 true) K:=⟨⟨_,fun w=>by kernel_rfl,hk⟩⟩
theorem xI {n:Int} {K:Value->Prop} (hk:K (.tuple #[.int .i64 n,.bool true])):da Tryz.prog (Instr.typeAssert (.iface 34 (.int .i64 n)) 30 34 true) K:=⟨⟨_,fun w=>by kernel_rfl,hk⟩⟩
theorem xJ {n:Int} {K:Value->Prop} (hk:K (.tuple #[.pointer none,.bool false])):da Tryz.prog (Instr.typeAssert (.iface 34 (.int .i64 n)) 30 220 true) K:=⟨⟨_,fun w=>by kernel_rfl,hk⟩⟩
theorem xK {p:Option Addr} {K:Value->Prop} (hk:K (.tuple #[.pointer p,.bool true])):da Tryz.prog (Instr.typeAssert (.iface 208 (.pointer p)) 30 208 true) K:=⟨⟨_,fun w=>by kernel_rfl,hk⟩⟩
theorem xM {p:Option Addr} {K:Value->Prop} (hk:K (.tuple #[.int .i64 0,.bool false])):da Tryz.prog (Instr.typeAssert (.iface 208 (.pointer p)) 30 34 true) K:=⟨⟨_,fun w=>by kernel_rfl,hk⟩⟩
theorem xN {p:Option Addr} {K:Value->Prop} (hk:K (.tuple #[.iface 208 (.pointer p),.bool true])):da Tryz.prog (Instr.typeAssert (.iface 208 (.pointer p)) 30 326 true) K:=⟨⟨_,fun w=>by kernel_rfl,hk⟩⟩
theorem xO {p:Option Addr} {K:Value->Prop} (hk:K (.tuple #[.nilIface,.bool false])):da Tryz.prog (Instr.typeAssert (.iface 208 (.pointer p)) 30 323 true) K:=⟨⟨_,fun w=>run_typeAssert_lacksB Tryz.underlying323 (by kernel_rfl) (by kernel_rfl) _ _ w,hk⟩⟩
theorem xP {p:Option Addr} {K:Value->Prop} (hk:K (.tuple #[.pointer none,.bool false])):da Tryz.prog (Instr.typeAssert (.iface 220 (.pointer p)) 30 208 true) K:=⟨⟨_,fun w=>by kernel_rfl,hk⟩⟩
theorem xQ {p:Option Addr} {K:Value->Prop} (hk:K (.tuple #[.int .i64 0,.bool false])):da Tryz.prog (Instr.typeAssert (.iface 220 (.pointer p)) 30 34 true) K:=⟨⟨_,fun w=>by kernel_rfl,hk⟩⟩
theorem xR {p:Option Addr} {K:Value->Prop} (hk:K (.tuple #[.pointer p,.bool true])):da Tryz.prog (Instr.typeAssert (.iface 220 (.pointer p)) 30 220 true) K:=⟨⟨_,fun w=>by kernel_rfl,hk⟩⟩
theorem xT {p:Option Addr} {K:Value->Prop} (hk:K (.tuple #[.nilIface,.bool false])):da Tryz.prog (Instr.typeAssert (.iface 220 (.pointer p)) 30 326 true) K:=⟨⟨_,fun w=>run_typeAssert_lacksB Tryz.underlying326 (by kernel_rfl) (by kernel_rfl) _ _ w,hk⟩⟩
theorem xU {p:Option Addr} {K:Value->Prop} (hk:K (.tuple #[.iface 220 (.pointer p),.bool true])):da Tryz.prog (Instr.typeAssert (.iface 220 (.pointer p)) 30 328 true) K:=⟨⟨_,fun w=>by kernel_rfl,hk⟩⟩
theorem xV {p:Option Addr} {K:Value->Prop} (hk:K (.tuple #[.nilIface,.bool false])):da Tryz.prog (Instr.typeAssert (.iface 220 (.pointer p)) 30 323 true) K:=⟨⟨_,fun w=>run_typeAssert_lacksB Tryz.underlying323 (by kernel_rfl) (by kernel_rfl) _ _ w,hk⟩⟩
theorem Uj (p:Option Addr) (w:World):(callMethod (.iface 208 (.pointer p)) "Unwrap" #[]).run Tryz.prog w=(callFunc 311 [.pointer p].toArray).run Tryz.prog w:=by kernel_rfl
theorem aeW (p:Option Addr) (w:World):(callMethod (.iface 220 (.pointer p)) "Unwrap" #[]).run Tryz.prog w=(callFunc 312 [.pointer p].toArray).run Tryz.prog w:=by kernel_rfl
abbrev lK:=List (Bs×Bs)
def re (H:ae):lK->(Value->Prop)->Value->Prop
 |[],P,v=>P v
 |x::ws,P,v=>∃ g v',v= .iface 208 (.pointer (some ⟨g,0,none⟩))/\bu H g #[.string (ag x.1),.string (ag x.2),v'] 210/\re H ws P v'
def Ed (n:Int) (v:Value):Prop:=v= .iface 34 (.int .i64 n)
inductive pQ
 |num (n:Int)
 |join (l:List (lK×Int))
def Av (H:ae):pQ->Value->Prop
 | .num n,v=>Ed n v
 | .join l,v=>∃ g a cap vs,v= .iface 220 (.pointer (some ⟨g,0,none⟩))/\bu H g #[.slice a l.length cap] 223/\l.length<=cap/\Row H a vs/\vs.length=l.length/\ ∀ (i:Nat) c v,l[i]? =some c->vs[i]? =some v->re H c.1 (Ed c.2) v
theorem re.mono {H H':ae} {P P':Value->Prop} (k:ax H H') (hP: ∀ v,P v->P' v): ∀ (ws:lK) (v:Value),re H ws P v->re H' ws P' v
 |[],v,h=>hP v h
 |x::ws,v,⟨g,v',h1,h2,h3⟩=>⟨g,v',h1,h2.ext k,re.mono k hP ws v' h3⟩
theorem Av.ext {H H':ae} (k:ax H H'): ∀ (b:pQ) (v:Value),Av H b v->Av H' b v
 | .num n,v,h=>h
 | .join l,v,⟨g,a,cap,vs,h1,h2,h3,h4,h5,h6⟩=>⟨g,a,cap,vs,h1,h2.ext k,h3,h4.ext k,h5,fun i c v hc hv=>re.mono k (fun _ h=>h) _ _ (h6 i c v hc hv)⟩
abbrev j7 (H:ae) (ws:lK) (b:pQ) (v:Value):Prop:=re H ws (Av H b) v
theorem j7.ext {H H':ae} {ws:lK} {b:pQ} {v:Value} (h:j7 H ws b v) (k:ax H H'):j7 H' ws b v:=re.mono k (Av.ext k b) ws v h
theorem aeX (n:Int) (H:ae):az Tryz.prog 117 [.iface 34 (.int .i64 n)] H fun v H'=>v= .bool (n==0)/\H=H':=by
 refine Vc.az.body Tryz.func117 Tryz.call117 rfl (by decide+kernel) rfl ?_;((conv=>whnf);repeat(any_goals((first|(with_reducible apply xH)|(with_reducible apply xI)|(with_reducible apply xJ)|(with_reducible apply zO)|(with_reducible apply zP)|(with_reducible apply zQ)|(with_reducible apply zR)|(with_reducible apply xK)|(with_reducible apply xM)|(with_reducible apply zT)|(with_reducible apply zU)|(with_reducible apply xN)|(with_reducible apply zV)|(with_reducible apply xO)|(with_reducible apply xP)|(with_reducible apply xQ)|(with_reducible apply xR)|(with_reducible apply zW)|(with_reducible apply xT)|(with_reducible apply xU)|(with_reducible apply xV)|refine Vc.aq ?_|refine Vc.bz ?_ ?_)<;>(intros;(conv=>whnf)))))
 exact⟨rfl,rfl⟩
theorem VG (p:Option Addr) (H:ae):az Tryz.prog 117 [.iface 208 (.pointer p)] H fun v H'=>v= .bool false/\H=H':=by
 refine Vc.az.body Tryz.func117 Tryz.call117 rfl (by decide+kernel) rfl ?_;((conv=>whnf);repeat(any_goals((first|(with_reducible apply xH)|(with_reducible apply xI)|(with_reducible apply xJ)|(with_reducible apply zO)|(with_reducible apply zP)|(with_reducible apply zQ)|(with_reducible apply zR)|(with_reducible apply xK)|(with_reducible apply xM)|(with_reducible apply zT)|(with_reducible apply zU)|(with_reducible apply xN)|(with_reducible apply zV)|(with_reducible apply xO)|(with_reducible apply xP)|(with_reducible apply xQ)|(with_reducible apply xR)|(with_reducible apply zW)|(with_reducible apply xT)|(with_reducible apply xU)|(with_reducible apply xV)|refine Vc.aq ?_|refine Vc.bz ?_ ?_)<;>(intros;(conv=>whnf)))))
 exact⟨rfl,rfl⟩
theorem ahx (p:Option Addr) (H:ae):az Tryz.prog 117 [.iface 220 (.pointer p)] H fun v H'=>v= .bool false/\H=H':=by
 refine Vc.az.body Tryz.func117 Tryz.call117 rfl (by decide+kernel) rfl ?_;((conv=>whnf);repeat(any_goals((first|(with_reducible apply xH)|(with_reducible apply xI)|(with_reducible apply xJ)|(with_reducible apply zO)|(with_reducible apply zP)|(with_reducible apply zQ)|(with_reducible apply zR)|(with_reducible apply xK)|(with_reducible apply xM)|(with_reducible apply zT)|(with_reducible apply zU)|(with_reducible apply xN)|(with_reducible apply zV)|(with_reducible apply xO)|(with_reducible apply xP)|(with_reducible apply xQ)|(with_reducible apply xR)|(with_reducible apply zW)|(with_reducible apply xT)|(with_reducible apply xU)|(with_reducible apply xV)|refine Vc.aq ?_|refine Vc.bz ?_ ?_)<;>(intros;(conv=>whnf)))))
 exact⟨rfl,rfl⟩
def DV:lK->pQ->Bool
 |[],.num n=>n==0
 |_,_=>false
theorem aeY {H:ae} {ws:lK} {b:pQ} {v:Value} (h:j7 H ws b v):az Tryz.prog 117 [v] H fun u H'=>u= .bool (DV ws b)/\H=H':=by
 match ws,b,h with
 |[],.num n,h=>obtain rfl:=h;exact aeX n H
 |[],.join l,h=>obtain⟨g,a,cap,vs,rfl,_⟩:=h;exact ahx _ H
 |x::ws,.num n,h=>obtain⟨g,v',rfl,_⟩:=h;exact VG _ H
 |x::ws,.join l,h=>obtain⟨g,v',rfl,_⟩:=h;exact VG _ H
theorem j7.iface {H:ae} {ws:lK} {b:pQ} {v:Value} (h:j7 H ws b v): ∃ t x,v= .iface t x:=by
 match ws,b,h with
 |[],.num n,h=>exact⟨_,_,h⟩
 |[],.join l,h=>obtain⟨g,a,cap,vs,rfl,_⟩:=h;exact⟨_,_,rfl⟩
 |x::ws,_,h=>obtain⟨g,v',rfl,_⟩:=h;exact⟨_,_,rfl⟩
theorem N7 (op nm:Bs) {H:ae} {ws:lK} {b:pQ} {v:Value} (h:j7 H ws b v):az Tryz.prog 62 [.string (ag op),.string (ag nm),v] H fun u H'=>(if DV ws b then u= .nilIface else j7 H' ((op,nm)::ws) b u)/\ax H H':=by
 have hn:=fun H' (k:ax H H')=>aeY (h.ext k);obtain⟨ty,pl,rfl⟩:=h.iface;cases hb:DV ws b with
 |true=>
  rw[hb]at hn;refine Vc.az.body Tryz.func62 Tryz.call62 rfl (by decide+kernel) rfl ?_;((conv=>whnf);repeat(any_goals((first|(refine(hn _ (by exact Vc.xt)).mono ?_;rintro _ _ ⟨rfl,rfl⟩)|refine Vc.aq ?_|refine Vc.bz ?_ ?_)<;>(intros;(conv=>whnf)))))
  exact⟨rfl,ax.refl _⟩
 |false=>
  rw[hb]at hn;refine Vc.az.body Tryz.func62 Tryz.call62 rfl (by decide+kernel) rfl ?_;((conv=>whnf);repeat(any_goals((first|(refine(hn _ (by exact Vc.xt)).mono ?_;rintro _ _ ⟨rfl,rfl⟩)|(refine da.build #[.string (ag op),.string (ag nm),.iface ty pl] (by kernel_rfl) ?_)|refine Vc.aq ?_|refine Vc.bz ?_ ?_)<;>(intros;(conv=>whnf)))))
  rename_i H1 jr eC cd;exact⟨⟨_,_,rfl,eC,h.ext cd⟩,cd⟩
end Go.Proofs.YtphkaogbcfdllaaGreatDoor
namespace Go.Proofs.YtphkaogbcfdllaaGreatDoor
open Go Go.Vc Go.RowKit Go.Sort
structure kS (H:ae):Prop where
 et:hcell H ⟨0,0,none⟩=some (.iface 318 (.agg #[.pointer (some ⟨7,30,none⟩)]))
 tab: ∃ t fr,H[1]? =some (.cells (Lib.pow10Tab.map fun z=>Value.int .u64 z).toArray t fr)
theorem kS.ext {H H':ae} (h:kS H) (k:ax H H'):kS H':=by
 refine⟨jj h.et k id,?_⟩;obtain⟨t,fr,h1⟩:=h.tab;exact⟨t,fr,by rw[k.same 1 (aP.1 h1).1 id];exact h1⟩
theorem abW (w:World) (k:Nat) (os:Array Obj):dC w (grow (w.drewN k) os)/\ax w.heap (grow (w.drewN k) os).heap:=by
 have h:(w.drewN k).heap=w.heap/\(w.drewN k).os=w.os/\(w.drewN k).tape=w.tape/\(w.drewN k).output=w.output:=⟨rfl,rfl,rfl,rfl⟩;obtain⟨h1,h2,h3,h4⟩:=h;refine⟨⟨h2,h3,h4⟩,?_,fun b hb _=> ?_⟩
 .show w.heap.size<=((w.drewN k).heap++os).size;rw[h1,Array.size_append];omega
 .show((w.drewN k).heap++os)[b]? =_;rw[h1,eu hb]
theorem zv {H:ae} (hg:kS H) (n:Int) (h0: -9223372036854775808<=n) (h1:n<=9223372036854775807):az Tryz.prog 63 [.int .i64 n] H fun v H'=>v= .string (ag (Lib.itoa n))/\ax H H':=by
 refine az.calls Tryz.call63 fun w hw=> ?_;obtain⟨t,fr,ht⟩:=hg.tab;refine Calls.mono (Any.strconv_Itoa Tryz.aeV n h0 h1 w ?_) ?_
 .show(Option.bind (some _) _)=_;rw[hw];simp[ht]
 .rintro e w' ⟨h1,k,os,rfl⟩;obtain⟨h2,h3⟩:=abW w k os;exact⟨_,h1,h2,rfl,hw▸h3⟩
def EM (n:Int):Prop:= -9223372036854775808<=n/\n<=9223372036854775807
theorem Ku: ∀ (k u:Nat),u<10 ^ (k+1)->(Lib.decDigits u).length<=k+1
 |k,u,h=>by
  rw[Lib.decDigits];split
  .simp
  .cases k with
   |zero=>omega
   |succ k=>
    have:=Ku k (u / 10) (by rw[Nat.pow_succ]at h;omega);simp;omega
theorem uH (n:Int) (h:EM n):(Lib.itoa n).length<=30:=by
 unfold EM at h;unfold Lib.itoa;split
 .have:=Ku 18 n.natAbs (by show n.natAbs<10 ^ 19;omega);simp;omega
 .have:=Ku 18 n.toNat (by show n.toNat<10 ^ 19;omega);omega
def Small (ws:lK):Prop:=ws.length<=20/\ ∀ x∈ws,x.1.length<=100/\x.2.length<=100
theorem Small.tail {x:Bs×Bs} {ws:lK} (h:Small (x::ws)):Small ws:=⟨by have:=h.1;simp only[ay]at this;omega,fun y hy=>h.2 y (by simp[hy])⟩
end Go.Proofs.YtphkaogbcfdllaaGreatDoor
