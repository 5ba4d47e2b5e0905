import Derived.Test.YtphkaogbcfdllaaGreatDoorKb
import Derived.Laws.IdiomStrings
import Derived.Laws.BytesString
import Derived.Stop.BytesEq
import Derived.OpenShut
import Derived.Laws.Tables
import Derived.Test.YtphkaogbcfdllaaGreatDoorKa
import Derived.Laws.Strings
import Derived.Test.YtphkaogbcfdllaaGreatDoorRows
import Derived.KernelRfl
set_option linter.unusedVariables false
set_option linter.unusedSimpArgs false
set_option maxRecDepth 100000
/- Heaps, more: make, copy, strings and bytes, equality. -/
namespace Go.Vc
variable {P:Program} {H H':ae}
theorem ik (l:List UInt8):(cv l).length=l.length:=by simp[cv]
theorem rh (l m:List UInt8):cv (l++m)=cv l++cv m:=by simp[cv]
theorem zi (l:List UInt8) (k:Nat):(cv l).take k=cv (l.take k):=by simp[cv]
theorem JL (l:List UInt8) (k:Nat):(cv l).drop k=cv (l.drop k):=by simp[cv]
theorem mj (l:List UInt8): ∀ u∈cv l,jt u=true:=by
 intro u hu;obtain⟨b,_,rfl⟩:=bH.1 hu;rfl
theorem xu {l:List UInt8} {j:Nat} (h:j<l.length):(cv l)[j]? =some (.int .u8 (l.getD j 0).toNat):=by
 simp[cv,h]
theorem aE.S5 {s d e:TypeId} {a:Option Addr} {c:Nat} {l:List UInt8} {K:Value->ae->Prop} (hs:P.underlying s=some (.slice e)) (he:P.underlying e=some (.int .u8)) (hd:P.underlying d=some .string)
  (hr:Row H a (cv l)) (hk:K (.string ⟨l.toArray⟩) H):aE P (convert s d (.slice a l.length c)) H K:=by
 refine⟨fun w hw=>⟨_,w,?_,dC.refl w,hw▸hk⟩⟩;cases a with
 |none=>
  rcases hr.out with h|⟨_,_,ha,_⟩
  .have:l=[]:=by simpa [cv]using h
   subst this;simp[convert,ft hs,ft hd,ft he,Conv.bytesToString];rfl
  .cases ha
 |some p=>
  by_cases h0:l=[]
  .subst h0;exact run_convert_bytes_back w s d e p c [] hs he hd (fun j hj=>by simp at hj)
  .rcases hr.out with h|⟨b,o,ha,h⟩
   .exact absurd (by simpa [cv]using h) h0
   .cases ha;refine run_convert_bytes_back w s d e _ c l hs he hd (fun j hj=> ?_);rw[rA,vJ,hw];refine h j _ ?_;rw[xu hj];simp[hj]
theorem aE.of_string {s d e:TypeId} {t:ByteArray} {K:Value->ae->Prop} (hs:P.underlying s=some .string) (hd:P.underlying d=some (.slice e)) (he:P.underlying e=some (.int .u8)) (hm:t.size<=maxLen)
  (hk: ∀ cap H',cq H' H.size e 1 (some ⟨H.size,0,none⟩) t.size cap (cv t.data.toList)->ax H H'->K (.slice (some ⟨H.size,0,none⟩) t.size cap) H'):aE P (convert s d (.string t)) H K:=by
 refine⟨fun w hw=>⟨_,_,run_bytes_of_string w s d e t hs hd he,⟨rfl,rfl,rfl⟩,?_⟩⟩;subst hw;have kq:=grownCap_ge w t.size 0 e;have AV:grownCap w t.size 0 e<=maxLen:=grownCap_le_maxLen w t.size 0 e hm;have ez:(bytesRow t (grownCap w t.size 0 e)).size=grownCap w t.size 0 e:=by
  have:t.data.size=t.size:=rfl;simp[bytesRow,this];omega
 refine hk _ _ ⟨by simp[cv],.inr ⟨_,bytesRow t (grownCap w t.size 0 e),rfl,aB _,⟨_,rj _ _,.inr (aB _)⟩,kq,AV,by rw[ez];simp,?_⟩⟩ (cD.push _ _ _);have:t.data.toList.length=t.size:=by simp
 simp[bytesRow,cv,this]
theorem aE.make {t e:TypeId} {i:TypeInfo} {z:Value} {kl kc:IntKind} {n:Nat} {K:Value->ae->Prop} (ht:P.underlying t=some (.slice e)) (hi:P.info? e=some i) (hz:i.zero=some z) (hb:i.bytes*n<=281474976710656) (hm:n<=maxLen)
  (hk: ∀ H',cq H' H.size e i.size (some ⟨H.size,0,none⟩) n n (madeCells z.cells (n*i.size)).toList->ax H H'->K (.slice (some ⟨H.size,0,none⟩) n n) H'):aE P (Instr.makeSlice t (.int kl n) (.int kc n)) H K:=by
 refine⟨fun w hw=> ?_⟩;have Ao:(n:Int)<=9223372036854775807:=by
  have h:=hm;simp[maxLen]at h;omega
 have Cw:(i.bytes:Int)*(n:Int)<=281474976710656:=by
  have h:((i.bytes*n:Nat):Int)<=281474976710656:=by omega
  rwa[Int.natCast_mul]at h
 have hr:=run_make (P:=P) w t e i z ht hi hz kl kc n n (by omega) (fM _) Cw Ao;simp only[eU]at hr;subst hw;have hl:(madeCells z.cells (n*i.size)).size=n*i.size:=size_madeCells _ _;exact⟨_,_,hr,⟨rfl,rfl,rfl⟩,hk _ ⟨by simpa using hl,.inr ⟨_,_,rfl,aB _,bu.new (rj _ _),aB _,hm,hl,by rw[aL (by simp[hl])]⟩⟩ (cD.push _ _ _)⟩
theorem cP.copy {t u e ty:TypeId} {i:TypeInfo} {a:Option Addr} {n cap m:Nat} {x:Value} {g o:Nat} {eE:Array Value} {et:TypeId} {k:Nat} {cs:List Value} {cb:Array Bool} {K:Value->ae->Prop}
  (ht:P.underlying t=some (.slice e)) (hi:P.info? e=some i) (hl: ∀ w,(Builtin.lenOf x).run P w= .ok m w) (AW:k=Nat.min m n) (hlen:cs.length=k*i.size) (hf: ∀ w:World,w.heap=H->(Builtin.firstCells i.size k x).run P w= .ok cs.toArray w)
  (ha:0<cs.length->a=some ⟨g,o,none⟩) (hg:bu H g eE et) (kV:o+cs.length<=eE.size) (hp: ∀ u∈cs,jt u=true)
  (hk: ∀ H',H'.size=H.size->bu H' g (over eE o cs) et->fw g H H'->K (.int .i64 k) H'):cP P (builtin .copy #[t,u] ty cb #[.slice a n cap,x]) H K:=by
 refine⟨fun w hw=> ?_⟩;have goal: ∀ {w'},(Builtin.copy_ #[t,u] ty #[.slice a n cap,x]).run P w= .ok (.int .i64 k) w'->dC w w'->K (.int .i64 k) w'.heap->r3 P w K ((builtin .copy #[t,u] ty cb #[.slice a n cap,x]).run P w):=by
  intro w' hr hs hk;simp only[builtin,Sem.run_bind,hr,Result.andThen_ok];exact⟨hs,hk⟩
 have Cz:=hf w hw;rw[AW]at Cz;by_cases h0:cs.length=0
 .have hcs:cs=[]:=bF h0;subst hcs;refine goal (w':=w) ?_ (dC.refl w) (by rw[hw];exact hk H rfl hg (cD.refl _ _));simp only[Builtin.copy_,fZ,dB,gG,Sem.run_bind,ft ht,Result.andThen_ok,hl,mP hi,Cz];cases a with
  |none=>simp[goInt,AW]
  |some p=>simp[storeCells,goInt,AW]
 .have ha:=ha (by omega);subst ha;obtain⟨fr,pb,rI⟩:=hg.out;obtain⟨w',hr,hs,_,rH⟩:=Jl (P:=P) g et fr cs o 0 w eE (by rw[hw];exact pb) rI hp (by omega);refine goal (w':=w') ?_ hs ?_
  .simp only[Builtin.copy_,fZ,dB,gG,Sem.run_bind,ft ht,Result.andThen_ok,hl,mP hi,Cz,hr];simp[goInt,AW]
  .rw[rH,hw];refine hk _ (by simp) ⟨fr,?_,by rw[Dh];exact rI⟩ (cD.set _ _ _);rw[bO hg.lt];rfl
theorem dc.uA {t e:TypeId} {i:TypeInfo} {base g n cap:Nat} {xs:List Value} {o:Nat} {v:Value} {K:ae->Prop} (ho:cq H base e 1 (some ⟨g,0,none⟩) n cap xs) (hi:P.info? t=some i) (hn:i.size=1) (hp:jt v=true) (hl:o<n)
  (hk: ∀ H',H'.size=H.size->cq H' base e 1 (some ⟨g,0,none⟩) n cap (xs.set o v)->fw g H H'->K H'):dc P (Instr.storeAt t (.pointer (some ⟨g,o,none⟩)) v) H K:=by
 rcases ho.out with ⟨ha,_⟩|⟨g',eE,ha,hb,hg,Cx,Ev,hcs,BS⟩
 .cases ha
 .cases ha;refine dc.jB hg hi hn hp (by omega) fun H' h1 h2 h3=>hk H' h1 ⟨by simpa using ho.len,.inr ⟨_,_,rfl,hb,h2,Cx,Ev,by simpa using hcs,?_⟩⟩ h3;rw[<-BS,bQ,Array.toList_setIfInBounds];apply fF;intro j;simp only[dU,List.getElem?_set,aJ];have ez:eE.toList.length=cap:=by simpa using hcs
  by_cases hj:o=j
  .subst hj;rw[av hl,av rfl,av rfl,av (by omega),av (by omega)]
  .rw[ak hj,ak hj]
theorem S6 (cs:Array Value): ∀ (l:List Value) (off j:Nat) (c:Array Value),(l.zipIdx j).foldl (fun cs (p:Value×Nat)=>cs.setIfInBounds (off+p.2) p.1) c=over c (off+j) l
 |[],_,_,_=>rfl
 |x::l,off,j,c=>by
  simp only[List.zipIdx_cons,gU,over];exact S6 cs l off (j+1) _
theorem RX: ∀ (l m:List Value) (c:Array Value) (o:Nat),over c o (l++m)=over (over c o l) (o+l.length) m
 |[],m,c,o=>rfl
 |x::l,m,c,o=>by
  simp only[fO,over,ay];rw[RX l m,show o+(l.length+1)=o+1+l.length by omega]
theorem MZ (s:Nat): ∀ (vs:List Value) (k:Nat) (c:Array Value),(∀ v∈vs,v.cells.size=s)->(k+vs.length)*s<=c.size->
  Instr.fill (fun j=>some (j*s,s)) c ((List.range' k vs.length).zip vs)=some (over c (k*s) (vs.flatMap fun v=>v.cells.toList))
 |[],k,c,_,_=>rfl
 |v::vs,k,c,h,hl=>by
  have hv:v.cells.size=s:=h v (by simp);simp only[ay,List.range'_succ,List.zip_cons_cons,Instr.fill];have h1:(k+1)*s<=(k+(vs.length+1))*s:=eZ _ (by omega);rw[fK,Nat.one_mul]at h1;simp only[ay]at hl;rw[ak (by simp[hv];omega)];have e:v.cells.zipIdx.foldl (fun cs (p:Value×Nat)=>cs.setIfInBounds (k*s+p.2) p.1) c=over c (k*s) v.cells.toList:=by
   have:=S6 #[] v.cells.toList (k*s) 0 c;rw[Nat.add_zero]at this;rw[<-this,<-Array.foldl_toList,Array.toList_zipIdx]
  rw[e];rw[MZ s vs (k+1) (over c (k*s) v.cells.toList) (fun u hu=>h u (by simp[hu])) (by rw[Dh];rwa[show k+1+vs.length=k+(vs.length+1)by omega])];rw[eG,RX];congr 2;rw[dR,hv,fK,Nat.one_mul]
theorem NU {s:Nat}: ∀ {vs:List Value},(∀ v∈vs,v.cells.size=s)->(vs.flatMap fun v=>v.cells.toList).length=vs.length*s
 |[],_=>by simp
 |v::vs,h=>by
  rw[eG,au,NU (fun u hu=>h u (by simp[hu])),dR,h v (by simp),ay,fK];omega
theorem aE.lit {t e:TypeId} {i:TypeInfo} {z:Value} {n:Nat} {parts:Array (Nat×Value)} {vs:List Value} {K:Value->ae->Prop} (ht:P.underlying t=some (.slice e)) (hi:P.info? e=some i) (hz:i.zero=some z) (hn:vs.length=n)
  (hp:parts.toList=(List.range' 0 vs.length).zip vs) (jd:Nat.ble (n*i.size) 16777216=true) (hc:(vs.all fun v=>Nat.beq v.cells.size i.size)=true)
  (hk: ∀ H',H'.size=H.size+1->bu H' H.size (vs.flatMap fun v=>v.cells.toList).toArray e->ax H H'->K (.slice (some ⟨H.size,0,none⟩) n n) H'):aE P (Instr.buildSlice t n parts) H K:=by
 have jd:=aS jd;have hc: ∀ v∈vs,v.cells.size=i.size:=fun v hv=>dW (cB.1 hc v hv);refine aE.buildSlice (cs:=(vs.flatMap fun v=>v.cells.toList).toArray) ht hi hz (by omega) ?_ hk;rw[hp,MZ i.size vs 0 _ hc (by rw[hn];simp)];congr 1;have h0:0*i.size=0:=gX _;rw[h0];refine NT _ (vs.flatMap fun v=>v.cells.toList).toArray ?_;simp only[cK,Array.size_map,Array.size_range];rw[NU hc,hn]
theorem cm.bytes {a:Option Addr} {l:List UInt8} {n:Nat} {i:Int} {K:Addr->Prop} (h:Row H a (cv l)) (hn:l.length=n) (h0:0<=i) (h1:i<n)
  (hk: ∀ b o,a=some ⟨b,o,none⟩->hcell H ⟨b,o+i.toNat,none⟩=some (.int .u8 (l.getD i.toNat 0).toNat)->K ⟨b,o+i.toNat,none⟩):cm a n 1 i K:=by
 obtain⟨b,o,ha,hb,hc⟩:=h.at (by rw[ik];omega);refine⟨h0,h1,⟨b,o,none⟩,ha,?_⟩;rw[rA,bQ];exact hk b o ha (hc _ _ (xu (by omega)))
theorem aE.mC {t e:TypeId} {b o:Nat} {c:Array Value} {v:Value} {K:Value->ae->Prop} (hb:bu H b c e) (hT:wg P t=some false) (hv:c[o]? =some v) (hk:K v H):aE P (Instr.loadAt t (.pointer (some ⟨b,o,none⟩))) H K:=
 aE.load hT (by rw[hb.cell];exact hv) hk
def qM (n:Nat) (f:Nat->Value) (z:Value) (k:Nat):Array Value:=Array.ofFn (n:=n) fun i=>if i.val<k then f i.val else z
theorem yZ (n:Nat) (f:Nat->Value) (z:Value) (k:Nat):(qM n f z k).size=n:=by simp[qM]
theorem JM (n:Nat) (f:Nat->Value) (z:Value) (k i:Nat) (h:i<n):(qM n f z k)[i]? =some (if i<k then f i else z):=by
 simp[qM,h]
theorem NV (n:Nat) (f:Nat->Value) (z:Value) (k i:Nat) (h:i<n) (hk:i<k):(qM n f z k)[i]? =some (f i):=by
 rw[JM _ _ _ _ _ h,av hk]
theorem JN (n:Nat) (f:Nat->Value) (z:Value) (k:Nat) (h:k<n):(qM n f z k).setIfInBounds k (f k)=qM n f z (k+1):=by
 apply dP;intro i;by_cases hi:i<n
 .rw[JM _ _ _ _ _ hi];by_cases hk:k=i
  .subst hk;rw[bO (by rw[yZ];exact h),av (by omega)]
  .rw[eX hk,JM _ _ _ _ _ hi];by_cases h1:i<k
   .rw[av h1,av (by omega)]
   .rw[ak h1,ak (by omega)]
 .rw[bN (by rw[cZ,yZ];omega),bN (by rw[yZ];omega)]
theorem Sn (n:Nat) (f:Nat->Value) (z:Value):qM n f z 0=Array.replicate n z:=by
 apply dP;intro i;by_cases hi:i<n
 .rw[JM _ _ _ _ _ hi,ak (by omega)];simp[hi]
 .rw[bN (by rw[yZ];omega),bN (by simp;omega)]
def tab (n:Nat) (f:Nat->Value):Array Value:=Array.ofFn (n:=n) fun i=>f i.val
theorem nX (n:Nat) (f:Nat->Value):(tab n f).size=n:=by simp[tab]
theorem xy (n:Nat) (f:Nat->Value) (i:Nat) (h:i<n):(tab n f)[i]? =some (f i):=by simp[tab,h]
theorem FQ (n:Nat) (f g:Nat->Value) (k:Nat) (v:Value) (hv:g k=v) (h: ∀ i,i<n->i≠k->f i=g i):(tab n f).setIfInBounds k v=tab n g:=by
 apply dP;intro i;by_cases hi:i<n
 .rw[xy _ _ _ hi];by_cases hk:k=i
  .subst hk;rw[bO (by rw[nX];exact hi),hv]
  .rw[eX hk,xy _ _ _ hi,h i hi (fun e=>hk e.symm)]
 .rw[bN (by rw[cZ,nX];omega),bN (by rw[nX];omega)]
theorem S7 (n:Nat) (f g:Nat->Value) (h: ∀ i,i<n->f i=g i):tab n f=tab n g:=by
 apply dP;intro i;by_cases hi:i<n
 .rw[xy _ _ _ hi,xy _ _ _ hi,h i hi]
 .rw[bN (by rw[nX];omega),bN (by rw[nX];omega)]
theorem aaq (n:Nat) (z:Value):tab n (fun _=>z)=Array.replicate n z:=by
 apply dP;intro i;by_cases hi:i<n
 .rw[xy _ _ _ hi];simp[hi]
 .rw[bN (by rw[nX];omega),bN (by simp;omega)]
theorem S8 (n:Nat) (f:Nat->Value) (h: ∀ i,jt (f i)=true): ∀ u∈(tab n f).toList,jt u=true:=by
 intro u hu;simp[tab,List.mem_ofFn]at hu;obtain⟨i,rfl⟩:=hu;exact h _
theorem ael (n:Nat) (f:Nat->UInt8):tab n (fun i=> .int .u8 (f i).toNat)=(cv ((List.range n).map f)).toArray:=by
 apply dP;intro i;by_cases hi:i<n
 .rw[xy _ _ _ hi,fZ,xu (by simpa using hi)];simp[hi]
 .rw[bN (by rw[nX];omega),bN (by simp[cv];omega)]
theorem S9 (l:List UInt8):l.map Extern.Stop.cell=cv l:=rfl
theorem da.acE {t e:TypeId} {i:TypeInfo} {n:Nat} {ox oy:Operand} {xs ys:List UInt8} {K:Value->Prop} (ht:P.underlying t=some (.array n e)) (he:P.underlying e=some (.int .u8)) (hi:P.info? e=some i) (h1:i.size=1)
  (hg:P.eqGuardType P.depth t=false) (hx:xs.length=n) (hy:ys.length=n) (hk:K (.bool (xs==ys))):
  da P (do eqGuard .eql t ox oy (.agg (cv xs).toArray) (.agg (cv ys).toArray);binOp .eql t (.agg (cv xs).toArray) (.agg (cv ys).toArray)) K:=by
 refine⟨_,fun w=> ?_,hk⟩;simp only[Sem.run_bind,run_eqGuard_agg w .eql t ox oy _ _ hg,Result.andThen_ok];exact run_eql_bytes w t e n ht he (fun w=>by rw[mP hi,h1]) xs ys hx hy
theorem da.Nn {t e:TypeId} {i:TypeInfo} {n:Nat} {ox oy:Operand} {xs ys:List UInt8} {K:Value->Prop} (ht:P.underlying t=some (.array n e)) (he:P.underlying e=some (.int .u8)) (hi:P.info? e=some i) (h1:i.size=1)
  (hg:P.eqGuardType P.depth t=false) (hx:xs.length=n) (hy:ys.length=n) (hk:K (.bool (!(xs==ys)))):
  da P (do eqGuard .neq t ox oy (.agg (cv xs).toArray) (.agg (cv ys).toArray);binOp .neq t (.agg (cv xs).toArray) (.agg (cv ys).toArray)) K:=by
 refine⟨_,fun w=> ?_,hk⟩;simp only[Sem.run_bind,run_eqGuard_agg w .neq t ox oy _ _ hg,Result.andThen_ok];rw[run_neq_struct];have:=run_equalIn_bytes w 9998 t e n ht he (fun w=>by rw[mP hi,h1]) xs ys hx hy;rw[S9,S9]at this;rw[this];rfl
end Go.Vc
namespace Go.Vc
theorem acF (n:Nat):(madeCells (Value.int .u8 0).cells (n*1)).toList=cv (List.replicate n 0):=by
 apply fF;intro j;rw[bQ,dL];simp only[madeCells,Array.getElem?_map,Array.getElem?_range,cv,List.map_replicate,List.getElem?_replicate];split
 .show some ((#[Value.int .u8 0])[j % 1]!)=_;rw[Nat.mod_one];rfl
 .simp
theorem cm.mX {g o n:Nat} {i:Int} {K:Addr->Prop} (j:Nat) (hi:i=j) (hj:j<n) (hk:K ⟨g,o+j,none⟩):cm (some ⟨g,o,none⟩) n 1 i K:=by
 subst hi;exact⟨by omega,by omega,_,rfl,by rw[rA,eU,bQ];exact hk⟩
theorem cq.hcell {H:ae} {base g n cap:Nat} {e:TypeId} {size:Nat} {xs:List Value} (h:cq H base e size (some ⟨g,0,none⟩) n cap xs) {i:Nat} {v:Value} (hv:xs[i]? =some v):hcell H ⟨g,0+i,none⟩=some v:=by
 rcases h.row.out with h0|⟨b,o,ha,hc⟩
 .subst h0;cases hv
 .cases ha;exact hc i v hv
theorem ml {P:Program} {H:ae} {s d e:TypeId} {a:Option Addr} {n c:Nat} {l:List UInt8} {K:Value->ae->Prop} (hs:P.underlying s=some (.slice e)) (he:P.underlying e=some (.int .u8)) (hd:P.underlying d=some .string)
  (hr:Row H a (cv l)) (hn:l.length=n) (hk:K (.string ⟨l.toArray⟩) H):aE P (convert s d (.slice a n c)) H K:=by
 subst hn;exact aE.S5 hs he hd hr hk
theorem Vy (x y:Int):0<=du .u8 .xor x y/\du .u8 .xor x y<256:=by
 have h:=bounds_u8 (wf_bits .xor .u8 x y);have e:du .u8 .xor x y=bits .xor .u8 x y:=rfl;omega
theorem agb {H:ae} {g base:Nat} {e:TypeId} {size:Nat} (h:bu H g #[] e) (hb:base<=g):cq H base e size (some ⟨g,0,none⟩) 0 0 []:=
 ⟨by simp,.inr ⟨g,#[],rfl,hb,h,aB _,aI _,by simp,by simp⟩⟩
theorem da.build {P:Program} {t:TypeId} {parts:Array (Nat×Value)} {K:Value->Prop} (cells:Array Value) (h:P.built t parts.toList=some cells) (hk:K (.agg cells)):da P (Instr.build t parts) K:=
 ⟨_,fun w=>run_build w t parts cells h,hk⟩
theorem dc.UY {P:Program} {H:ae} {t e:TypeId} {i:TypeInfo} {b:Nat} {c cs:Array Value} {K:ae->Prop} (hb:bu H b c e) (hi:P.info? t=some i) (hn:cs.size=i.size) (hc:c.size=cs.size) (hp:cs.toList.all jt=true)
  (hk: ∀ H',H'.size=H.size->bu H' b cs e->fw b H H'->K H'):dc P (Instr.storeAt t (.pointer (some ⟨b,0,none⟩)) (.agg cs)) H K:=dc.pW hb hi hn hc (cB.1 hp) hk
end Go.Vc
namespace Go.Lx
section
variable {P:Program} {ops:Array Oper}
def look:List (Nat×List Nat)->Nat->List Nat
 |[],_=>[]
 |(j,l)::r,i=>match Nat.beq i j with
  |true=>l
  |false=>look r i
def DJ (held:List (Nat×List Nat)) (x:Nat):Bool:=held.any fun p=>p.2.contains x
theorem Np {held:List (Nat×List Nat)} {i m:Nat} (h:m∈look held i):DJ held m=true:=by
 induction held with
 |nil=>simp[look]at h
 |cons p r ih=>
  obtain⟨j,l⟩:=p;unfold look at h;unfold DJ;rw[List.any_cons,dz];split at h
  .exact .inl (by simpa using h)
  .exact .inr (ih h)
def pd (P:Program) (ops:Array Oper) (j:Nat) (a:Act) (w:World):Prop:=
 ∃ o,ops[j]? =some o/\ ∃ u,zw P ops w o u a/\ ∀ d,o.dst=some d->a.tmps.size<=d\/a.tmps[d]? =some u
def TH (P:Program) (ops:Array Oper) (held:List (Nat×List Nat)) (K:Act->World->Prop):List Nat->Act->World->Prop
 |[]=>K
 |i::l=>step P ops i fun a w=>(∀ j∈look held i,pd P ops j a w)/\TH P ops held K l a w
def xX (ops:Array Oper) (m y:Oper):Bool:=match y.dst with
 |some d=> !(m.looksAt ops).contains d&&m.dst != some d
 |none=>true
def ownB (ops:Array Oper) (m:Oper):Bool:=match m.dst with
 |some d=> !(m.looksAt ops).contains d
 |none=>true
theorem abt {m y:Oper} (h:xX ops m y=true): ∀ d,y.dst=some d->d∉m.looksAt ops/\m.dst≠some d:=by
 intro d hd;unfold xX at h;rw[hd]at h;simp only[bC,Bool.not_eq_true',dM]at h;refine⟨fun hm=> ?_,h.2⟩;have:=h.1;rw[List.contains_eq_mem]at this;simp[hm]at this
theorem acG {m:Oper} (h:ownB ops m=true): ∀ d,m.dst=some d->d∉m.looksAt ops:=by
 intro d hd hm;unfold ownB at h;rw[hd]at h;simp[hm]at h
theorem RY {a:Act} {d:Option Tmp} {v:Value} {i:Nat} (h:d≠some i):(a.put d v).tmps[i]? =a.tmps[i]? :=by
 cases d with
 |none=>rfl
 |some t=>
  simp only[Act.put];rw[fH,ak (fun e=>h (by rw[e]))]
theorem RE {a:Act} {d:Option Tmp} {v:Value}:(a.put d v).tmps.size=a.tmps.size:=by cases d<;>simp[Act.put]
theorem pd.put {m:Nat} {om y:Oper} (hm:ops[m]? =some om) (hs:uP om) (hh:xX ops om y=true) {a:Act} {w:World} {v:Value}:pd P ops m (a.put y.dst v) w↔pd P ops m a w:=by
 have h1:=abt hh;have hsl: ∀ d,om.dst=some d->y.dst≠some d:=fun d hd he=>(h1 d he).2 hd;constructor
 .rintro⟨o,ho,u,hy,Px⟩;have:o=om:=bW (ho.symm.trans hm);subst this;refine⟨o,ho,u,(Bj hs (fun d hd=>(h1 d hd).1)).1 hy,fun d hd=> ?_⟩;have:=Px d hd;rwa[RE,RY (hsl d hd)]at this
 .rintro⟨o,ho,u,hy,Px⟩;have:o=om:=bW (ho.symm.trans hm);subst this;refine⟨o,ho,u,(Bj hs (fun d hd=>(h1 d hd).1)).2 hy,fun d hd=> ?_⟩;rw[RE,RY (hsl d hd)];exact Px d hd
theorem aar {a:Act} {d:Option Tmp} {u v:Value} (h: ∀ t,d=some t->(a.put d v).tmps.size<=t\/(a.put d v).tmps[t]? =some u):a.put d v=a.put d u:=by
 cases d with
 |none=>rfl
 |some t=>
  rcases h t rfl with h|h
  .simp only[Act.put]at h ⊢;rw[cZ]at h;rw[Array.setIfInBounds_eq_of_size_le h,Array.setIfInBounds_eq_of_size_le h]
  .simp only[Act.put]at h ⊢;have ct:t<a.tmps.size:=by
    have:=(aP.1 h).1;rwa[cZ]at this
   rw[bO ct]at h;rw[bW h]
variable {held:List (Nat×List Nat)} {K:Act->World->Prop}
theorem V0 (pos:Nat->Nat) (qe: ∀ (j:Nat) (o:Oper),ops[j]? =some o->uP o) (KG: ∀ (j:Nat) (o:Oper),ops[j]? =some o->kind P o.op≠2->look held j=[])
  {i:Nat} {oi:Oper} (hi:ops[i]? =some oi) (post:List Nat):
  ∀ (pre:List Nat),pre.Pairwise (fun x y=>pos x<pos y)->
   (∀ x∈pre,∃ ox,ops[x]? =some ox/\(comm P ops ox oi=true\/(kind P ox.op=1/\kind P oi.op=2/\x∈look held i/\ox.apart ops oi=true/\ownB ops ox=true)))->
   (∀ x∈pre,∀ m∈look held x,∃ om,ops[m]? =some om/\xX ops om oi=true)->
   (∀ m∈look held i,∀ y∈pre,(pos m<pos y\/m∉pre)-> ∃ om oy,ops[m]? =some om/\ops[y]? =some oy/\xX ops om oy=true)->
   ∀ (a:Act) (w:World),TH P ops held K (pre++i::post) a w->step P ops i (fun a w=>(∀ m∈look held i,m∉pre->pd P ops m a w)/\TH P ops held K (pre++post) a w) a w
 |[],_,_,_,_,a,w,h=>vI (fun a w hk=>⟨fun m hm _=>hk.1 m hm,hk.2⟩) h
 |x::pre,Gf,hc,cH,bw,a,w,h=>by
  obtain⟨Lv,ahm⟩:=bI.1 Gf;have Qm:x∉pre:=fun hm=>by have:=Lv x hm;omega
  obtain⟨ox,jI,qs⟩:=hc x (by simp);have ih:=V0 pos qe KG hi post pre ahm (fun y hy=>hc y (by simp[hy])) (fun y hy=>cH y (by simp[hy])) (fun m hm y hy rK=>bw m hm y (by simp[hy]) (by
   rcases rK with h|h
   .exact .inl h
   .by_cases yC:m=x
    .subst yC;exact .inl (Lv y hy)
    .exact .inr (by simp[yC,h])))
  have h':step P ops x (fun a w=>(∀ m∈look held x,pd P ops m a w)/\step P ops i (fun a w=>(∀ m∈look held i,m∉pre->pd P ops m a w)/\TH P ops held K (pre++post) a w) a w) a w:=
   vI (fun a w hk=>⟨hk.1,ih a w hk.2⟩) h
  clear h ih;have back: ∀ (a1:Act) (w1:World) (v:Value),(∀ m∈look held i,m∉pre->pd P ops m (a1.put ox.dst v) w1)-> ∀ m∈look held i,m∉x::pre->pd P ops m a1 w1:=by
   intro a1 w1 v hC m hm hn;obtain⟨om,oy,tY,Qn,hh⟩:=bw m hm x (by simp) (.inr hn);have:oy=ox:=bW (Qn.symm.trans jI);subst this;exact(pd.put tY (qe _ _ tY) hh).1 (hC m hm fun h=>hn (by simp[h]))
  rcases qs with qs|⟨k1,k2,rG,jH,jZ⟩
  .by_cases kx:kind P ox.op=2
   .have ki:kind P oi.op=0:=by
     simp only[comm,bC,dz,bU]at qs;omega
    have G7:=KG i oi hi (by omega);have h2:step P ops x (step P ops i (fun a w=>(∀ m∈look held x,pd P ops m a w)/\TH P ops held K (pre++post) a w)) a w:=by
     refine vI (fun a1 w1 hk=> ?_) h';obtain⟨hC,hk⟩:=hk;unfold step at hk ⊢;simp only[hi,ki,gB]at hk ⊢;obtain⟨v,hy,hk⟩:=hk;refine⟨v,hy,fun m hm=> ?_,hk.2⟩;obtain⟨om,tY,hh⟩:=cH x (by simp) m hm;exact(pd.put tY (qe _ _ tY) hh).2 (hC m hm)
    refine vI (fun a1 w1 hk=>⟨fun m hm=> ?_,hk⟩) (swap jI hi (qe _ _ jI) (qe _ _ hi) qs h2);rw[G7]at hm;cases hm
   .have rJ:=KG x ox jI kx;have h2:step P ops x (step P ops i (fun a w=>(∀ m∈look held i,m∉pre->pd P ops m a w)/\TH P ops held K (pre++post) a w)) a w:=vI (fun _ _ hk=>hk.2) h';refine vI (fun a1 w1 hk=> ?_) (swap jI hi (qe _ _ jI) (qe _ _ hi) qs h2);have Py: ∀ a w,∀ m∈look held x,pd P ops m a w:=fun a w m hm=>by rw[rJ]at hm;cases hm
    refine⟨?_,vI (fun a w hk=>⟨Py a w,hk.2⟩) hk⟩;have k01:kind P ox.op=0\/kind P ox.op=1:=by
     have:kind P ox.op<=2:=by
      unfold kind
      repeat' split
      all_goals omega
     omega
    unfold step at hk;simp only[jI]at hk;rcases k01 with k0|k1
    .simp only[k0,gB]at hk;obtain⟨v,_,hk⟩:=hk;exact back a1 w1 v hk.1
    .simp only[k1,gB,Nat.one_ne_zero,fP]at hk;obtain⟨v,_,hk⟩:=hk;exact back a1 w1 v hk.1
  .obtain⟨h1,h2,h3⟩:=Oper.apart_spec jH;have rJ:=KG x ox jI (by omega);have Py: ∀ a w,∀ m∈look held x,pd P ops m a w:=fun a w m hm=>by rw[rJ]at hm;cases hm
   have yA:=qe _ _ jI;have hsi:=qe _ _ hi;unfold step at h';simp only[jI,k1,Nat.one_ne_zero,fP,gB]at h';obtain⟨v,hy,_,h'⟩:=h';have fin: ∀ (a1:Act) (w1:World),(∀ m∈look held i,m∉pre->pd P ops m (a1.put ox.dst v) w1)/\TH P ops held K (pre++post) (a1.put ox.dst v) w1->
     (∀ m∈look held i,m∉x::pre->pd P ops m a1 w1)/\TH P ops held K (x::(pre++post)) a1 w1:=by
    intro a1 w1 ⟨hC,hT⟩;refine⟨back a1 w1 v hC,?_⟩;obtain⟨o,ho,u,hyu,hsl⟩:=hC x rG Qm;have:o=ox:=bW (ho.symm.trans jI);subst this;have heq:=aar hsl;show step P ops x _ a1 w1;unfold step;simp only[jI,k1,Nat.one_ne_zero,fP,gB];refine⟨u,(Bj yA (acG jZ)).1 hyu,Py _ _,?_⟩;rw[<-heq];exact hT
   unfold step;have k20:(kind P oi.op=0)=False:=by simp[k2]
   have k21:(kind P oi.op=1)=False:=by simp[k2]
   simp only[hi,k20,k21,fP]at h' ⊢;rw[wanted_put oi a ox.dst v h1]at h';split
   .rename_i hw;rw[av hw,OR hsi h1 h2]at h';exact Oper.wp_mono (fun a1 w1 hk=>fin a1 w1 hk) h'
   .rename_i hw;rw[ak hw]at h';refine fin _ _ ?_;rw[<-Act.put_comm a v undef h2];exact h'
def Ke (pos:Nat->Nat):List Nat->Bool
 |[]=>true
 |x::l=>l.all (fun y=>decide (pos x<pos y))&&Ke pos l
theorem RJ {pos:Nat->Nat}: ∀ {l:List Nat},Ke pos l=true->l.Pairwise fun x y=>pos x<pos y
 |[],_=>List.Pairwise.nil
 |x::l,h=>by
  simp only[Ke,bC,cB,aK]at h;exact bI.2 ⟨h.1,RJ h.2⟩
def posOf (π:List Nat) (i:Nat):Nat:=π.idxOf i
def F3 (P:Program) (ops:Array Oper) (π:List Nat) (held:List (Nat×List Nat)):Bool:=
 Region.noSelect ops&&decide (π.length=ops.size)&&Ke (posOf π) π&&π.all (fun j=>decide (j<ops.size))&&(List.range ops.size).all (fun j=>π.contains j)&&
 (List.range ops.size).all fun y=>match ops[y]? with
  |none=>false
  |some oy=>
   oy.after.all (fun e=> !Region.binds .any e || (decide (posOf π e.on<posOf π y)&&decide (e.on<ops.size)))&&
   (kind P oy.op==2 || (look held y).isEmpty)&&
   (look held y).all (fun m=>decide (posOf π m<posOf π y))&&
   (List.range ops.size).all fun x=> !decide (posOf π x<posOf π y) || match ops[x]? with
    |none=>false
    |some ox=>
     (comm P ops ox oy || Al (tV ops π []) y x || (kind P ox.op==1&&kind P oy.op==2&&(look held y).contains x&&ox.apart ops oy&&ownB ops ox))&&
     (!DJ held x || xX ops ox oy)&&(!DJ held y || (Al (tV ops π []) y x || xX ops oy ox))
theorem Bk {π:List Nat} (h:F3 P ops π held=true):Region.noSelect ops=true/\π.length=ops.size/\π.Pairwise (fun x y=>posOf π x<posOf π y)/\(∀ j∈π,j<ops.size)/\(∀ j,j<ops.size->j∈π)/\
  ∀ y oy,ops[y]? =some oy->(∀ e∈oy.after,Region.binds .any e=true->posOf π e.on<posOf π y/\e.on<ops.size)/\(kind P oy.op≠2->look held y=[])/\(∀ m∈look held y,posOf π m<posOf π y)/\
   ∀ x,x<ops.size->posOf π x<posOf π y-> ∃ ox,ops[x]? =some ox/\
    (comm P ops ox oy=true\/Al (tV ops π []) y x=true\/(kind P ox.op=1/\kind P oy.op=2/\x∈look held y/\ox.apart ops oy=true/\ownB ops ox=true))/\
    (DJ held x=true->xX ops ox oy=true)/\(DJ held y=true->Al (tV ops π []) y x=true\/xX ops oy ox=true):=by
 simp only[F3,bC,cB,fQ,aK]at h;obtain⟨⟨⟨⟨⟨h1,h2⟩,h3⟩,h4⟩,h5⟩,h6⟩:=h;refine⟨h1,h2,RJ h3,h4,fun j hj=>by simpa using h5 j hj,fun y oy hy=> ?_⟩;have ct:y<ops.size:=(aP.1 hy).1;have h7:=h6 y ct;simp only[hy,bC,cB,fQ,Array.all_eq_true_iff_forall_mem,aK]at h7;obtain⟨⟨⟨ha,hb⟩,hc⟩,hd⟩:=h7;refine⟨fun e he pG=> ?_,fun hk=> ?_,hc,fun x hx hp=> ?_⟩
 .have:=ha e he;simp[pG]at this;exact this
 .simp only[dz,bU,List.isEmpty_iff]at hb;exact hb.resolve_left hk
 .have:=hd x hx;simp only[hp,decide_true,Bool.not_true,Bool.false_or]at this;cases jI:ops[x]? with
  |none=>simp[jI]at this
  |some ox=>
   simp only[jI,bC,dz,bU,Bool.not_eq_true']at this;obtain⟨⟨q1,q2⟩,q3⟩:=this;refine⟨ox,rfl,?_,fun hh=> ?_,fun hh=> ?_⟩
   .rcases q1 with (q|q)|⟨⟨⟨⟨q,q'⟩,q''⟩,q3⟩,q4⟩
    .exact .inl q
    .exact .inr (.inl q)
    .exact .inr (.inr ⟨q,q',by simpa using q'',q3,q4⟩)
   .exact q2.resolve_left (by simp[hh])
   .exact q3.resolve_left (by simp[hh])
structure aiP (ops:Array Oper) (pos:Nat->Nat) (l:List Nat) (listed:Array Bool):Prop where
 sorted:l.Pairwise fun x y=>pos x<pos y
 inside: ∀ j∈l,j<ops.size
 mem: ∀ j,j<ops.size->(listed.getD j true=false↔j∈l)
 size:listed.size=ops.size
 closed: ∀ j oj,ops[j]? =some oj->listed.getD j false=true-> ∀ e∈oj.after,Region.binds .any e=true->listed.getD e.on false=true
theorem RZ {Q:Exit->Act->World->Prop} {π:List Nat} (hB:F3 P ops π held=true) (hK: ∀ a w,K a w->Q .normal a w): ∀ (n:Nat) (l:List Nat) (listed:Array Bool) (a:Act) (w:World),l.length=n->aiP ops (posOf π) l listed->TH P ops held K l a w->
  wpAny P .any ops Q n listed a w:=by
 obtain⟨qe,-,-,-,-,uQ⟩:=Bk hB;have Et: ∀ (j:Nat) (o:Oper),ops[j]? =some o->uP o:=fun j o ho cs b=>Region.noSelect_spec qe j o cs b ho;intro n;induction n with
 |zero=>
  intro l listed a w hn inv h;have:l=[]:=by simpa using hn
  subst this;refine⟨?_,hK _ _ h⟩;apply gu.2;intro j hj;obtain⟨Cp,o,ho,_⟩:=mem_ready.1 hj;have:=(inv.mem j (aP.1 ho).1).1 Cp;cases this
 |succ n ih=>
  intro l listed a w hn inv h;have NQ: ∀ j,listed.getD j true=false->listed.getD j false=true->False:=by
   intro j h1 h2;rcases bR j listed.size with h'|h'
   .simp[h']at h1 h2;rw[h1]at h2;cases h2
   .simp[bN h']at h1
  refine⟨fun hr=> ?_,fun i hi=> ?_⟩
  .exfalso
   match l,hn with
   |i0::l',_=>
    have ct:=inv.inside i0 (by simp);have:i0∈Region.ready .any ops listed:=by
     refine mem_ready.2 ⟨(inv.mem i0 ct).2 (by simp),ops[i0],by simp[ct],fun e he hb=> ?_⟩;obtain⟨uV,aiQ⟩:=(uQ i0 _ (by simp[ct])).1 e he hb;have Pv:e.on∉i0::l':=by
      intro hm;rcases aM.1 hm with h|h
      .rw[h]at uV;omega
      .have:=(bI.1 inv.sorted).1 _ h;omega
     have ez:e.on<listed.size:=by rw[inv.size];omega
     have qt: ¬listed.getD e.on true=false:=fun hf=>Pv ((inv.mem _ (by omega)).1 hf);simp[ez]at qt ⊢;exact qt
    rw[hr]at this;cases this
  .obtain⟨Cp,oi,oD,ii⟩:=mem_ready.1 hi;have ct:=(aP.1 oD).1;have iW:=(inv.mem i ct).1 Cp;obtain⟨pre,post,rfl⟩:=List.append_of_mem iW;have hp:=inv.sorted;rw[gD]at hp;have ru: ∀ x∈pre,posOf π x<posOf π i:=fun x hx=>hp.2.2 x hx i (by simp);have V3: ∀ x∈pre,∀ (y:Nat) (oy:Oper),ops[y]? =some oy->(listed.getD y false=true\/y=i)->Al (tV ops π []) y x=true->False:=by
    intro x hx y oy hy tZ Wy;have rJ:listed.getD x false=true:=by
     rcases tZ with tZ|rfl
     .exact ML inv.closed _ y x oy hy (inv.closed y oy hy tZ) Wy
     .have:=bW (oD.symm.trans hy);subst this;exact ML inv.closed _ y x oi oD ii Wy
    exact NQ x ((inv.mem x (inv.inside x (by simp[hx]))).2 (by simp[hx])) rJ
   have aic:=V0 (K:=K) (posOf π) Et (fun j o ho hk=>(uQ j o ho).2.1 hk) oD post pre hp.1 (fun x hx=> ?_) (fun x hx m hm=> ?_) (fun m hm y hy rK=> ?_) a w h
   .refine RH (vI (fun a' w' hk=>ih (pre++post) _ a' w' (by simp at hn ⊢;omega) ?_ hk.2) aic);refine⟨?_,fun j hj=>inv.inside j (by simp at hj ⊢;rcases hj with h|h<;>simp[h]),fun j hj=> ?_,by simp[inv.size],fun j oj tW hl e he hb=> ?_⟩
    .rw[gD];exact⟨hp.1,(bI.1 hp.2.1).2,fun x hx y hy=>hp.2.2 x hx y (by simp[hy])⟩
    .by_cases qu:i=j
     .subst qu;have nW:i∉pre++post:=by
       intro hm;rcases bZ.1 hm with h|h
       .have:=ru _ h;omega
       .have:=(bI.1 hp.2.1).1 _ h;omega
      have ez:i<listed.size:=by rw[inv.size];exact ct
      simp only[nW,iff_false];simp[ez]
     .rw[getD_set_ne true qu,inv.mem j hj];simp;constructor
      .rintro(h|h|h)
       .exact .inl h
       .exact absurd h.symm qu
       .exact .inr h
      .rintro(h|h)
       .exact .inl h
       .exact .inr (.inr h)
    .by_cases qu:i=j
     .subst qu;have:oj=oi:=bW (tW.symm.trans oD);subst this;exact getD_set_true (ii e he hb)
     .rw[getD_set_ne false qu]at hl;exact getD_set_true (inv.closed j oj tW hl e he hb)
   .obtain⟨ox,jI,hc,_⟩:=(uQ i oi oD).2.2.2 x (inv.inside x (by simp[hx])) (ru x hx);refine⟨ox,jI,?_⟩;rcases hc with hc|hc|hc
    .exact .inl hc
    .exact(V3 x hx i oi oD (.inr rfl) hc).elim
    .exact .inr hc
   .have pH:=inv.inside x (by simp[hx]);obtain⟨_,_,vk,_⟩:=uQ x ops[x] (by simp[pH]);have yD:=vk m hm;have XH:=ru x hx;by_cases mK:m<ops.size
    .obtain⟨om,tY,_,hh,_⟩:=(uQ i oi oD).2.2.2 m mK (by omega);exact⟨om,tY,hh (Np hm)⟩
    .exfalso
     have hn:m∉π:=fun h=>mK ((Bk hB).2.2.2.1 m h);have h1:posOf π m=π.length:=List.idxOf_eq_length hn;have h2:posOf π x<=π.length:=List.idxOf_le_length;omega
   .have Ew:=inv.inside y (by simp[hy]);have yD:=(uQ i oi oD).2.2.1 m hm;have mK:m<ops.size:=by
     rcases bR m ops.size with h|h
     .exact h
     .exfalso
      have hn:m∉π:=fun h'=>by have:=(Bk hB).2.2.2.1 m h';omega
      have h1:posOf π m=π.length:=List.idxOf_eq_length hn;have h2:posOf π i<=π.length:=List.idxOf_le_length;omega
    by_cases Wz:posOf π m<posOf π y
    .obtain⟨om,tY,_,hh,_⟩:=(uQ y ops[y] (by simp[Ew])).2.2.2 m mK Wz;exact⟨om,ops[y],tY,by simp[Ew],hh (Np hm)⟩
    .have nF:m∉pre:=rK.resolve_left Wz;have cz:m≠y:=fun e=>nF (e▸hy);have hyp:posOf π y<posOf π m:=by
      have Qo:y∈π:=(Bk hB).2.2.2.2.1 y Ew;have wF:m∈π:=(Bk hB).2.2.2.2.1 m mK;have akH:posOf π y≠posOf π m:=fun e=>by
       have h1:π[posOf π y]? =some y:=by unfold posOf;rw[aD (List.idxOf_lt_length_of_mem Qo),List.getElem_idxOf]
       have h2:π[posOf π m]? =some m:=by unfold posOf;rw[aD (List.idxOf_lt_length_of_mem wF),List.getElem_idxOf]
       rw[e]at h1;exact cz (bW (h2.symm.trans h1))
      omega
     obtain⟨oy,Qn,_,_,hh⟩:=(uQ m ops[m] (by simp[mK])).2.2.2 y Ew hyp;rcases hh (Np hm)with hh|hh
     .exfalso
      have wG:m≠i:=fun e=>by rw[e]at yD;omega
      have ahn:m∉post:=fun vk=>by have:=(bI.1 hp.2.1).1 m vk;omega
      have AX:listed.getD m false=true:=by
       have ez:m<listed.size:=by rw[inv.size];exact mK
       have: ¬listed.getD m true=false:=fun hf=>by
        have:=(inv.mem m mK).1 hf;simp[nF,wG,ahn]at this
       simp[ez]at this ⊢;exact this
      exact V3 y hy m ops[m] (by simp[mK]) (.inl AX) hh
     .exact⟨ops[m],oy,by simp[mK],Qn,hh⟩
end
end Go.Lx
namespace Go.Vc
open Go.Lx
structure aho (P:Program) (t:TypeId) (vx v:Value) (H:ae) (k:Prop):Prop where
 now:aE P (Instr.loadAt t vx) H fun u _=>u=v
 rest:k
def tA (P:Program) (ops:List Oper) (env:Env) (H:ae) (k:Prop):List Nat->Prop
 |[]=>k
 |j::js=>match nth ops j with
  |some o=>match uR ops env o with
   |some true=>match o.op with
    | .load t x=>match ev env x with
     |some vx=>match o.dst with
      |some d=>match get env d with
       |some v=>aho P t vx v H (tA P ops env H k js)
       |none=>False
      |none=>False
     |none=>False
    |_=>False
   |some false=>match o.dst with
    |some d=>kM (get env d=some undef) (tA P ops env H k js)
    |none=>tA P ops env H k js
   |none=>False
  |none=>False
structure kL (P:Program) (ops:List Oper) (env:Env) (H:ae) (k:Prop) (js:List Nat):Prop where
 out:tA P ops env H k js
def tD (P:Program) (ops:List Oper) (env:Env) (H:ae) (k:Prop) (js:List Nat):Prop:=
 match js with
 |[]=>k
 |j::l=>kL P ops env H k (j::l)
theorem Sp {P:Program} {ops:List Oper} {env:Env} {H:ae} {k:Prop} {js:List Nat} (h:tD P ops env H k js):tA P ops env H k js:=by
 cases js with
 |nil=>exact h
 |cons j l=>exact h.out
theorem kL.nil {P:Program} {ops:List Oper} {env:Env} {H:ae} {k:Prop} (h:k):kL P ops env H k []:=⟨h⟩
theorem kL.load {P:Program} {ops:List Oper} {env:Env} {H:ae} {k:Prop} {js:List Nat} {j:Nat} {o:Oper} {t:TypeId} {x:Operand} {vx v:Value} {d:Nat} (hj:nth ops j=some o) (hw:uR ops env o=some true) (ho:o.op= .load t x) (hx:ev env x=some vx) (hd:o.dst=some d) (hv:get env d=some v)
  (now:aE P (Instr.loadAt t vx) H fun u _=>u=v) (rest:kL P ops env H k js):kL P ops env H k (j::js):=by
 refine⟨?_⟩;unfold tA;simp only[hj,hw,ho,hx,hd,hv];exact⟨now,rest.out⟩
theorem kL.skip {P:Program} {ops:List Oper} {env:Env} {H:ae} {k:Prop} {js:List Nat} {j:Nat} {o:Oper} {d:Nat} (hj:nth ops j=some o) (hw:uR ops env o=some false) (hd:o.dst=some d) (hv:get env d=some undef)
  (rest:kL P ops env H k js):kL P ops env H k (j::js):=by
 refine⟨?_⟩;unfold tA;simp only[hj,hw,hd];exact⟨hv,rest.out⟩
def oW (P:Program) (ops:List Oper) (held:List (Nat×List Nat)):List Nat->Env->ae->(Env->ae->Prop)->Prop
 |[],env,H,k=>k env H
 |i::l,env,H,k=>match nth ops i with
  |some o=>match uR ops env o with
   |some true=>match o.dst with
    |some d=>match qL ops i with
     |true=>tJ P o env H tX fun v H'=>p4 true v fun v=>tD P ops ((d,v)::env) H' (oW P ops held l ((d,v)::env) H' k) (Lx.look held i)
     |false=>tJ P o env H tX fun v H'=>tD P ops ((d,v)::env) H' (oW P ops held l ((d,v)::env) H' k) (Lx.look held i)
    |none=>tJ P o env H tX fun _ H'=>tD P ops env H' (oW P ops held l env H' k) (Lx.look held i)
   |some false=>match o.dst with
    |some d=>tD P ops ((d,undef)::env) H (oW P ops held l ((d,undef)::env) H k) (Lx.look held i)
    |none=>tD P ops env H (oW P ops held l env H k) (Lx.look held i)
   |none=>False
  |none=>False
theorem Fa {P:Program} {ops:Array Oper} {env:Env} {H:ae} {k:Prop} {a:Act} {w:World} (ha:iI env a) (hw:w.heap=H): ∀ {js:List Nat},tA P ops.toList env H k js->(∀ j∈js,pd P ops j a w)/\k
 |[],h=>⟨fun j hj=>(by cases hj),h⟩
 |j::js,h=>by
  unfold tA at h;split at h
  .rename_i o hj;rw[vQ]at hj;have hj:ops[j]? =some o:=by simpa using hj
   split at h
   .rename_i gO;have gO:=vH gO ha;split at h
    .rename_i t x mL;split at h
     .rename_i vx hvx;split at h
      .rename_i d hd;split at h
       .rename_i v hv;obtain⟨hr,hk⟩:=Fa ha hw h.rest;refine⟨fun m hm=> ?_,hk⟩;rcases aM.1 hm with rfl|hm
        .obtain⟨u,w',tK,_,hu⟩:=h.now.out w hw;subst hu;have hx:(execOp a.eval o).run P w= .ok (.value u) w':=by
          unfold execOp;simp only[mL,ha.ev hvx,Sem.run_bind,tK,Result.andThen_ok,Sem.run_pure]
         obtain⟨rfl,_⟩:=Vu o (by rw[mL];rfl) (by rw[mL];rfl) hx;refine⟨o,hj,u,.inl ⟨gO,hx⟩,fun d' pI=> ?_⟩;rw[hd]at pI;cases pI;exact .inr (ha _ _ hv)
        .exact hr m hm
       .exact h.elim
      .exact h.elim
     .exact h.elim
    .exact h.elim
   .rename_i gO;have gO:=vH gO ha;split at h
    .rename_i d hd;obtain⟨hg,h⟩:=h.out;obtain⟨hr,hk⟩:=Fa ha hw h;refine⟨fun m hm=> ?_,hk⟩;rcases aM.1 hm with rfl|hm
     .refine⟨o,hj,undef,.inr ⟨gO,rfl⟩,fun d' pI=> ?_⟩;rw[hd]at pI;cases pI;exact .inr (ha _ _ hg)
     .exact hr m hm
    .rename_i hd;obtain⟨hr,hk⟩:=Fa ha hw h;refine⟨fun m hm=> ?_,hk⟩;rcases aM.1 hm with rfl|hm
     .exact⟨o,hj,undef,.inr ⟨gO,rfl⟩,fun d' pI=>by rw[hd]at pI;cases pI⟩
     .exact hr m hm
   .exact h.elim
  .exact h.elim
theorem Jr {P:Program} {ops:Array Oper} {held:List (Nat×List Nat)} {n:Nat} {k:Env->ae->Prop} {w0:World} {a0:Act} (kV: ∀ o∈ops.toList,tE n o=true):
  ∀ (l:List Nat) (env:Env) (H:ae),oW P ops.toList held l env H k-> ∀ (a:Act) (w:World),iI env a->a.defers=a0.defers->a.tmps.size=n->dC w0 w->
   (∀ i,i∉kT ops.toList->a.tmps[i]? =a0.tmps[i]?)->w.heap=H->TH P ops held (ry w0 n a0 (kT ops.toList) k) l a w
 |[],env,H,h,a,w,ha,hd,hn,hs,eA,hw=>⟨hd,hn,hs,eA,env,ha,hw▸h⟩
 |i::l,env,H,h,a,w,ha,hd,hn,hs,eA,hw=>by
  show Lx.step P ops i (fun a w=>(∀ j∈Lx.look held i,pd P ops j a w)/\TH P ops held _ l a w) a w;unfold oW at h;split at h
  .rename_i o ho;rw[vQ]at ho;have ho:ops[i]? =some o:=by simpa using ho
   have iW:o∈ops.toList:=by
    have:=Array.mem_of_getElem? ho;simpa using this
   have hf:=kV o iW;have hm: ∀ t,o.dst=some t->t∈kT ops.toList:=fun t ht=>Fv iW ht;split at h
   .rename_i gO;have gO:=vH gO ha;have h:tJ P o env H tX fun v H'=>p4 (qL ops.toList i&&o.dst.isSome) v fun v=>tD P ops.toList (iZ env o.dst v) H' (oW P ops.toList held l (iZ env o.dst v) H' k) (Lx.look held i):=by
     cases hd:o.dst with
     |none=>simp only[hd]at h;simpa [p4,iZ]using h
     |some d=>
      simp only[hd]at h;cases hs:qL ops.toList i
      .simp only[hs]at h;simpa [p4,iZ]using h
      .simp only[hs]at h;simpa [iZ]using h
    refine RD ho gO (JA h ha hw) ?_;intro v w' nQ hk;have hk:=Jm hk;have yE:=ha.iZ hn hf v;obtain⟨h1,h2⟩:=Fa yE rfl (Sp hk);exact⟨h1,Jr kV l _ _ h2 _ _ yE (by rw[yX];exact hd) (by rw[xo];exact hn) (hs.trans nQ) (zh eA hm v) rfl⟩
   .rename_i gO;have gO:=vH gO ha;have h:tD P ops.toList (iZ env o.dst undef) H (oW P ops.toList held l (iZ env o.dst undef) H k) (Lx.look held i):=by
     cases hd:o.dst with
     |none=>simp only[hd]at h;simpa [iZ]using h
     |some d=>simp only[hd]at h;simpa [iZ]using h
    have yE:=ha.iZ hn hf undef;obtain⟨h1,h2⟩:=Fa yE hw (Sp h);have r4:=Jr kV l _ _ h2 _ _ yE (by rw[yX];exact hd) (by rw[xo];exact hn) hs (zh eA hm undef) hw;unfold Lx.step;simp only[ho,gO,eY,fP];split
    .exact⟨_,.inr ⟨gO,rfl⟩,h1,r4⟩
    .split
     .exact⟨_,.inr ⟨gO,rfl⟩,h1,r4⟩
     .exact⟨h1,r4⟩
   .exact h.elim
  .exact h.elim
theorem cy.held {P:Program} {n id:Nat} {ops:Array Oper} {env:Env} {H:ae} {k:Env->ae->Prop} (π:List Nat) (held:List (Nat×List Nat)) (hm:P.follows .mixedOrders=true) (hB:F3 P ops π held=true)
  (h:oW P ops.toList held π env H k):cy P n id ops env H k:=by
 refine⟨fun hf=>⟨fun w0 a w ha hd hn hs hw=>wp_region_any hm ?_⟩⟩;have hf: ∀ o∈ops.toList,tE n o=true:=cB.1 hf;have hT:=Jr (a0:=a) (w0:=w0) hf π env H h a {w with drawn:=w.drawn+1} ha hd hn (hs.trans ⟨rfl,rfl,rfl⟩) (fun _ _=>rfl) hw;obtain⟨_,hlen,Gf,ua,ii,_⟩:=Bk hB;refine RZ hB (Q:=tF w0 n a (mods (.region id ops true)) fun e env H=>e= .normal/\k env H) (fun a w h=>ry.mono h fun _ _ h=>⟨rfl,h⟩) ops.size π (Array.replicate ops.size false) a _ hlen ?_ hT;refine⟨Gf,ua,fun j hj=> ?_,by simp,fun j oj tW hl=> ?_⟩
 .have:=ii j hj;simp[hj,this]
 .exfalso
  rw[MD]at hl;cases hl
def tG (ops:Array Oper) (x y:Nat):Array Oper:=ops.modify y fun o=>{o with after:=o.after.push {on:=x,ground:= .data}}
def qg (ops:Array Oper):List (Nat×Nat)->Array Oper
 |[]=>ops
 |e::es=>tG (qg ops es) e.1 e.2
inductive kr (ops:Array Oper):Nat->Array Bool->List Nat->Prop
 |stop {listed:Array Bool}:kr ops 0 listed []
 |done {n:Nat} {listed:Array Bool} (h:Region.ready .any ops listed=[]):kr ops (n+1) listed []
 |step {n:Nat} {listed:Array Bool} {i:Nat} {l:List Nat} (h:i∈Region.ready .any ops listed) (hl:kr ops n (listed.setIfInBounds i true) l):kr ops (n+1) listed (i::l)
theorem Vz (ops:Array Oper): ∀ (fuel t:Nat) (listed:Array Bool),kr ops fuel listed (Region.linearise.go .any ops fuel t listed [])
 |0,t,listed=>by simp only[Region.linearise.go,List.reverse_nil];exact .stop
 |fuel+1,t,listed=>by
  simp only[Region.linearise.go];change kr ops (fuel+1) listed (match (Region.ready .any ops listed)[t % (Region.ready .any ops listed).length]? with
   |some i=>Region.linearise.go .any ops fuel (t / (Region.ready .any ops listed).length) (listed.setIfInBounds i true) [i]
   |none=>[].reverse)
  cases hi:(Region.ready .any ops listed)[t % (Region.ready .any ops listed).length]? with
  |none=>
   have D5:Region.ready .any ops listed=[]:=by
    cases hr:Region.ready .any ops listed with
    |nil=>rfl
    |cons x xs=>
     rw[hr]at hi;have ct:t % (x::xs).length<(x::xs).length:=eB _ (by simp);rw[List.getElem?_eq_none_iff]at hi;omega
   exact .done D5
  |some i=>
   dsimp only;rw[linearise_go_acc,List.reverse_singleton,List.singleton_append];exact .step (aU hi) (Vz ops fuel _ _)
theorem aax {P:Program} {ops:Array Oper} {Q:Exit->Act->World->Prop} {n:Nat} {listed:Array Bool} {l:List Nat} (hl:kr ops n listed l): ∀ {a:Act} {w:World},wpAny P .any ops Q n listed a w->wpOps P ops Q l a w:=by
 induction hl with
 |stop=>intro a w h;exact h.2
 |done hr=>intro a w h;exact h.1 hr
 |step hi _ ih=>intro a w h;rw[wpOps_cons];exact wpOp_mono (fun a w h=>ih h) (h.2 _ hi)
theorem Nq {ops:Array Oper} {x y j:Nat}:(tG ops x y)[j]? =if y=j then(ops[j]?).map fun o=>{o with after:=o.after.push {on:=x,ground:= .data}}else ops[j]? :=by
 unfold tG;rw[fG]
theorem R0 {ops:Array Oper} {x y j:Nat} {listed:Array Bool} (h:j∈Region.ready .any (tG ops x y) listed):j∈Region.ready .any ops listed:=by
 rw[mem_ready]at h ⊢;obtain⟨h1,o,ho,h2⟩:=h;refine⟨h1,?_⟩;rw[Nq]at ho;split at ho
 .cases hj:ops[j]? with
  |none=>rw[hj]at ho;cases ho
  |some o'=>
   rw[hj]at ho;simp only[fI,dO]at ho;refine⟨o',rfl,fun e he hb=>h2 e ?_ hb⟩;rw[<-ho];exact Array.mem_push.2 (.inl he)
 .exact⟨o,ho,h2⟩
theorem E9 {ops:Array Oper} {x y j:Nat} {listed:Array Bool} (h:j∈Region.ready .any ops listed) (hx:y≠j\/listed.getD x false=true):j∈Region.ready .any (tG ops x y) listed:=by
 rw[mem_ready]at h ⊢;obtain⟨h1,o,ho,h2⟩:=h;refine⟨h1,?_⟩;rw[Nq];split
 .rename_i hy;rw[ho];refine⟨_,rfl,fun e he hb=> ?_⟩;rcases Array.mem_push.1 he with he|he
  .exact h2 e he hb
  .rw[he];exact hx.resolve_left (fun hn=>hn hy)
 .exact⟨o,ho,h2⟩
theorem Sq {ops:Array Oper} {x y:Nat} {n:Nat} {listed:Array Bool} {l:List Nat} (h:kr ops n listed l):listed.getD x false=true->kr (tG ops x y) n listed l:=by
 induction h with
 |stop=>exact fun _=> .stop
 |done hr=>
  intro hx;refine .done (gu.2 fun j hj=> ?_);have:=R0 hj;rw[hr]at this;cases this
 |step hi _ ih=>exact fun hx=> .step (E9 hi (.inr hx)) (ih (getD_set_true hx))
theorem R1 {listed:Array Bool} {i:Nat} (h:listed.getD i true=false):i<listed.size:=by
 rcases bR i listed.size with h'|h'
 .exact h'
 .simp[bN h']at h
theorem acH {ops:Array Oper} {x y:Nat} (pJ:x≠y) {n:Nat} {listed:Array Bool} {l:List Nat} (h:kr ops n listed l):listed.getD x true=false->listed.getD y true=false->kr (tG ops x y) n listed l\/kr (tG ops y x) n listed l:=by
 induction h with
 |stop=>exact fun _ _=> .inl .stop
 |done hr=>
  intro _ _;refine .inl (.done (gu.2 fun j hj=> ?_));have:=R0 hj;rw[hr]at this;cases this
 | @step n listed i l hi hl ih=>
  intro hx hy;by_cases h1:i=x
  .subst h1;refine .inl (.step (E9 hi (.inl fun e=>pJ e.symm)) (Sq hl ?_));have:=R1 hx;simp[this]
  .by_cases h2:i=y
   .subst h2;refine .inr (.step (E9 hi (.inl fun e=>pJ e)) (Sq hl ?_));have:=R1 hy;simp[this]
   .rcases ih (by rw[getD_set_ne _ h1];exact hx) (by rw[getD_set_ne _ h2];exact hy)with h|h
    .exact .inl (.step (E9 hi (.inl fun e=>h2 e.symm)) h)
    .exact .inr (.step (E9 hi (.inl fun e=>h1 e.symm)) h)
structure pv (ops qh:Array Oper):Prop where
 size:qh.size=ops.size
 get: ∀ (i:Nat) (o:Oper),ops[i]? =some o-> ∃ z,qh[i]? =some {o with after:=z}
theorem pv.refl (ops:Array Oper):pv ops ops:=⟨rfl,fun i o h=>⟨o.after,h⟩⟩
theorem pv.tG {ops qh:Array Oper} (h:pv ops qh) (x y:Nat):pv ops (tG qh x y):=by
 refine⟨by simp[Vc.tG,h.size],fun i o ho=> ?_⟩;obtain⟨z,hz⟩:=h.get i o ho;rw[Nq,hz];split
 .exact⟨_,rfl⟩
 .exact⟨z,rfl⟩
theorem pv.qg (ops:Array Oper): ∀ es,pv ops (qg ops es)
 |[]=>pv.refl ops
 |e::es=>(pv.qg ops es).tG _ _
theorem pv.yielded {ops qh:Array Oper} (h:pv ops qh) (tmps:Array Value):yielded qh tmps=yielded ops tmps:=by
 funext j
 unfold Go.yielded;cases hj:ops[j]? with
 |none=>
  have:qh[j]? =none:=by rw[fq,h.size];exact fq.1 hj
  rw[this]
 |some o=>
  obtain⟨z,hz⟩:=h.get j o hj;rw[hz];rfl
theorem pv.wpOps {P:Program} {ops qh:Array Oper} (h:pv ops qh) {Q:Exit->Act->World->Prop}: ∀ {l:List Nat} {a:Act} {w:World},wpOps P qh Q l a w->Go.wpOps P ops Q l a w
 |[],a,w,hh=>hh
 |i::l,a,w,hh=>by
  unfold Go.wpOps at hh ⊢;cases hi:ops[i]? with
  |none=>
   have:qh[i]? =none:=by rw[fq,h.size];exact fq.1 hi
   rw[this]at hh;exact h.wpOps hh
  |some o=>
   obtain⟨z,hz⟩:=h.get i o hi;rw[hz,h.yielded]at hh;dsimp only at hh ⊢;have hw:Region.wanted {o with after:=z} (Go.yielded ops a.tmps)=Region.wanted o (Go.yielded ops a.tmps):=rfl;rw[hw]at hh;split
   .rename_i gO;rw[av gO]at hh;refine hh.imp (fun hh=> ?_) id;exact Oper.wp_mono (fun a w hh=>h.wpOps hh) hh
   .rename_i gO;rw[ak gO]at hh;exact h.wpOps hh
def bare (o:Oper):Oper:={o with after:= #[]}
theorem J1: ∀ (l:List Oper) (i:Nat),nth (l.map bare) i=(nth l i).map bare
 |[],_=>rfl
 |o::l,0=>rfl
 |o::l,i+1=>J1 l i
theorem Sr: ∀ (l:List Oper) (i:Nat),qL (l.map bare) i=qL l i
 |[],_=>rfl
 |o::l,i=>by
  simp only[dw,qL,Sr l i];rfl
theorem Ss (l:List Oper) (env:Env) (o:Oper):uR (l.map bare) env (bare o)=uR l env o:=by
 obtain⟨dst,op,type,pos,after,guard⟩:=o;cases guard with
 |none=>rfl
 |some g=>
  obtain⟨j,want⟩:=g;simp only[uR,bare,J1];cases nth l j<;>rfl
theorem MG (P:Program) (l:List Oper) (env:Env) (H:ae) (k:Prop): ∀ js,tA P (l.map bare) env H k js=tA P l env H k js
 |[]=>rfl
 |j::js=>by
  unfold tA;rw[J1];cases nth l j with
  |none=>rfl
  |some o=>
   simp only[fI,Ss,MG P l env H k js];rfl
theorem aaN (P:Program) (l:List Oper) (env:Env) (H:ae) (k:Prop) (js:List Nat):tD P (l.map bare) env H k js↔tD P l env H k js:=by
 cases js with
 |nil=>exact Iff.rfl
 |cons j js=>exact⟨fun h=>⟨by rw[<-MG];exact h.out⟩,fun h=>⟨by rw[MG];exact h.out⟩⟩
theorem M0 (P:Program) (l:List Oper) (held:List (Nat×List Nat)) (k:Env->ae->Prop): ∀ (π:List Nat) (env:Env) (H:ae),oW P (l.map bare) held π env H k=oW P l held π env H k
 |[],_,_=>rfl
 |i::π,env,H=>by
  unfold oW;rw[J1];cases nth l i with
  |none=>rfl
  |some o=>
   have e: ∀ env H,oW P (l.map bare) held π env H k=oW P l held π env H k:=M0 P l held k π;have e2: ∀ env H js,tD P (l.map bare) env H (oW P l held π env H k) js=tD P l env H (oW P l held π env H k) js:=fun env H js=>propext (aaN P l env H _ js);simp only[fI,Ss,Sr,e,e2];obtain⟨dst,op,type,pos,after,guard⟩:=o;rfl
theorem pv.bare {ops qh:Array Oper} (h:pv ops qh):qh.toList.map Vc.bare=ops.toList.map Vc.bare:=by
 apply fF;intro i;simp only[dK,dL];cases hi:ops[i]? with
 |none=>
  have:qh[i]? =none:=by rw[fq,h.size];exact fq.1 hi
  rw[this]
 |some o=>
  obtain⟨z,hz⟩:=h.get i o hi;rw[hz];rfl
structure cg (P:Program) (n:Nat) (ops:Array Oper) (es:List (Nat×Nat)) (env:Env) (H:ae) (k:Env->ae->Prop):Prop where
 out:(∀ o∈ops.toList,tE n o=true)-> ∀ (w0:World) (a:Act) (w:World),iI env a->a.defers=a.defers->a.tmps.size=n->dC w0 w->w.heap=H-> ∀ l,kr (qg ops es) ops.size (Array.replicate ops.size false) l->
  wpOps P ops (fun e a' w'=>e= .normal/\ry w0 n a (kT ops.toList) k a' w') l a w
theorem Js {P:Program} {ops:Array Oper} {Q Q':Exit->Act->World->Prop} (h: ∀ e a w,Q e a w->Q' e a w): ∀ {l:List Nat} {a:Act} {w:World},wpOps P ops Q l a w->wpOps P ops Q' l a w
 |[],a,w,hh=>h _ _ _ hh
 |i::l,a,w,hh=>by
  unfold Go.wpOps at hh ⊢;cases hi:ops[i]? with
  |none=>rw[hi]at hh;exact Js h hh
  |some o=>
   rw[hi]at hh;dsimp only at hh ⊢;split
   .rename_i gO;rw[av gO]at hh;refine hh.imp (fun hh=> ?_) fun hh=>⟨hh.1,?_⟩
    .have:=Oper.wp_mono (fun a w hh=>Js (Q':=Q') h hh) hh;unfold Oper.wp at this ⊢;generalize (execOp a.eval o).run P w=r at this
     cases r with
     |ok n w'=>
      cases n<;>simp only[Oper.upon]at this ⊢<;>first|exact this|skip
      exact Calls.mono this fun e kQ he=>by
       cases e<;>first|exact he|exact h _ _ _ he|exact(he.elim fun a h1=>h1.elim fun w h1=>⟨a,w,h _ _ _ h1⟩)
     |halt x w'=>cases x<;>first|exact this|exact h _ _ _ this
    .exact(hh.2.elim fun a h1=>h1.elim fun w h1=>⟨a,w,h _ _ _ h1⟩)
   .rename_i gO;rw[ak gO]at hh;exact Js h hh
theorem cy.ku {P:Program} {n id:Nat} {ops:Array Oper} {env:Env} {H:ae} {k:Env->ae->Prop} (hm:P.follows .mixedOrders=true) (h:cg P n ops [] env H k):cy P n id ops env H k:=by
 refine⟨fun hf=>⟨fun w0 a w ha hd hn hs hw=>wp_region_draw fun t=> ?_⟩⟩;have hf: ∀ o∈ops.toList,tE n o=true:=cB.1 hf;simp only[Region.schedule,hm,Bool.true_or,gB];have:=h.out hf w0 a {w with drawn:=w.drawn+1} ha hd hn (hs.trans ⟨rfl,rfl,rfl⟩) hw _ (Vz ops ops.size t _);refine Js ?_ this;rintro e a' w' ⟨he,hl⟩;exact ry.mono hl fun _ _ h=>⟨he,h⟩
theorem cg.split {P:Program} {n:Nat} {ops:Array Oper} {es:List (Nat×Nat)} {env:Env} {H:ae} {k:Env->ae->Prop} (x y:Nat) (hx:x<ops.size) (hy:y<ops.size) (pJ:x≠y) (h1:cg P n ops ((x,y)::es) env H k) (h2:cg P n ops ((y,x)::es) env H k):cg P n ops es env H k:=by
 refine⟨fun hf w0 a w ha hd hn hs hw l hl=> ?_⟩;rcases acH pJ hl (by simp[hx]) (by simp[hy])with h|h
 .exact h1.out hf w0 a w ha hd hn hs hw l h
 .exact h2.out hf w0 a w ha hd hn hs hw l h
theorem cg.held {P:Program} {n:Nat} {ops:Array Oper} {es:List (Nat×Nat)} {env:Env} {H:ae} {k:Env->ae->Prop} (π:List Nat) (held:List (Nat×List Nat)) (hB:F3 P (qg ops es) π held=true)
  (h:oW P ops.toList held π env H k):cg P n ops es env H k:=by
 have h:oW P (qg ops es).toList held π env H k:=by rw[<-M0,(pv.qg ops es).bare,M0];exact h
 refine⟨fun hf w0 a w ha hd hn hs hw l hl=>(pv.qg ops es).wpOps (aax hl ?_)⟩;have hA:=pv.qg ops es;have Cr: ∀ o∈(qg ops es).toList,tE n o=true:=by
  intro o ho;obtain⟨i,hi,rfl⟩:=List.getElem_of_mem ho;have hi':i<ops.size:=by rw[<-hA.size];simpa using hi
  obtain⟨z,hz⟩:=hA.get i ops[i] (by simp[hi']);have:(qg ops es).toList[i]={ops[i]with after:=z}:=by
   have sj:i<(qg ops es).size:=by simpa using hi
   rw[Array.getElem?_eq_getElem sj]at hz;simpa using hz
  rw[this];exact hf ops[i] (by simp)
 have aid:kT (qg ops es).toList=kT ops.toList:=by
  have key: ∀ (l l':List Oper),l'.length=l.length->(∀ (i:Nat) (o:Oper),l[i]? =some o-> ∃ z,l'[i]? =some {o with after:=z})->kT l'=kT l:=by
   intro l;induction l with
   |nil=>intro l' h _;rw[bF h]
   |cons o l ih=>
    intro l' hl h
    match l',hl with
    |o'::l',hl=>
     obtain⟨z,hz⟩:=h 0 o rfl;have e:o'={o with after:=z}:=by simpa using hz
     have:=ih l' (by simpa using hl) (fun i o ho=>by simpa using h (i+1) o (by simpa using ho));subst e;simp only[kT,this]
  exact key _ _ (by simp[hA.size]) fun i o ho=>by
   have ho:ops[i]? =some o:=by simpa using ho
   obtain⟨z,hz⟩:=hA.get i o ho;exact⟨z,by simpa using hz⟩
 have hT:=Jr (a0:=a) (w0:=w0) Cr π env H h a w ha hd hn hs (fun _ _=>rfl) hw;obtain⟨_,hlen,Gf,ua,ii,_⟩:=Bk hB;have Gw:=RZ hB (Q:=fun e a' w'=>e= .normal/\ry w0 n a (kT (qg ops es).toList) k a' w') (fun a w h=>⟨rfl,h⟩) (qg ops es).size π (Array.replicate (qg ops es).size false) a w hlen ?_ hT
 .rw[hA.size,aid]at Gw;exact Gw
 .refine⟨Gf,ua,fun j hj=> ?_,by simp,fun j oj tW hl=> ?_⟩
  .have:=ii j hj;simp[hj,this]
  .exfalso
   rw[MD]at hl;cases hl
theorem eN.dec {p:Prop} [Decidable p] {A B:Prop} (h1:p->A) (h2: ¬p->B):eN (decide p) A B:=⟨fun e=>h1 (of_decide_eq_true e),fun e=>h2 (of_decide_eq_false e)⟩
theorem eN.Pz {a b:Int} {A B:Prop} (h1:a=b->A) (h2:a≠b->B):eN (a==b) A B:=⟨fun e=>h1 (by simpa using e),fun e=>h2 (by simpa using e)⟩
theorem eS.dec {p:Prop} [Decidable p] {K:Bool->Prop} (h1:p->K true) (h2: ¬p->K false):eS (decide p) K:=⟨fun e=>h1 (of_decide_eq_true e),fun e=>h2 (of_decide_eq_false e)⟩
theorem eS.Pz {a b:Int} {K:Bool->Prop} (h1:a=b->K true) (h2:a≠b->K false):eS (a==b) K:=⟨fun e=>h1 (by simpa using e),fun e=>h2 (by simpa using e)⟩
theorem eS.WA {b:Bool} {K:Bool->Prop} (hb:b=true) (h:K false):eS (!b) K:=eS.neg (by rw[hb];rfl) h
theorem eS.WB {b:Bool} {K:Bool->Prop} (hb:b=false) (h:K true):eS (!b) K:=eS.pos (by rw[hb];rfl) h
theorem p5 {s t:ByteArray}:(s.toList==t.toList)=decide (s=t):=by
 rw[dI,bU,aK,ByteArray.toList_eq,ByteArray.toList_eq];constructor
 .intro h;exact ByteArray.ext (gy.1 h)
 .intro h;rw[h]
theorem eN.str {s t:ByteArray} {A B:Prop} (h1:s=t->A) (h2:s≠t->B):eN (s.toList==t.toList) A B:=by rw[p5];exact eN.dec h1 h2
theorem eS.str {s t:ByteArray} {K:Bool->Prop} (h1:s=t->K true) (h2:s≠t->K false):eS (s.toList==t.toList) K:=by rw[p5];exact eS.dec h1 h2
theorem NW (s:ByteArray):(s.toList==s.toList)=true:=eD _
theorem eN.same {s:ByteArray} {A B:Prop} (h:A):eN (s.toList==s.toList) A B:=eN.pos (NW s) h
theorem eS.same {s:ByteArray} {K:Bool->Prop} (h:K true):eS (s.toList==s.toList) K:=eS.pos (NW s) h
theorem eS.V4 {s:ByteArray} {K:Bool->Prop} (h:K false):eS (!(s.toList==s.toList)) K:=eS.neg (by rw[NW];rfl) h
theorem eN.Lw {a:Int} {A B:Prop} (h:A):eN (a==a) A B:=eN.pos (eD _) h
theorem eN.G8 {a:Int} {A B:Prop} (h:B):eN (a != a) A B:=eN.neg (bne_self_eq_false a) h
theorem eS.G8 {a:Int} {K:Bool->Prop} (h:K false):eS (a != a) K:=eS.neg (bne_self_eq_false a) h
theorem dc.UZ {P:Program} {H:ae} {t e:TypeId} {i:TypeInfo} {b o:Nat} {c:Array Value} {v:Value} {K:ae->Prop} (hb:bu H b c e) (hi:P.info? t=some i) (hn:i.size=1) (hp:jt v=true) (hl:Nat.blt o c.size=true)
  (hk: ∀ H',H'.size=H.size->bu H' b (c.setIfInBounds o v) e->fw b H H'->K H'):dc P (Instr.storeAt t (.pointer (some ⟨b,o,none⟩)) v) H K:=
 dc.jB hb hi hn hp (aS hl) hk
theorem aE.Kr {P:Program} {H:ae} {t e:TypeId} {b o:Nat} {c:Array Value} {v:Value} {K:Value->ae->Prop} (hb:bu H b c e) (hT:wg P t=some false) (hv:nth c.toList o=some v) (hk:K v H):aE P (Instr.loadAt t (.pointer (some ⟨b,o,none⟩))) H K:=
 aE.mC hb hT (by rw[vQ]at hv;simpa using hv) hk
variable {P:Program} {H H' H0:ae}
abbrev Bs:=List UInt8
abbrev ag (l:Bs):ByteArray:=⟨l.toArray⟩
theorem aem (l:Bs):(ag l).size=l.length:=rfl
theorem p6 {l m:Bs}:ag l=ag m↔l=m:=by
 constructor
 .intro h;have:=aZ (fun s=>s.data.toList) h;simpa using this
 .intro h;rw[h]
theorem kC (l m:Bs):ag l++ag m=ag (l++m):=by
 apply ByteArray.ext;apply Array.ext';simp[ag]
theorem xA (l:Bs) (a b:Nat):(ag l).extract a b=ag ((l.drop a).take (b-a)):=by
 have h:((ag l).extract a b).data=l.toArray.extract a b:=by simp[ag]
 apply ByteArray.ext;rw[h];apply Array.ext';simp[ag,List.extract_eq_take_drop]
theorem nY (l:Bs) (k:Nat):(ag l).extract k (ag l).size=ag (l.drop k):=by
 rw[xA,aem,aL (by simp)]
theorem nM (l:Bs) (k:Nat):(ag l).extract 0 k=ag (l.take k):=by
 rw[xA,List.drop_zero,Nat.sub_zero]
def strs (l:List Bs):List Value:=l.map fun w=> .string (ag w)
theorem Ff (l:List Bs):(strs l).length=l.length:=by simp[strs]
theorem Jt (l m:List Bs):strs (l++m)=strs l++strs m:=by simp[strs]
theorem abu (l:List Bs): ∀ u∈strs l,jt u=true:=by
 intro u hu;obtain⟨b,_,rfl⟩:=bH.1 hu;rfl
theorem aen {l:List Bs} {j:Nat} (h:j<l.length):(strs l)[j]? =some (.string (ag (l.getD j []))):=by
 simp[strs,aD h,aT]
theorem ax.wr {A B C:ae} {base:Nat} {e:TypeId} {size:Nat} {a:Option Addr} {n cap:Nat} {xs:List Value} (h:ax A B) (ho:cq B base e size a n cap xs) (hb:A.size<=base) (k:Wr a B C):ax A C:=
 cD.trans h k fun x hx ⟨p,hp,e⟩=>by have:=(ho.block p hp).1;omega
theorem cP.push {t u e ty:TypeId} {i:TypeInfo} {z:Value} {a:Option Addr} {n cap:Nat} {xs:List Value} {x:Value} {m:Nat} {news:List Value} {cb:Array Bool} {K:Value->ae->Prop}
  (jZ:cq H H0.size e i.size a n cap xs) (hx:ax H0 H) (mU:Src P H x i.size m news) (ht:P.underlying t=some (.slice e)) (hu: ∃ d,P.underlying u=some d/\(∀ k,d≠ .int k)) (hi:P.info? e=some i) (hz:i.zero=some z) (o8:z.cells.size=i.size)
  (BK:(n+m)*i.bytes<=140737488355328) (h0:Nat.ble 1 i.bytes=true)
  (hk: ∀ a' cS H',cq H' H0.size e i.size a' (n+m) cS (xs++news)->ax H0 H'->K (.slice a' (n+m) cS) H'):
  cP P (builtin .append #[t,u] ty cb #[.slice a n cap,x]) H K:=by
 refine cP.append ht hu hi hz o8 jZ mU ?_ BK hx.size fun a' cS H' h1 h2 _=>hk a' cS H' h1 (hx.wr jZ (aB _) h2);have:n+m<=(n+m)*i.bytes:=Nat.le_mul_of_pos_right _ (aS h0);unfold maxLen;omega
theorem cP.V5 {t u e ty:TypeId} {i:TypeInfo} {z v:Value} {a:Option Addr} {n cap g:Nat} {xs:List Value} {cb:Array Bool} {K:Value->ae->Prop}
  (tL:bu H g #[v] e) (jZ:cq H H0.size e 1 a n cap xs) (hx:ax H0 H) (hn:n<=4000000000000) (ht:P.underlying t=some (.slice e)) (hu: ∃ d,P.underlying u=some d/\(∀ k,d≠ .int k)) (hi:P.info? e=some i) (hz:i.zero=some z) (o8:z.cells.size=i.size) (h1:i.size=1)
  (mw:Nat.ble i.bytes 16=true) (h0:Nat.ble 1 i.bytes=true) (hp:jt v=true)
  (hk: ∀ a' cS H',cq H' H0.size e 1 a' (n+1) cS (xs++[v])->ax H0 H'->K (.slice a' (n+1) cS) H'):
  cP P (builtin .append #[t,u] ty cb #[.slice a n cap,.slice (some ⟨g,0,none⟩) 1 1]) H K:=by
 have mw:=aS mw;have jZ:cq H H0.size e i.size a n cap xs:=by rw[h1];exact jZ
 have hk: ∀ a' cS H',cq H' H0.size e i.size a' (n+1) cS (xs++[v])->ax H0 H'->K (.slice a' (n+1) cS) H':=fun a' c' H' h=>hk a' c' H' (by rw[h1]at h;exact h);refine cP.push (m:=1) (news:=[v]) jZ hx (Src.row (bu.row (c:=[v]) tL) (by rw[h1];rfl) (by simpa using hp)) ht hu hi hz o8 ?_ h0 hk
 calc (n+1)*i.bytes<=(n+1)*16:=fC _ mw
  _<=_:=by omega
theorem cm.PA {a:Option Addr} {ws:List Bs} {n:Nat} {i:Int} {K:Addr->Prop} (h:Row H a (strs ws)) (hn:ws.length=n) (j:Nat) (hi:i=j) (hj:j<n)
  (hk: ∀ b o,b<H.size->a=some ⟨b,o,none⟩->hcell H ⟨b,o+j,none⟩=some (.string (ag (ws.getD j [])))->K ⟨b,o+j,none⟩):cm a n 1 i K:=by
 refine(cm.row (size:=1) h (by rw[Ff,hn,bQ]) (by decide) j hi hj fun b o h1 h2 h3=> ?_);have h3:=h3 0 _ (by rw[bQ,Nat.add_zero];exact aen (by omega));rw[bQ];rw[bQ]at h3;exact hk b o h1 h2 (by simpa using h3)
theorem cm.fe {a:Option Addr} {ws:List Bs} {n:Nat} {i:Int} {K:Addr->Prop} (h:Row H a (strs ws)) (hn:ws.length=n) (j:Nat) (w:Bs) (hi:i=j) (hw:ws[j]? =some w)
  (hk: ∀ b o,b<H.size->a=some ⟨b,o,none⟩->hcell H ⟨b,o+j,none⟩=some (.string (ag w))->K ⟨b,o+j,none⟩):cm a n 1 i K:=by
 have hj:=(aH.1 hw).1;refine cm.PA h hn j hi (by omega) fun b o h1 h2 h3=>hk b o h1 h2 ?_;rw[aT,hw]at h3;exact h3
theorem p7 (p q:Bs):((ag p).toList==(ag q).toList)=decide (p=q):=by rw[p5,dI,aK,aK];exact p6
theorem da.uJ {t:TypeId} {l:List Nat} {K:Value->Prop} (cells:Array Value) (h:P.built t []=some cells) (hk:K (.agg cells)):da P (Instr.build t (l.zip ([]:List Value)).toArray) K:=
 da.build cells (by rw[List.zip_nil_right];exact h) hk
theorem da.xC {t:TypeId} {l:List Nat} {v:Value} {K:Value->Prop} (cells:Array Value) (h:P.built t (l.zip [v])=some cells) (hk:K (.agg cells)):da P (Instr.build t (l.zip [v]).toArray) K:=
 da.build cells h hk
theorem aE.nZ {t:TypeId} {p:Addr} {v:Value} {K:Value->ae->Prop} (hT:wg P t=some false) (hc:hcell H0 p=some v) (hx:ax H0 H) (hk:K v H):aE P (Instr.loadAt t (.pointer (some p))) H K:=aE.load hT (jj hc hx id) hk
end Go.Vc
namespace Go.Vc
variable {P:Program} {H H':ae}
structure Iter (H:ae) (b:Nat) (s:ByteArray) (pos:Nat):Prop where out:H[b]? =some (.stringIter s pos)
theorem Iter.lt {b:Nat} {s:ByteArray} {pos:Nat} (h:Iter H b s pos):b<H.size:=(aP.1 h.out).1
theorem aE.acI {t:TypeId} {s:ByteArray} {K:Value->ae->Prop} (ht:P.underlying t=some .string)
  (hk: ∀ H',H'.size=H.size+1->Iter H' H.size s 0->ax H H'->K (.pointer (some ⟨H.size,0,none⟩)) H'):aE P (Instr.range t (.string s)) H K:=by
 refine⟨fun w hw=>⟨.pointer (some ⟨w.heap.size,0,none⟩),{w with heap:=w.heap.push (.stringIter s 0)},?_,⟨rfl,rfl,rfl⟩,?_⟩⟩
 .simp only[Instr.range,Sem.run_bind,ft ht,Result.andThen_ok,Sem.run_pure,run_newObj]
 .subst hw;exact hk _ (by simp) ⟨rj _ _⟩ (cD.push _ _ _)
theorem aE.aeo {b:Nat} {s:ByteArray} {pos:Nat} {ty:TypeId} {K:Value->ae->Prop} (hI:Iter H b s pos) (h:pos<s.size)
  (hk: ∀ H',H'.size=H.size->Iter H' b s (pos+(Utf8.decode s pos).2)->fw b H H'->K (.tuple #[.bool true,.int .i64 pos,.int .i32 (Utf8.decode s pos).1]) H'):aE P (Instr.next (.pointer (some ⟨b,0,none⟩)) true ty) H K:=by
 refine⟨fun w hw=> ?_⟩;have Eu:=hI.out;have ct:=hI.lt;subst hw;refine⟨.tuple #[.bool true,.int .i64 pos,.int .i32 (Utf8.decode s pos).1],{w with heap:=w.heap.setIfInBounds b (.stringIter s (pos+(Utf8.decode s pos).2))},?_,⟨rfl,rfl,rfl⟩,hk _ (by simp) ⟨by simp[ct]⟩ (cD.set _ _ _)⟩;simp only[Instr.next,getObj,setObj,Sem.run_bind,Sem.run,Eu,Result.andThen,h,gB];simp[goInt,Sem.run,Eu,Result.andThen]
theorem aE.aep {b:Nat} {s:ByteArray} {pos:Nat} {ty:TypeId} {K:Value->ae->Prop} (hI:Iter H b s pos) (h: ¬pos<s.size) (hk:K (.tuple #[.bool false]) H):aE P (Instr.next (.pointer (some ⟨b,0,none⟩)) true ty) H K:=by
 refine⟨fun w hw=>⟨_,w,?_,dC.refl w,hw▸hk⟩⟩;have hI:=hI.out;subst hw;simp[Instr.next,getObj,Sem.run,hI,h]
theorem ahp (l:Bs) (n:Nat):(ag l).get! n=l.getD n 0:=by
 show(l.toArray)[n]! =_;rw[List.getElem!_toArray,List.getElem!_eq_getElem?_getD,aT];rfl
structure V6 (l:Bs) (pos c w:Nat):Prop where
 w1:1<=w
 le:pos+w<=l.length
 lo:(l.getD pos 0).toNat<128->c=(l.getD pos 0).toNat/\w=1
 hi:128<=(l.getD pos 0).toNat->128<=c/\ ∀ j,pos<=j->j<pos+w->128<=(l.getD j 0).toNat
theorem aay (l:Bs) (pos:Nat) (h:pos<l.length):V6 l pos (Utf8.decode (ag l) pos).1 (Utf8.decode (ag l) pos).2:=by
 have hs:(ag l).size=l.length:=rfl;have one: ∀ c,128<=(l.getD pos 0).toNat->128<=c->V6 l pos c 1:=fun c h0 hc=>⟨aB _,h,fun h1=>by omega,fun _=>⟨hc,fun j h1 h2=>by
  have:j=pos:=by omega
  rw[this];exact h0⟩⟩
 unfold Utf8.decode;simp only[ahp,hs,Nat.add_zero];by_cases h0:(l.getD pos 0).toNat<128
 .rw[av h0];exact⟨aB _,h,fun _=>⟨rfl,rfl⟩,fun h1=>by omega⟩
 .rw[ak h0];have h1:128<=(l.getD pos 0).toNat:=by omega
  have hr:128<=Utf8.runeError:=by decide
  split
  .rename_i hc;simp only[bC,aK,bU]at hc;split
   .rename_i kq;refine⟨by omega,by omega,fun h2=>by omega,fun _=>⟨kq,fun j h3 h4=> ?_⟩⟩;obtain rfl|rfl:j=pos\/j=pos+1:=by omega
    .exact h1
    .omega
   .exact one _ h1 hr
  .split
   .rename_i hc;simp only[bC,aK,bU]at hc;split
    .rename_i kq;simp only[bC,aK]at kq;refine⟨by omega,by omega,fun h2=>by omega,fun _=>⟨dh (by decide) kq.1,fun j h3 h4=> ?_⟩⟩;obtain rfl|rfl|rfl:j=pos\/j=pos+1\/j=pos+2:=by omega
     .exact h1
     .omega
     .omega
    .exact one _ h1 hr
   .split
    .rename_i hc;simp only[bC,aK,bU]at hc;split
     .rename_i kq;simp only[bC,aK]at kq;refine⟨by omega,by omega,fun h2=>by omega,fun _=>⟨dh (by decide) kq.1,fun j h3 h4=> ?_⟩⟩;obtain rfl|rfl|rfl|rfl:j=pos\/j=pos+1\/j=pos+2\/j=pos+3:=by omega
      .exact h1
      .omega
      .omega
      .omega
     .exact one _ h1 hr
    .exact one _ h1 hr
end Go.Vc
namespace Go.Vc
structure Bx (q:Prop):Prop where out:q
theorem cJ {p q:Prop} (hq:q) (h:Bx q->p:=by(intro hq;first|(with_reducible first|exact Go.Vc.jO.go hq.out|exact Go.Vc.kL.nil hq.out|exact Go.Vc.lj.of hq.out|exact Go.Vc.Aa.of hq.out|exact Go.Vc.cy.text mixed (by decide+kernel) hq.out|exact Go.Vc.fm.i64 (by omega) hq.out|exact Go.Vc.fm.u8 (by omega) hq.out|exact Go.Vc.fm.u64 (by omega) hq.out|exact Go.Vc.fm.u32 (by omega) hq.out|exact Go.Vc.kM.mk ⟨by omega,hq.out⟩|exact Go.Vc.Am.i64 (by omega) hq.out|exact Go.Vc.wc.pos (by omega) hq.out|exact Go.Vc.eN.Gv hq.out|exact Go.Vc.eN.vW hq.out|exact Go.Vc.eN.vX hq.out|exact Go.Vc.eS.vW hq.out|exact Go.Vc.eS.vX hq.out|exact Go.Vc.eN.pos (by first|(rw[aK];omega)|(rw[bU];omega)|(rw[dM];omega)) hq.out|exact Go.Vc.eN.neg (by first|(rw[aY];omega)|(rw[bK];omega)|(rw[dA];omega)) hq.out))):p:=h ⟨hq⟩
theorem AY {p q:Prop} (hq:q) (h:Bx q->p:=by(intro hq;first|(with_reducible first|exact Go.Vc.kL.nil hq.out|exact Go.Vc.lj.of hq.out|exact Go.Vc.Aa.of hq.out|exact Go.Vc.cy.text mixed (by decide+kernel) hq.out|exact Go.Vc.fm.i64 (by omega) hq.out|exact Go.Vc.fm.u8 (by omega) hq.out|exact Go.Vc.fm.u64 (by omega) hq.out|exact Go.Vc.fm.u32 (by omega) hq.out|exact Go.Vc.kM.mk ⟨by omega,hq.out⟩|exact Go.Vc.Am.i64 (by omega) hq.out|exact Go.Vc.wc.pos (by omega) hq.out|exact Go.Vc.eN.Gv hq.out|exact Go.Vc.eN.vW hq.out|exact Go.Vc.eN.vX hq.out|exact Go.Vc.eS.vW hq.out|exact Go.Vc.eS.vX hq.out|exact Go.Vc.eN.pos (by first|(rw[aK];omega)|(rw[bU];omega)|(rw[dM];omega)) hq.out|exact Go.Vc.eN.neg (by first|(rw[aY];omega)|(rw[bK];omega)|(rw[dA];omega)) hq.out))):p:=h ⟨hq⟩
theorem aq {p q:Prop} (hq:q) (h:Bx q->p:=by(intro hq;first|(with_reducible first|exact Go.Vc.jO.go hq.out|exact Go.Vc.kL.nil hq.out|exact Go.Vc.lj.of hq.out|exact Go.Vc.Aa.of hq.out|exact Go.Vc.cy.text mixed (by decide+kernel) hq.out|exact Go.Vc.fm.i64 (by omega) hq.out|exact Go.Vc.fm.u8 (by omega) hq.out|exact Go.Vc.fm.u64 (by omega) hq.out|exact Go.Vc.fm.u32 (by omega) hq.out|exact Go.Vc.kM.mk ⟨by omega,hq.out⟩|exact Go.Vc.kM.mk ⟨rfl,hq.out⟩|exact Go.Vc.Am.i64 (by omega) hq.out|exact Go.Vc.wc.pos (by omega) hq.out|exact Go.Vc.eN.Gv hq.out|exact Go.Vc.eN.vW hq.out|exact Go.Vc.eN.vX hq.out|exact Go.Vc.eS.vW hq.out|exact Go.Vc.eS.vX hq.out|exact Go.Vc.eN.pos (by assumption) hq.out|exact Go.Vc.eN.neg (by assumption) hq.out|exact Go.Vc.eS.pos (by assumption) hq.out|exact Go.Vc.eS.neg (by assumption) hq.out|exact Go.Vc.eN.pos (by first|(rw[aK];omega)|(rw[bU];omega)|(rw[dM];omega)) hq.out|exact Go.Vc.eN.neg (by first|(rw[aY];omega)|(rw[bK];omega)|(rw[dA];omega)) hq.out|exact Go.Vc.eS.pos (by first|(rw[aK];omega)|(rw[bU];omega)|(rw[dM];omega)) hq.out|exact Go.Vc.eS.neg (by first|(rw[aY];omega)|(rw[bK];omega)|(rw[dA];omega)) hq.out|exact Go.Vc.eN.same hq.out|exact Go.Vc.eS.same hq.out|exact Go.Vc.eS.V4 hq.out|exact Go.Vc.eS.WA (by assumption) hq.out|exact Go.Vc.eS.WB (by assumption) hq.out|exact Go.Vc.eN.Lw hq.out|exact Go.Vc.eN.G8 hq.out|exact Go.Vc.eS.Lw hq.out|exact Go.Vc.eS.G8 hq.out|exact Go.Vc.eN.pos (by first|decide|(dsimp only;decide)) hq.out|exact Go.Vc.eN.neg (by first|decide|(dsimp only;decide)) hq.out|exact Go.Vc.eS.pos (by first|decide|(dsimp only;decide)) hq.out|exact Go.Vc.eS.neg (by first|decide|(dsimp only;decide)) hq.out)|((with_reducible apply Go.Vc.aE.Kr);(focus(repeat(first|assumption|((with_reducible apply Go.Vc.bu.ext);(case k=>assumption))|((with_reducible apply Go.Vc.bu.but);(case k=>assumption);(case hb=>omega)))));rfl;rfl;exact hq.out)|((with_reducible apply Go.Vc.aE.rX);(focus(repeat(first|assumption|((with_reducible apply Go.Vc.bu.ext);(case k=>assumption))|((with_reducible apply Go.Vc.bu.but);(case k=>assumption);(case hb=>omega)))));rfl;rfl;rfl;exact hq.out)|((with_reducible apply Go.Vc.kL.load);rfl;rfl;rfl;rfl;rfl;rfl;(focus(first|((with_reducible apply Go.Vc.aE.Kr);(focus(repeat(first|assumption|((with_reducible apply Go.Vc.bu.ext);(case k=>assumption))|((with_reducible apply Go.Vc.bu.but);(case k=>assumption);(case hb=>omega)))));rfl;rfl;rfl)|((with_reducible apply Go.Vc.aE.rX);(focus(repeat(first|assumption|((with_reducible apply Go.Vc.bu.ext);(case k=>assumption))|((with_reducible apply Go.Vc.bu.but);(case k=>assumption);(case hb=>omega)))));rfl;rfl;rfl;rfl)|((with_reducible apply Go.Vc.aE.nZ);rfl;(focus assumption);(focus(repeat(first|assumption|exact Go.Vc.ax.refl _|((with_reducible apply Go.Vc.ax.trans);(case k=>assumption))|((with_reducible apply Go.Vc.ax.but);(case k=>assumption);(case hb=>omega)))));rfl)));exact hq.out)|((with_reducible apply Go.Vc.kL.skip rfl rfl rfl rfl);exact hq.out)|((with_reducible apply Go.Vc.aE.box);exact hq.out)|((with_reducible apply Go.Vc.aE.alloc);rfl;rfl;exact hq.out)|((with_reducible apply Go.Vc.dc.UZ);(focus(repeat(first|assumption|((with_reducible apply Go.Vc.bu.ext);(case k=>assumption))|((with_reducible apply Go.Vc.bu.but);(case k=>assumption);(case hb=>omega)))));rfl;rfl;rfl;rfl;exact hq.out)|((with_reducible apply Go.Vc.dc.UY);(focus(repeat(first|assumption|((with_reducible apply Go.Vc.bu.ext);(case k=>assumption))|((with_reducible apply Go.Vc.bu.but);(case k=>assumption);(case hb=>omega)))));rfl;rfl;rfl;rfl;exact hq.out)|((with_reducible apply Go.Vc.aE.nZ);rfl;(focus assumption);(focus(repeat(first|assumption|exact Go.Vc.ax.refl _|((with_reducible apply Go.Vc.ax.trans);(case k=>assumption))|((with_reducible apply Go.Vc.ax.but);(case k=>assumption);(case hb=>omega)))));exact hq.out)|((with_reducible apply Go.Vc.aE.lit (vs:=[_]));rfl;rfl;rfl;rfl;rfl;rfl;rfl;exact hq.out)|((with_reducible apply Go.Vc.aE.lit (vs:=[_,_]));rfl;rfl;rfl;rfl;rfl;rfl;rfl;exact hq.out)|((with_reducible apply Go.Vc.aE.lit (vs:=[_,_,_]));rfl;rfl;rfl;rfl;rfl;rfl;rfl;exact hq.out)|((with_reducible apply Go.Vc.aE.lit (vs:=[_,_,_,_]));rfl;rfl;rfl;rfl;rfl;rfl;rfl;exact hq.out)|((with_reducible apply Go.Vc.cP.V5);(focus(repeat(first|assumption|((with_reducible apply Go.Vc.bu.ext);(case k=>assumption))|((with_reducible apply Go.Vc.bu.but);(case k=>assumption);(case hb=>omega)))));(focus(repeat(first|assumption|((with_reducible apply Go.Vc.cq.ext);(case k=>assumption))|((with_reducible apply Go.Vc.cq.but);(case k=>assumption);(case hb=>omega)))));(focus(repeat(first|assumption|exact Go.Vc.ax.refl _|((with_reducible apply Go.Vc.ax.trans);(case k=>assumption))|((with_reducible apply Go.Vc.ax.but);(case k=>assumption);(case hb=>omega)))));(focus omega);rfl;(focus(exact⟨_,rfl,fun _ h=>by cases h⟩));rfl;rfl;rfl;rfl;rfl;rfl;rfl;exact hq.out))):p:=h ⟨hq⟩
theorem pe {p q:Prop} (hq:q) (h:Bx q->p:=by(intro hq;first|(with_reducible first|exact Go.Vc.kL.nil hq.out|exact Go.Vc.lj.of hq.out|exact Go.Vc.Aa.of hq.out|exact Go.Vc.cy.text mixed (by decide+kernel) hq.out|exact Go.Vc.fm.i64 (by omega) hq.out|exact Go.Vc.fm.u8 (by omega) hq.out|exact Go.Vc.fm.u64 (by omega) hq.out|exact Go.Vc.fm.u32 (by omega) hq.out|exact Go.Vc.kM.mk ⟨by omega,hq.out⟩|exact Go.Vc.kM.mk ⟨rfl,hq.out⟩|exact Go.Vc.Am.i64 (by omega) hq.out|exact Go.Vc.wc.pos (by omega) hq.out|exact Go.Vc.eN.Gv hq.out|exact Go.Vc.eN.vW hq.out|exact Go.Vc.eN.vX hq.out|exact Go.Vc.eS.vW hq.out|exact Go.Vc.eS.vX hq.out|exact Go.Vc.eN.pos (by assumption) hq.out|exact Go.Vc.eN.neg (by assumption) hq.out|exact Go.Vc.eS.pos (by assumption) hq.out|exact Go.Vc.eS.neg (by assumption) hq.out|exact Go.Vc.eN.pos (by first|(rw[aK];omega)|(rw[bU];omega)|(rw[dM];omega)) hq.out|exact Go.Vc.eN.neg (by first|(rw[aY];omega)|(rw[bK];omega)|(rw[dA];omega)) hq.out|exact Go.Vc.eS.pos (by first|(rw[aK];omega)|(rw[bU];omega)|(rw[dM];omega)) hq.out|exact Go.Vc.eS.neg (by first|(rw[aY];omega)|(rw[bK];omega)|(rw[dA];omega)) hq.out|exact Go.Vc.eN.same hq.out|exact Go.Vc.eS.same hq.out|exact Go.Vc.eS.V4 hq.out|exact Go.Vc.eS.WA (by assumption) hq.out|exact Go.Vc.eS.WB (by assumption) hq.out|exact Go.Vc.eN.Lw hq.out|exact Go.Vc.eN.G8 hq.out|exact Go.Vc.eS.Lw hq.out|exact Go.Vc.eS.G8 hq.out|exact Go.Vc.eN.pos (by first|decide|(dsimp only;decide)) hq.out|exact Go.Vc.eN.neg (by first|decide|(dsimp only;decide)) hq.out|exact Go.Vc.eS.pos (by first|decide|(dsimp only;decide)) hq.out|exact Go.Vc.eS.neg (by first|decide|(dsimp only;decide)) hq.out)|((with_reducible apply Go.Vc.aE.Kr);(focus(repeat(first|assumption|((with_reducible apply Go.Vc.bu.ext);(case k=>assumption))|((with_reducible apply Go.Vc.bu.but);(case k=>assumption);(case hb=>omega)))));rfl;rfl;exact hq.out)|((with_reducible apply Go.Vc.aE.rX);(focus(repeat(first|assumption|((with_reducible apply Go.Vc.bu.ext);(case k=>assumption))|((with_reducible apply Go.Vc.bu.but);(case k=>assumption);(case hb=>omega)))));rfl;rfl;rfl;exact hq.out)|((with_reducible apply Go.Vc.kL.load);rfl;rfl;rfl;rfl;rfl;rfl;(focus(first|((with_reducible apply Go.Vc.aE.Kr);(focus(repeat(first|assumption|((with_reducible apply Go.Vc.bu.ext);(case k=>assumption))|((with_reducible apply Go.Vc.bu.but);(case k=>assumption);(case hb=>omega)))));rfl;rfl;rfl)|((with_reducible apply Go.Vc.aE.rX);(focus(repeat(first|assumption|((with_reducible apply Go.Vc.bu.ext);(case k=>assumption))|((with_reducible apply Go.Vc.bu.but);(case k=>assumption);(case hb=>omega)))));rfl;rfl;rfl;rfl)|((with_reducible apply Go.Vc.aE.nZ);rfl;(focus assumption);(focus(repeat(first|assumption|exact Go.Vc.ax.refl _|((with_reducible apply Go.Vc.ax.trans);(case k=>assumption))|((with_reducible apply Go.Vc.ax.but);(case k=>assumption);(case hb=>omega)))));rfl)));exact hq.out)|((with_reducible apply Go.Vc.kL.skip rfl rfl rfl rfl);exact hq.out)|((with_reducible apply Go.Vc.aE.box);exact hq.out)|((with_reducible apply Go.Vc.aE.alloc);rfl;rfl;exact hq.out)|((with_reducible apply Go.Vc.dc.UZ);(focus(repeat(first|assumption|((with_reducible apply Go.Vc.bu.ext);(case k=>assumption))|((with_reducible apply Go.Vc.bu.but);(case k=>assumption);(case hb=>omega)))));rfl;rfl;rfl;rfl;exact hq.out)|((with_reducible apply Go.Vc.dc.UY);(focus(repeat(first|assumption|((with_reducible apply Go.Vc.bu.ext);(case k=>assumption))|((with_reducible apply Go.Vc.bu.but);(case k=>assumption);(case hb=>omega)))));rfl;rfl;rfl;rfl;exact hq.out)|((with_reducible apply Go.Vc.aE.nZ);rfl;(focus assumption);(focus(repeat(first|assumption|exact Go.Vc.ax.refl _|((with_reducible apply Go.Vc.ax.trans);(case k=>assumption))|((with_reducible apply Go.Vc.ax.but);(case k=>assumption);(case hb=>omega)))));exact hq.out)|((with_reducible apply Go.Vc.aE.lit (vs:=[_]));rfl;rfl;rfl;rfl;rfl;rfl;rfl;exact hq.out)|((with_reducible apply Go.Vc.aE.lit (vs:=[_,_]));rfl;rfl;rfl;rfl;rfl;rfl;rfl;exact hq.out)|((with_reducible apply Go.Vc.aE.lit (vs:=[_,_,_]));rfl;rfl;rfl;rfl;rfl;rfl;rfl;exact hq.out)|((with_reducible apply Go.Vc.aE.lit (vs:=[_,_,_,_]));rfl;rfl;rfl;rfl;rfl;rfl;rfl;exact hq.out)|((with_reducible apply Go.Vc.cP.V5);(focus(repeat(first|assumption|((with_reducible apply Go.Vc.bu.ext);(case k=>assumption))|((with_reducible apply Go.Vc.bu.but);(case k=>assumption);(case hb=>omega)))));(focus(repeat(first|assumption|((with_reducible apply Go.Vc.cq.ext);(case k=>assumption))|((with_reducible apply Go.Vc.cq.but);(case k=>assumption);(case hb=>omega)))));(focus(repeat(first|assumption|exact Go.Vc.ax.refl _|((with_reducible apply Go.Vc.ax.trans);(case k=>assumption))|((with_reducible apply Go.Vc.ax.but);(case k=>assumption);(case hb=>omega)))));(focus omega);rfl;(focus(exact⟨_,rfl,fun _ h=>by cases h⟩));rfl;rfl;rfl;rfl;rfl;rfl;rfl;exact hq.out))):p:=h ⟨hq⟩
theorem bz {p a b:Prop} (ha:a) (hb:b) (h:Bx a->Bx b->p:=by(intro ha hb;with_reducible first|exact Go.Vc.eN.dec ha.out hb.out|exact Go.Vc.eN.Pz ha.out hb.out|exact Go.Vc.eN.aiR ha.out hb.out|exact Go.Vc.eN.str ha.out hb.out|exact Go.Vc.eS.dec ha.out hb.out|exact Go.Vc.eS.Pz ha.out hb.out|exact Go.Vc.eS.aiR ha.out hb.out|exact Go.Vc.eS.str ha.out hb.out|exact Go.Vc.eS.Gv ha.out hb.out|exact Go.Vc.eN.bool ha.out hb.out|exact Go.Vc.eS.bool ha.out hb.out)):p:=h ⟨ha⟩ ⟨hb⟩
end Go.Vc
namespace Go.cN
abbrev ap:=List UInt8
def gR (c:UInt8):Bool:=c==32 || c==9
def gS:ap->Option (ap×ap)
 |[]=>none
 |c::t=>
  if c=34 then some ([],t)
  else if c=92 then match t with
   |[]=>none
   |d::u=>
    if d=34\/d=92 then(gS u).map fun p=>(d::p.1,p.2)
    else if d=110 then(gS u).map fun p=>(10::p.1,p.2)
    else none
  else(gS t).map fun p=>(c::p.1,p.2)
theorem Bl: ∀ (n:Nat) (l:ap),l.length<=n-> ∀ {w r:ap},gS l=some (w,r)->r.length<l.length
 |_,[],_,_,_,h=>by simp[gS]at h
 |0,c::t,hn,_,_,_=>by simp at hn
 |n+1,c::t,hn,w,r,h=>by
  simp only[ay]at hn ⊢;unfold gS at h;split at h
  .cases h;omega
  .split at h
   .split at h
    .cases h
    .rename_i d u;simp only[ay]at hn ⊢;split at h
     .cases hq:gS u with
      |none=>rw[hq]at h;cases h
      |some p=>rw[hq]at h;cases h;have:=Bl n u (by omega) (w:=p.1) (r:=p.2) hq;omega
     .split at h
      .cases hq:gS u with
       |none=>rw[hq]at h;cases h
       |some p=>rw[hq]at h;cases h;have:=Bl n u (by omega) (w:=p.1) (r:=p.2) hq;omega
      .cases h
   .cases hq:gS t with
    |none=>rw[hq]at h;cases h
    |some p=>rw[hq]at h;cases h;have:=Bl n t (by omega) (w:=p.1) (r:=p.2) hq;omega
theorem C5 {p:UInt8->Bool}: ∀ l:ap,(l.dropWhile p).length<=l.length
 |[]=>aB _
 |c::t=>by
  rw[gN];split
  .have:=C5 (p:=p) t;simp only[ay];omega
  .exact aB _
def mR:Nat->ap->Option (List ap)
 |_,[]=>some []
 |0,_=>none
 |n+1,c::t=>
  if gR c then mR n t
  else if c=34 then match gS t with
   |none=>none
   |some (w,r)=>if r≠ []/\ ¬gR (r.headD 0)=true then none else(mR n r).map fun l=>(34::w)::l
  else(mR n (t.dropWhile fun x=> !gR x)).map fun l=>(c::t.takeWhile fun x=> !gR x)::l
def li (l:ap):Option (List ap):=mR l.length l
theorem Fp: ∀ (n m:Nat) (l:ap),l.length<=n->l.length<=m->mR n l=mR m l
 |n,m,[],_,_=>by cases n<;>cases m<;>rfl
 |0,m,c::t,h,_=>by simp at h
 |n+1,0,c::t,_,h=>by simp at h
 |n+1,m+1,c::t,h1,h2=>by
  simp only[ay]at h1 h2;unfold mR;have hd:=C5 (p:=fun x=> !gR x) t;split
  .exact Fp n m t (by omega) (by omega)
  .split
   .cases hq:gS t with
    |none=>rfl
    |some p=>
     obtain⟨w,r⟩:=p;have:=Bl _ t (aB _) hq;dsimp only;rw[Fp n m r (by omega) (by omega)]
   .rw[Fp n m _ (by omega) (by omega)]
theorem M1:li []=some []:=rfl
theorem Jo {c:UInt8} {t:ap} (h:gR c=true):li (c::t)=li t:=by
 show mR (t.length+1) (c::t)=_;unfold mR;rw[av h];rfl
theorem MH {t:ap}:li (34::t)=match gS t with
  |none=>none
  |some (w,r)=>if r≠ []/\ ¬gR (r.headD 0)=true then none else(li r).map fun l=>(34::w)::l:=by
 show mR (t.length+1) (34::t)=_;unfold mR;rw[ak (by decide),av rfl];cases hq:gS t with
 |none=>rfl
 |some p=>
  obtain⟨w,r⟩:=p;have:=Bl _ t (aB _) hq;dsimp only;rw[Fp t.length r.length r (by omega) (aB _)];rfl
theorem Ju {c:UInt8} {t:ap} (h1:gR c=false) (h2:c≠34):li (c::t)=(li (t.dropWhile fun x=> !gR x)).map fun l=>(c::t.takeWhile fun x=> !gR x)::l:=by
 show mR (t.length+1) (c::t)=_;unfold mR;rw[ak (by rw[h1];decide),ak h2];have hd:=C5 (p:=fun x=> !gR x) t;rw[Fp t.length _ _ hd (aB _)];rfl
theorem MS: ∀ l:ap,li (l.dropWhile gR)=li l
 |[]=>rfl
 |c::t=>by
  rw[gN];split
  .rename_i h;rw[MS t,Jo h]
  .rfl
structure Ln where
 k:Nat
 a:ap
 b:ap
 tx:ap
 n:Nat
 nt:Bool
deriving DecidableEq
def qv:List ap:=[[99,111,112,121],[119,114,105,116,101],[97,112,112,101,110,100],[109,107,100,105,114],[114,101,109,111,118,101],[114,101,110,97,109,101],[115,101,116],[105,102],[114,101,112,101,97,116],[101,108,115,101],[101,110,100],[102,97,105,108]]
def B6:ap:=[110,111,116]
def DB:ap:=[101,120,105,115,116,115]
def BT (w:ap):Nat:=qv.findIdx (· ==w)
def p8 (w:ap):Bool:=w.head? != some 34
def D6:Nat->ap->Option Nat
 |n,[]=>some n
 |n,c::t=>if 48<=c.toNat/\c.toNat<=57 then D6 (10*n+(c.toNat-48)) t else none
def vN (w:ap):Option Nat:=if 9<w.length then none else match D6 0 w with
 |none=>none
 |some n=>if n<=1000 then some n else none
def kW (k:Nat):List ap->Option Ln
 |[x,y]=>if p8 x/\p8 y then some ⟨k,x,y,[],0,false⟩else none
 |_=>none
def xY (k:Nat):List ap->Option Ln
 |[x,y]=>if p8 x/\ ¬p8 y then some ⟨k,x,[],y.tail,0,false⟩else none
 |_=>none
def Ap (k:Nat):List ap->Option Ln
 |[x]=>if p8 x then some ⟨k,x,[],[],0,false⟩else none
 |_=>none
def zI:List ap->Option Ln
 |[e,x]=>if e=DB/\p8 x then some ⟨7,x,[],[],0,false⟩else none
 |[n,e,x]=>if n=B6/\e=DB/\p8 x then some ⟨7,x,[],[],0,true⟩else none
 |_=>none
def zz:List ap->Option Ln
 |[x]=>(vN x).map fun n=>⟨8,[],[],[],n,false⟩
 |_=>none
def Ab (k:Nat):List ap->Option Ln
 |[]=>some ⟨k,[],[],[],0,false⟩
 |_=>none
def BU:List ap->Option Ln
 |[x]=>if ¬p8 x then some ⟨11,[],[],x.tail,0,false⟩else none
 |_=>none
def r5:List ap->Option Ln
 |[]=>none
 |w::ws=>match BT w with
  |0=>kW 0 ws
  |1=>xY 1 ws
  |2=>xY 2 ws
  |3=>Ap 3 ws
  |4=>Ap 4 ws
  |5=>kW 5 ws
  |6=>xY 6 ws
  |7=>zI ws
  |8=>zz ws
  |9=>Ab 9 ws
  |10=>Ab 10 ws
  |11=>BU ws
  |_=>none
def mS (o:List Nat) (k:Nat):Option (List Nat):=
 if k=7\/k=8 then(if o.length=8 then none else some (o++[k]))
 else if k=9 then(if o.getLast? =some 7 then some (o.dropLast++[9])else none)
 else if k=10 then(if o=[]then none else some o.dropLast)
 else some o
def dj (c:UInt8):ap->List ap
 |[]=>[[]]
 |x::t=>if x=c then []::dj c t else match dj c t with
  |[]=>[[x]]
  |w::l=>(x::w)::l
def sE (s:ap):List ap:=let l:=dj 10 s;if l.getLast? =some []then l.dropLast else l
def BV (l:ap):Bool:=match l.dropWhile gR with
 |[]=>true
 |c::_=>c==35
def oT:List ap->Nat->List Ln->List Nat->Option (List Ln)×Nat
 |[],_,out,o=>if o=[]then(some out,0)else(none,0)
 |l::ls,i,out,o=>
  if BV l then oT ls (i+1) out o
  else match li l with
   |none=>(none,i+1)
   |some w=>match r5 w with
    |none=>(none,i+1)
    |some x=>if out.length=200 then(none,i+1)else match mS o x.k with
     |none=>(none,i+1)
     |some o'=>oT ls (i+1) (out++[x]) o'
def iU (s:ap):Option (List Ln)×Nat:=if 65536<s.length then(none,0)else oT (sE s) 0 [] []
theorem Bm {c:UInt8}: ∀ (l r:ap),c∉l->dj c (l++c::r)=l::dj c r
 |[],r,_=>by show dj c (c::r)=_;rw[dj,av rfl]
 |x::l,r,h=>by
  have hx:x≠c:=fun e=>h (by simp[e]);show dj c (x::(l++c::r))=_;rw[dj,ak hx,Bm l r fun hm=>h (by simp[hm])]
def Aq (ls:List ap):ap:=ls.flatMap fun l=>l++[10]
theorem Sv: ∀ (ls:List ap),(∀ l∈ls,(10:UInt8)∉l)->dj 10 (Aq ls)=ls++[[]]
 |[],_=>rfl
 |l::ls,h=>by
  show dj 10 ((l++[10])++Aq ls)=_;rw[bM];show dj 10 (l++10::Aq ls)=_;rw[Bm _ _ (h l (by simp)),Sv ls fun x hx=>h x (by simp[hx])];rfl
theorem abv (ls:List ap) (h: ∀ l∈ls,(10:UInt8)∉l):sE (Aq ls)=ls:=by
 unfold sE;dsimp only;rw[Sv ls h,List.getLast?_concat,av rfl,List.dropLast_concat]
theorem abw (ls:List ap) (h: ∀ l∈ls,(10:UInt8)∉l) (hl:(Aq ls).length<=65536):iU (Aq ls)=oT ls 0 [] []:=by
 unfold iU;rw[ak (by omega),abv ls h]
def D7 (c:UInt8):ap:=if c=34\/c=92 then [92,c]else if c=10 then [92,110]else [c]
def nT (t:ap):ap:=t.flatMap D7
theorem R2: ∀ (t r:ap),gS (nT t++34::r)=some (t,r)
 |[],r=>by show gS (34::r)=_;unfold gS;rw[av rfl]
 |c::t,r=>by
  have ih:=R2 t r;have e:nT (c::t)++34::r=D7 c++(nT t++34::r):=by simp[nT]
  rw[e];unfold D7;by_cases h1:c=34\/c=92
  .rw[av h1];show gS (92::c::(nT t++34::r))=_;unfold gS;rw[ak (by decide),av rfl];dsimp only;rw[av h1,ih];rfl
  .rw[ak h1];have ub:c≠34:=fun e=>h1 (.inl e);have G9:c≠92:=fun e=>h1 (.inr e);by_cases h2:c=10
   .rw[av h2];subst h2;show gS (92::110::(nT t++34::r))=_;unfold gS;rw[ak (by decide),av rfl];dsimp only;rw[ak (by decide),av rfl,ih];rfl
   .rw[ak h2];show gS (c::(nT t++34::r))=_;unfold gS;rw[ak ub,ak G9,ih];rfl
theorem aeq (t:ap):(10:UInt8)∉nT t:=by
 intro h;obtain⟨c,_,hc⟩:=iw.1 h;unfold D7 at hc;split at hc
 .simp at hc;rename_i h;rcases h with rfl|rfl<;>simp at hc
 .split at hc
  .simp at hc
  .rename_i h2;simp at hc;exact h2 hc.symm
end Go.cN
namespace Go.Proofs.YtphkaogbcfdllaaGreatDoor
open Go Go.Vc Go.cN
theorem mixed:Tryz.prog.follows .mixedOrders=true:=by kernel_rfl
theorem vT (n:Nat) (hn:n<256) {c:UInt8} (h:c≠UInt8.ofNat n):c.toNat≠n:=fun e=>h (dJ.1 (by rw[fJ];omega))
theorem pX {l:Bs} {i:Nat} (h:i<l.length): ∃ c,(ag l).data.toList.getD i 0=c/\l.drop i=c::l.drop (i+1):=⟨l[i],by show l.getD i 0=_;rw[aT,aD h];rfl,bP h⟩
theorem zn {H:ae} {b:Nat} {e:TypeId} {a:Option Addr} {cap:Nat} {l:Bs} {c:UInt8} (h:cq H b e 1 a (l.length+1) cap (cv l++[.int .u8 c.toNat])):cq H b e 1 a (l++[c]).length cap (cv (l++[c])):=by
 rw[rh,au];exact h
theorem zA (a:Option Addr) (l:Bs) (c:UInt8) (cap:Nat):Value.slice a (l.length+1) cap=Value.slice a (l++[c]).length cap:=by rw[au];rfl
theorem xv (c:UInt8) (t:Bs):((ag (c::t)).toList==(⟨#[]⟩:ByteArray).toList)=false:=by
 rw[p5,aY];intro h;have:=aZ ByteArray.size h;cases this
theorem tp {H:ae} {b:Nat} {e:TypeId} {a:Option Addr} {cap:Nat} {l:List Bs} {c:Bs} {s:ByteArray} (hs:s=ag c) (h:cq H b e 1 a (l.length+1) cap (strs l++[.string s])):cq H b e 1 a (l++[c]).length cap (strs (l++[c])):=by
 rw[Jt,au];subst hs;exact h
theorem uF (a:Option Addr) (l:List Bs) (c:Bs) (cap:Nat):Value.slice a (l.length+1) cap=Value.slice a (l++[c]).length cap:=by rw[au];rfl
theorem Kf {H:ae} {g base:Nat} {e:TypeId} {xs:List Value} {n:Nat} (h:bu H g xs.toArray e) (hb:base<=g) (hn:xs.length=n) (hm:n<=1000000):cq H base e 1 (some ⟨g,0,none⟩) n n xs:=
 ⟨by omega,.inr ⟨g,xs.toArray,rfl,hb,h,aB _,by unfold maxLen;omega,by simp[hn],by simp[<-hn]⟩⟩
end Go.Proofs.YtphkaogbcfdllaaGreatDoor
namespace Go.eg
open Go.cN
def D8 (c:UInt8):Bool:=decide (c.toNat<33) || decide (126<c.toNat) || c.toNat==34 || c.toNat==92 || c.toNat==42 || c.toNat==63 || c.toNat==58
def wh (s:ap):Bool:=decide (32<s.length) || s.any D8
def glue:List ap->ap
 |[]=>[]
 |[x]=>x
 |x::y::l=>x++47::glue (y::l)
def iP (stay:Nat) (l:List ap):List ap->List ap×Nat
 |[]=>if 12<l.length then([],50)else(l,0)
 |x::xs=>if x=[]\/x=[46]then iP stay l xs
  else if x=[46,46]then(if l.length<=stay then([],51)else iP stay l.dropLast xs)
  else if wh x=true then([],50)else iP stay (l++[x]) xs
def px (p:ap):List ap:=if p=[]then []else dj 47 p
def r6 (d s:ap):ap×Nat:=
 if 200<(if d=[]then 0 else d.length+1)+s.length then([],50)
 else if s.head? =some 47 then([],51)
 else(glue (iP (px d).length (px d) (dj 47 s)).1,(iP (px d).length (px d) (dj 47 s)).2)
def cF (s:ap):ap×Nat:=r6 [] s
def BD (p:ap):ap:=glue (px p).dropLast
def eL (p d:ap):Bool:=d== [] || p==d || (d++[47]).isPrefixOf p
def jm (p:ap):List ap:=(List.range ((px p).length-1)).map fun i=>glue ((px p).take (i+1))
structure jY (x:ap):Prop where
 ne:x≠ []
 dot:x≠ [46]
 WC:x≠ [46,46]
 ok:wh x=false
 no:(47:UInt8)∉x
structure uK (l:List ap):Prop where
 good: ∀ x∈l,jY x
 deep:l.length<=12
 long:(glue l).length<=200
def jk (p:ap):Prop:=∃ l,p=glue l/\uK l
theorem JD {c:UInt8}: ∀ {l:ap},c∉l->dj c l=[l]
 |[],_=>rfl
 |x::l,h=>by
  have hx:x≠c:=fun e=>h (by simp[e]);rw[dj,ak hx,JD (l:=l) fun hm=>h (by simp[hm])]
theorem uB (x:ap) {l:List ap} (h:l≠ []):glue (x::l)=x++47::glue l:=by
 cases l with
 |nil=>exact absurd rfl h
 |cons y l=>rfl
theorem Fq: ∀ {l:List ap},(∀ x∈l,(47:UInt8)∉x)->l≠ []->dj 47 (glue l)=l
 |[],_,h=>absurd rfl h
 |[x],h,_=>JD (h x (by simp))
 |x::y::l,h,_=>by
  rw[uB x (by simp),Bm _ _ (h x (by simp)),Fq (l:=y::l) (fun z hz=>h z (by simp[hz])) (by simp)]
theorem FD (c:UInt8): ∀ s:ap,dj c s≠ []
 |[]=>by simp[dj]
 |x::t=>by
  rw[dj];split
  .simp
  .split<;>simp
theorem Fs: ∀ s:ap,glue (dj 47 s)=s
 |[]=>rfl
 |x::t=>by
  have ih:=Fs t;rw[dj];split
  .rename_i h;rw[uB _ (FD _ _),ih,h];rfl
  .cases ht:dj 47 t with
   |nil=>exact absurd ht (FD _ _)
   |cons w l=>
    rw[ht]at ih;cases l with
    |nil=>show x::w=_;rw[<-ih];rfl
    |cons y l=>rw[<-ih];rfl
theorem NY (c:UInt8): ∀ (s:ap),∀ x∈dj c s,c∉x
 |[],x,h=>by simp[dj]at h;subst h;simp
 |a::t,x,h=>by
  rw[dj]at h;split at h
  .rcases aM.1 h with h|h
   .subst h;simp
   .exact NY c t x h
  .rename_i XI;cases ht:dj c t with
   |nil=>exact absurd ht (FD _ _)
   |cons w l=>
    rw[ht]at h;have ih:=NY c t;rw[ht]at ih;rcases aM.1 h with h|h
    .subst h;intro hm;rcases aM.1 hm with e|e
     .exact XI e.symm
     .exact ih w (by simp) e
    .exact ih x (by simp[h])
def ja (l:List ap):Nat:=(l.map fun x=>x.length+1).sum
theorem Fg (a b:List ap):ja (a++b)=ja a+ja b:=by simp[ja]
theorem Ds: ∀ {l:List ap},l≠ []->(glue l).length+1=ja l
 |[],h=>absurd rfl h
 |[x],_=>by simp[glue,ja]
 |x::y::l,_=>by
  have:=Ds (l:=y::l) (by simp);rw[uB x (by simp),au,ay];have e:ja (x::y::l)=x.length+1+ja (y::l):=by simp[ja]
  omega
theorem agc (l:List ap):(glue l).length<=ja l:=by
 by_cases h:l=[]
 .subst h;exact aI _
 .have:=Ds h;omega
theorem Ft (s:ap):ja (dj 47 s)=s.length+1:=by rw[<-Ds (FD 47 s),Fs]
theorem aaz {α:Type} (l:List α):l.dropLast.Sublist l:=List.dropLast_sublist l
theorem aas (l:List ap):ja l.dropLast<=ja l:=by
 by_cases h:l=[]
 .subst h;exact aB _
 .have:=aZ ja (List.dropLast_concat_getLast h);rw[Fg]at this;omega
structure VA (l xs:List ap) (r:List ap×Nat):Prop where
 code:r.2=0\/r.2=50\/r.2=51
 bad:r.2≠0->r.1=[]
 deep:r.1.length<=12
 len:ja r.1<=ja l+ja xs
 good:(∀ x∈l,jY x)->(∀ x∈xs,(47:UInt8)∉x)-> ∀ x∈r.1,jY x
theorem DC (stay:Nat): ∀ (xs l:List ap),VA l xs (iP stay l xs)
 |[],l=>by
  rw[iP];split
  .exact⟨by simp,fun _=>rfl,by simp,aI _,fun _ _ x h=>by cases h⟩
  .exact⟨by simp,fun h=>absurd rfl h,by show l.length<=12;omega,Nat.le_add_right _ _,fun h _=>h⟩
 |x::xs,l=>by
  have e:ja (x::xs)=x.length+1+ja xs:=by simp[ja]
  have hB: ∀ n,(n=0\/n=50\/n=51)->VA l (x::xs) ([],n):=fun n hn=>⟨hn,fun _=>rfl,by simp,aI _,fun _ _ x h=>by cases h⟩;rw[iP];split
  .have ih:=DC stay xs l;exact⟨ih.code,ih.bad,ih.deep,by have:=ih.len;omega,fun h1 h2=>ih.good h1 fun y hy=>h2 y (by simp[hy])⟩
  .rename_i h1;split
   .split
    .exact hB _ (by simp)
    .have ih:=DC stay xs l.dropLast;exact⟨ih.code,ih.bad,ih.deep,by have:=ih.len;have:=aas l;omega,fun h1 h2=>ih.good (fun y hy=>h1 y ((aaz l).subset hy)) fun y hy=>h2 y (by simp[hy])⟩
   .rename_i h2;split
    .exact hB _ (by simp)
    .rename_i h3;have ih:=DC stay xs (l++[x]);refine⟨ih.code,ih.bad,ih.deep,?_,fun g1 g2=>ih.good (fun y hy=> ?_) fun y hy=>g2 y (by simp[hy])⟩
     .have:=ih.len;rw[Fg]at this;have:ja [x]=x.length+1:=by simp[ja]
      omega
     .rcases bZ.1 hy with hy|hy
      .exact g1 y hy
      .rw[aW]at hy;subst hy;exact⟨fun e=>h1 (.inl e),fun e=>h1 (.inr e),h2,by simpa using h3,g2 y (by simp)⟩
theorem U0 (stay:Nat): ∀ (xs l:List ap),(∀ x∈xs,jY x)->l.length+xs.length<=12->iP stay l xs=(l++xs,0)
 |[],l,_,h=>by rw[iP,ak (by simp at h;omega),dD]
 |x::xs,l,hg,h=>by
  have g:=hg x (by simp);rw[iP,ak (fun e=>e.elim g.ne g.dot),ak g.WC,ak (by rw[g.ok];simp),U0 stay xs (l++[x]) (fun y hy=>hg y (by simp[hy])) (by simp at h ⊢;omega)];simp
theorem FE {l:List ap} (h: ∀ x∈l,jY x) (hn:l≠ []):glue l≠ []:=by
 cases l with
 |nil=>exact absurd rfl hn
 |cons x l=>
  have:=(h x (by simp)).ne;cases l with
  |nil=>exact this
  |cons y l=>rw[uB x (by simp)];simp
theorem tn {l:List ap} (h: ∀ x∈l,jY x):px (glue l)=l:=by
 unfold px;by_cases hn:l=[]
 .subst hn;rfl
 .rw[ak (FE h hn),Fq (fun x hx=>(h x hx).no) hn]
theorem uG {l k:List ap} (h: ∀ x∈l,jY x) (h': ∀ x∈k,jY x) (e:glue l=glue k):l=k:=by
 rw[<-tn h,e,tn h']
theorem M2 (s:ap):r6 [] s=([],50)\/r6 [] s=([],51)\/s.length<=200/\r6 [] s=(glue (iP 0 [] (dj 47 s)).1,(iP 0 [] (dj 47 s)).2):=by
 unfold r6;rw[av (rfl:([]:ap)=[]),aQ];by_cases h1:200<s.length
 .rw[av h1];exact .inl rfl
 .rw[ak h1];by_cases h2:s.head? =some 47
  .rw[av h2];exact .inr (.inl rfl)
  .rw[ak h2];exact .inr (.inr ⟨by omega,rfl⟩)
theorem aer {s p:ap} (h:cF s=(p,0)):jk p/\p.length<=s.length:=by
 unfold cF at h;have hw:=DC 0 (dj 47 s) [];rcases M2 s with e|e|⟨hs,e⟩<;>rw[e]at h
 .simp at h
 .simp at h
 .obtain⟨r,hr⟩: ∃ r,iP 0 [] (dj 47 s)=r:=⟨_,rfl⟩;rw[hr]at h hw;have e1:glue r.1=p:=aZ Prod.fst h;have hl:=hw.len;rw[Ft]at hl;have hlen:p.length<=s.length:=by
   rw[<-e1];by_cases hn:r.1=[]
   .rw[hn];exact aI _
   .have:=Ds hn;have e:ja []=0:=rfl;omega
  refine⟨⟨r.1,e1.symm,hw.good (fun x hx=>by cases hx) (NY 47 s),hw.deep,?_⟩,hlen⟩;rw[e1];omega
theorem ri (s:ap):((cF s).2=0\/(cF s).2=50\/(cF s).2=51)/\((cF s).2≠0->(cF s).1=[]):=by
 unfold cF;have hw:=DC 0 (dj 47 s) [];rcases M2 s with e|e|⟨_,e⟩<;>rw[e]
 .exact⟨by simp,fun _=>rfl⟩
 .exact⟨by simp,fun _=>rfl⟩
 .exact⟨hw.code,fun h=>by show glue _=[];rw[hw.bad h];rfl⟩
theorem U1 {p:ap} {l:List ap} (h: ∀ x∈l,jY x):(glue l).head? ≠some 47:=by
 cases l with
 |nil=>simp[glue]
 |cons x l=>
  have g:=h x (by simp);have hx:x.head? ≠some 47:=fun e=>g.no (List.mem_of_mem_head? e);cases l with
  |nil=>exact hx
  |cons y l=>
   rw[uB x (by simp)];cases x with
   |nil=>exact absurd rfl g.ne
   |cons c x=>exact hx
theorem aes {l:List ap} (h:uK l):cF (glue l)=(glue l,0):=by
 unfold cF r6;rw[ak (by have:=h.long;simp;omega),ak (U1 (p:=[]) h.good)];show(glue (iP 0 [] (dj 47 (glue l))).1,(iP 0 [] (dj 47 (glue l))).2)=_;by_cases hn:l=[]
 .subst hn;rfl
 .rw[Fq (fun x hx=>(h.good x hx).no) hn,U0 0 l [] h.good (by simpa using h.deep)];rfl
theorem jk.id {p:ap} (h:jk p):cF p=(p,0):=by
 obtain⟨l,rfl,h⟩:=h;exact aes h
theorem jk.parts {p:ap} (h:jk p):uK (px p):=by
 obtain⟨l,rfl,h⟩:=h;rw[tn h.good];exact h
theorem acJ (l:List ap) (k:Nat):ja (l.take k)<=ja l:=by
 have:=aZ ja (dF k l);rw[Fg]at this;omega
theorem uK.take {l:List ap} (h:uK l) (k:Nat):uK (l.take k):=by
 refine⟨fun x hx=>h.good x (List.mem_of_mem_take hx),by have:=h.deep;simp;omega,?_⟩;by_cases h1:l.take k=[]
 .rw[h1];simp[glue]
 .have h2:l≠ []:=fun e=>h1 (by simp[e]);have:=Ds h1;have:=Ds h2;have:=acJ l k;have:=h.long;omega
theorem FF: ∀ {a b:List ap},a≠ []->b≠ []->glue (a++b)=glue a++47::glue b
 |[],_,h,_=>absurd rfl h
 |[x],b,_,hb=>uB x hb
 |x::y::a,b,_,hb=>by
  rw[fO,uB x (by simp),FF (a:=y::a) (by simp) hb,uB x (by simp)];simp
theorem Ta: ∀ (a:List ap) (s t:ap),a≠ []->(∀ x∈a,(47:UInt8)∉x)->s=glue a++47::t->dj 47 s=a++dj 47 t
 |[],_,_,h,_,_=>absurd rfl h
 |[x],s,t,_,h,e=>by rw[e];exact Bm x t (h x (by simp))
 |x::y::a,s,t,_,h,e=>by
  rw[e,uB x (by simp)];show dj 47 ((x++47::glue (y::a))++47::t)=_;rw[bM,fO,Bm _ _ (h x (by simp)),Ta (y::a) _ t (by simp) (fun z hz=>h z (by simp[hz])) rfl];rfl
theorem within_iff {l k:List ap} (h: ∀ x∈l,jY x) (h': ∀ x∈k,jY x):eL (glue l) (glue k)=true↔k<+:l:=by
 unfold eL;rw[dz,dz,bU,bU,dH];constructor
 .rintro((e|e)|e)
  .by_cases hk:k=[]
   .subst hk;exact List.nil_prefix
   .exact absurd e (FE h' hk)
  .rw[uG h h' e];exact List.prefix_refl _
  .obtain⟨t,e⟩:=e;by_cases hk:k=[]
   .subst hk;exact List.nil_prefix
   have hl:l≠ []:=by rintro rfl;simp[glue]at e
   have e1:=Ta k (glue l) t hk (fun x hx=>(h' x hx).no) (by rw[<-e];simp);rw[Fq (fun x hx=>(h x hx).no) hl]at e1;exact⟨_,e1.symm⟩
 .rintro⟨t,rfl⟩;by_cases hk:k=[]
  .subst hk;exact .inl (.inl rfl)
  by_cases ht:t=[]
  .subst ht;exact .inl (.inr (by simp))
  .exact .inr ⟨glue t,by rw[FF hk ht];simp⟩
theorem acK {k r:List ap} (hk:k≠ []):(glue (k++r)).drop (glue k).length=if r=[]then []else 47::glue r:=by
 split
 .rename_i h;subst h;simp
 .rename_i h;rw[FF hk h];simp
theorem JO {k r m:List ap} (hk:k≠ []) (hm:m≠ []):glue m++(glue (k++r)).drop (glue k).length=glue (m++r):=by
 rw[acK hk];split
 .rename_i h;subst h;simp
 .rename_i h;rw[FF hm h]
theorem aaO {l:List ap} (h: ∀ x∈l,jY x):BD (glue l)=glue l.dropLast:=by unfold BD;rw[tn h]
theorem Dt (p:ap):(jm p).length=(px p).length-1:=by simp[jm]
theorem aet (p:ap) {i:Nat} (h:i<(px p).length-1):(jm p)[i]? =some (glue ((px p).take (i+1))):=by
 unfold jm;rw[dK,List.getElem?_range h];rfl
theorem JE {c:UInt8} {b:ap} (h:c∉b): ∀ a:ap,dj c (a++c::b)=dj c a++[b]
 |[]=>by show dj c (c::b)=[[]]++[b];rw[dj,av rfl,JD h];rfl
 |x::a=>by
  have ih:=JE h a;rw[fO,dj,dj];split
  .rw[ih];rfl
  .rw[ih];cases hs:dj c a with
   |nil=>exact absurd hs (FD _ _)
   |cons w l=>rfl
theorem aaP {p:ap} (h:(47:UInt8)∉p):BD p=[]:=by
 unfold BD px;split
 .rfl
 .rw[JD h];rfl
theorem aaQ {a b:ap} (h:(47:UInt8)∉b):BD (a++47::b)=a:=by
 unfold BD px;rw[ak (by simp),JE h,List.dropLast_concat,Fs]
end Go.eg
namespace Go.Proofs.YtphkaogbcfdllaaGreatDoor
open Go Go.Vc Go.cN Go.eg
theorem acL (c:UInt8) (H:ae):az Tryz.prog 250 [.int .u8 c.toNat] H fun v H'=>v= .bool (!D8 c)/\H=H':=by
 have hc:=c.toNat_lt;have key:D8 c=decide (c.toNat<33\/126<c.toNat\/c.toNat=34\/c.toNat=92\/c.toNat=42\/c.toNat=63\/c.toNat=58):=by
  unfold D8;rw[dI];simp only[dz,aK,bU,or_assoc]
 rw[key];refine Vc.az.body Tryz.func250 Tryz.call250 rfl (by decide+kernel) rfl ?_;((conv=>whnf);repeat(any_goals((first|refine Vc.aq ?_|refine Vc.bz ?_ ?_)<;>(intros;(conv=>whnf)))))
 all_goals(refine⟨?_,rfl⟩;first|(rw[bB (by omega)];rfl)|(rw[aN (by omega)];rfl)|(show Value.bool _=Value.bool _;congr 1;rw[dI,Bool.not_eq_true',aK,aY];omega))
theorem aeu (s:Bs) (hl:s.length<=1000000000) (H:ae):az Tryz.prog 213 [.string (ag s)] H fun v H'=>v= .int .i64 (if wh s=true then 50 else 0)/\H=H':=by
 have ez:(ag s).size=s.length:=rfl;refine Vc.az.body Tryz.func213 Tryz.call213 rfl (by decide+kernel) rfl ?_;by_cases sk:32<s.length
 ·((conv=>whnf);repeat(any_goals((first|refine Vc.aq ?_|refine Vc.bz ?_ ?_)<;>(intros;(conv=>whnf)))))
  exact⟨by rw[av (by unfold wh;simp[sk])];rfl,rfl⟩
 ((conv=>whnf);repeat(any_goals((first|refine Vc.aq ?_|refine Vc.bz ?_ ?_)<;>(intros;(conv=>whnf)))))
 refine dt.intro (fun(i:Nat)=>[(9,.int .i64 i)]) (fun i H'=>H=H'/\i<=s.length/\wh s=(s.drop i).any D8) (fun i=>s.length-i) 0 ⟨rfl,aF⟩ ⟨rfl,aI _,by unfold wh;simp[sk]⟩ ?_;rintro i _ ⟨rfl,hi,hb⟩;dsimp only;by_cases ct:i<s.length
 .obtain⟨c,hc,hd⟩:=pX ct;rw[hd,List.any_cons]at hb;have hr:=fun H=>acL c H;cases CA:D8 c
  .rw[CA]at hr hb;((conv=>whnf);repeat(any_goals((first|(refine db.nat i rfl (by omega) ?_;(conv=>whnf);rw[hc])|(refine(hr _).mono ?_;rintro _ _ ⟨rfl,rfl⟩)|refine Vc.aq ?_|refine Vc.bz ?_ ?_)<;>(intros;(conv=>whnf)))))
   exact⟨i+1,⟨rfl,aF⟩,⟨rfl,by omega,by simpa using hb⟩,by omega⟩
  .rw[CA]at hr hb;((conv=>whnf);repeat(any_goals((first|(refine db.nat i rfl (by omega) ?_;(conv=>whnf);rw[hc])|(refine(hr _).mono ?_;rintro _ _ ⟨rfl,rfl⟩)|refine Vc.aq ?_|refine Vc.bz ?_ ?_)<;>(intros;(conv=>whnf)))))
   exact⟨by rw[av (by simpa using hb)];rfl,rfl⟩
 .rw[aV (by omega)]at hb;((conv=>whnf);repeat(any_goals((first|refine Vc.aq ?_|refine Vc.bz ?_ ?_)<;>(intros;(conv=>whnf)))))
  exact⟨by rw[ak (by simpa using hb)];rfl,rfl⟩
theorem aev (s p:Bs) (hl:s.length<=1000000000) (hp:p.length<=1000000000) (H:ae):az Tryz.prog 194 [.string (ag s),.string (ag p)] H fun v H'=>v= .bool (p.isPrefixOf s)/\H=H':=by
 have ez:(ag s).size=s.length:=rfl;have hpz:(ag p).size=p.length:=rfl;refine Vc.az.body Tryz.func194 Tryz.call194 rfl (by decide+kernel) rfl ?_;by_cases hle:p.length<=s.length
 .have e:((ag s).extract 0 p.length)=ag (s.take p.length):=nM _ _;have e2:((ag (s.take p.length)).toList==(ag p).toList)=p.isPrefixOf s:=by
   rw[p5,dI,aK,dH,List.prefix_iff_eq_take];exact p6.trans eq_comm
  ((conv=>whnf);repeat(any_goals((first|(refine dk.nat p.length rfl (by omega) ?_;(conv=>whnf);rw[e,e2])|refine Vc.aq ?_|refine Vc.bz ?_ ?_)<;>(intros;(conv=>whnf)))))
  all_goals exact⟨rfl,rfl⟩
 .have e2:p.isPrefixOf s=false:=by
   rw[gH,Ne,dH];intro h;have:=h.length_le;omega
  rw[e2];((conv=>whnf);repeat(any_goals((first|refine Vc.aq ?_|refine Vc.bz ?_ ?_)<;>(intros;(conv=>whnf)))))
  exact⟨rfl,rfl⟩
theorem Kg (s p:Bs) (hl:s.length<=1000000000) (hp:p.length<=1000000000) (H:ae):az Tryz.prog 151 [.string (ag s),.string (ag p)] H fun v H'=>v= .bool (p.isPrefixOf s)/\H=H':=by
 refine Vc.az.body Tryz.func151 Tryz.call151 rfl (by decide+kernel) rfl ?_;((conv=>whnf);repeat(any_goals((first|(refine(aev s p hl hp _).mono ?_;rintro _ _ ⟨rfl,rfl⟩)|refine Vc.aq ?_|refine Vc.bz ?_ ?_)<;>(intros;(conv=>whnf)))))
 exact⟨rfl,rfl⟩
theorem acM (s:Bs) (c:UInt8) (hl:s.length<=1000000000) (H:ae):az Tryz.prog 217 [.string (ag s),.int .u8 c.toNat] H fun v H'=>((c∉s/\v= .int .i64 (-1))\/ ∃ a b,s=a++c::b/\c∉b/\v= .int .i64 a.length)/\H=H':=by
 have ez:(ag s).size=s.length:=rfl;have hc:=c.toNat_lt;refine Vc.az.body Tryz.func217 Tryz.call217 rfl (by decide+kernel) rfl ?_;((conv=>whnf);repeat(any_goals((first|refine Vc.aq ?_|refine Vc.bz ?_ ?_)<;>(intros;(conv=>whnf)))))
 refine dt.intro (fun(i:Nat)=>[(5,.int .i64 ((i:Int)-1))]) (fun i H'=>H=H'/\i<=s.length/\c∉s.drop i) (fun i=>i) s.length ⟨rfl,aF⟩ ⟨rfl,aB _,by simp⟩ ?_;rintro i _ ⟨rfl,hi,hb⟩;dsimp only;by_cases ct:0<i
 .obtain⟨d,hd,he⟩:=pX (l:=s) (i:=i-1) (by omega);rw[show i-1+1=i by omega]at he;have sR:=d.toNat_lt;by_cases rL:c=d
  .subst rL;((conv=>whnf);repeat(any_goals((first|(refine db.nat (i-1) (by omega) (by omega) ?_;(conv=>whnf);rw[hd])|refine Vc.aq ?_|refine Vc.bz ?_ ?_)<;>(intros;(conv=>whnf)))))
   refine⟨.inr ⟨s.take (i-1),s.drop i,?_,hb,?_⟩,rfl⟩
   .rw[<-he,dF]
   .have e3:(s.take (i-1)).length=i-1:=by rw[aJ];omega
    rw[e3];show Value.int .i64 ((i:Int)-1)=_;congr 1;omega
  .have cz:d.toNat≠c.toNat:=fun e=>rL (dJ.1 e.symm);((conv=>whnf);repeat(any_goals((first|(refine db.nat (i-1) (by omega) (by omega) ?_;(conv=>whnf);rw[hd])|refine Vc.aq ?_|refine Vc.bz ?_ ?_)<;>(intros;(conv=>whnf)))))
   refine⟨i-1,⟨by(show Value.int .i64 ((i:Int)-1-1)= .int .i64 (((i-1:Nat):Int)-1);congr 1;omega),aF⟩,⟨rfl,by omega,?_⟩,by omega⟩;rw[he];simp[rL,hb]
 .obtain rfl:i=0:=by omega
  ((conv=>whnf);repeat(any_goals((first|refine Vc.aq ?_|refine Vc.bz ?_ ?_)<;>(intros;(conv=>whnf)))))
  exact⟨.inl ⟨by simpa using hb,rfl⟩,rfl⟩
theorem aew (s:Bs) (c:UInt8) (hl:s.length<=1000000000) (H:ae):az Tryz.prog 173 [.string (ag s),.int .u8 c.toNat] H fun v H'=>((c∉s/\v= .int .i64 (-1))\/ ∃ a b,s=a++c::b/\c∉b/\v= .int .i64 a.length)/\H=H':=by
 refine Vc.az.body Tryz.func173 Tryz.call173 rfl (by decide+kernel) rfl ?_;((conv=>whnf);repeat(any_goals((first|(refine(acM s c hl _).mono ?_;rintro v _ ⟨hv,rfl⟩)|refine Vc.aq ?_|refine Vc.bz ?_ ?_)<;>(intros;(conv=>whnf)))))
 exact⟨hv,rfl⟩
theorem abx (p:Bs) (hl:p.length<=1000000000) (H:ae):az Tryz.prog 120 [.string (ag p)] H fun v H'=>v= .string (ag (BD p))/\H=H':=by
 have ez:(ag p).size=p.length:=rfl;have mY: ∀ H,az Tryz.prog 173 [.string (ag p),.int .u8 47] H _:=fun H=>aew p 47 hl H;refine Vc.az.body Tryz.func120 Tryz.call120 rfl (by decide+kernel) rfl ?_;by_cases hm:(47:UInt8)∈p
 .obtain⟨a,b,h1,h2⟩: ∃ a b,p=a++47::b/\(47:UInt8)∉b:=by
   have:=List.append_of_mem (List.mem_reverse.2 hm);obtain⟨s,t,h,hn⟩:=List.eq_append_cons_of_mem (List.mem_reverse.2 hm);refine⟨t.reverse,s.reverse,?_,by simpa using hn⟩;have:=aZ List.reverse h;simpa using this
  have hlen:p.length=a.length+1+b.length:=by rw[h1];simp;omega
  have huq: ∀ a' b',p=a'++47::b'->(47:UInt8)∉b'->a'=a:=by
   intro a' b' e hn;have e1:=JE hn a';have e2:=JE h2 a;rw[<-e]at e1;rw[<-h1]at e2;rw[e1]at e2;have:=List.append_inj_left' e2 rfl;rw[<-Fs a',this,Fs]
  ((conv=>whnf);repeat(any_goals((first|(refine(mY _).mono ?_;rintro v _ ⟨hv,rfl⟩;obtain rfl:v=Value.int .i64 a.length:=by(rcases hv with ⟨g,_⟩|⟨a',b',g1,g2,rfl⟩;exact absurd hm g;rw[huq a' b' g1 g2]))|(refine dk.nat a.length (by omega) (by omega) ?_)|refine Vc.aq ?_|refine Vc.bz ?_ ?_)<;>(intros;(conv=>whnf)))))
  refine⟨?_,rfl⟩;show Value.string ((ag p).extract 0 a.length)=_;rw[nM,h1,aaQ h2];simp
 ·((conv=>whnf);repeat(any_goals((first|(refine(mY _).mono ?_;rintro v _ ⟨hv,rfl⟩;obtain rfl:v=Value.int .i64 (-1):=by(rcases hv with ⟨_,g⟩|⟨a',b',g1,g2,rfl⟩;exact g;exact absurd (by rw[g1];simp) hm))|(refine dk.nat 0 (by omega) (by omega) ?_)|refine Vc.aq ?_|refine Vc.bz ?_ ?_)<;>(intros;(conv=>whnf)))))
  refine⟨?_,rfl⟩;show Value.string ((ag p).extract 0 0)=_;rw[nM,aaP hm];simp
theorem Sw (p d:Bs) (hl:p.length<=100000000) (hd:d.length<=100000000) (H:ae):az Tryz.prog 206 [.string (ag p),.string (ag d)] H fun v H'=>v= .bool (eL p d)/\H=H':=by
 have ez:(ag p).size=p.length:=rfl;have hdz:(ag d).size=d.length:=rfl;have h1z:(⟨#[47]⟩:ByteArray).size=1:=rfl;have pf:=fun H=>Kg p (d++[47]) (by omega) (by simp;omega) H;have e:ag d++(⟨#[47]⟩:ByteArray)=ag (d++[47]):=kC d [47];refine Vc.az.body Tryz.func206 Tryz.call206 rfl (by decide+kernel) rfl ?_;unfold eL;by_cases h0:d=[]
 .have e0:((ag d).toList==(⟨#[]⟩:ByteArray).toList)=true:=by rw[show(⟨#[]⟩:ByteArray)=ag []from rfl,h0];simp
  ((conv=>whnf);repeat(any_goals((first|refine Vc.aq ?_|refine Vc.bz ?_ ?_)<;>(intros;(conv=>whnf)))))
  exact⟨by subst h0;rfl,rfl⟩
 have e0:((ag d).toList==(⟨#[]⟩:ByteArray).toList)=false:=by
  rw[show(⟨#[]⟩:ByteArray)=ag []from rfl,p5,aY];exact fun e=>h0 (p6.1 e)
 have d0:(d== [])=false:=by simpa using h0
 rw[d0];by_cases h1:p=d
 .have e1:((ag p).toList==(ag d).toList)=true:=by rw[h1];simp
  ((conv=>whnf);repeat(any_goals((first|refine Vc.aq ?_|refine Vc.bz ?_ ?_)<;>(intros;(conv=>whnf)))))
  exact⟨by subst h1;simp;rfl,rfl⟩
 have e1:((ag p).toList==(ag d).toList)=false:=by rw[p5,aY];exact fun e=>h1 (p6.1 e)
 have d1:(p==d)=false:=by simpa using h1
 rw[d1];((conv=>whnf);repeat(any_goals((first|(refine kM.mk ⟨by(simp only[cO];omega),?_⟩;(conv=>whnf);rw[e])|(refine(pf _).mono ?_;rintro _ _ ⟨rfl,rfl⟩)|refine Vc.aq ?_|refine Vc.bz ?_ ?_)<;>(intros;(conv=>whnf)))))
 all_goals exact⟨rfl,rfl⟩
end Go.Proofs.YtphkaogbcfdllaaGreatDoor
