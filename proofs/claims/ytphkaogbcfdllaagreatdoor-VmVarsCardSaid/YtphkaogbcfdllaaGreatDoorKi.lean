import Derived.Test.YtphkaogbcfdllaaGreatDoorKh
import Derived.Test.YtphkaogbcfdllaaGreatDoorKc
import Derived.Test.YtphkaogbcfdllaaGreatDoorKd
set_option linter.unusedVariables false
set_option linter.unusedSimpArgs false
set_option maxRecDepth 100000
/- Build scripts at work, plain: repeats within one another. -/
namespace Go.Run
open Go.Scr Go.Pth Go.Tre Go.Blk
open Go.Vc (mget mput mget_put)
def Goes (L:List Ln) (n:Nat) (s s':St):Prop:=∀ f u,runP L (f+n) u s=runP L f (u+n) s'
theorem Goes.refl (L:List Ln) (s:St):Goes L 0 s s:=fun f u=>rfl
theorem Goes.trans {L:List Ln} {n m:Nat} {a b c:St} (h:Goes L n a b) (k:Goes L m b c):Goes L (n+m) a c:=fun f u=>by
 rw[show f+(n+m)=(f+m)+n by omega,h,k,show u+n+m=u+(n+m)by omega]
theorem Goes.one {L:List Ln} {s s':St} {x:Ln} (hx:L[s.at_]? =some x) (h:stepP (kindsL L) x s=(s',0)):Goes L 1 s s':=fun f u=>by
 rw[runP_step hx,h];exact if_pos rfl
theorem Goes.cast {L:List Ln} {n m:Nat} {a b:St} (h:Goes L n a b) (e:n=m):Goes L m a b:=e▸h
structure Tri (A:Tr) (i j k:Nat):Prop where
 sorted:Sorted A
 x:mget A [120]=if i=0 then none else some (false,List.replicate i 49)
 y:mget A [121]=if j=0 then none else some (false,List.replicate j 50)
 z:mget A [122]=if k=0 then none else some (false,List.replicate k 51)
 size:sizeT A=i+j+k
 len:A.length≤(if i=0 then 0 else 1)+(if j=0 then 0 else 1)+(if k=0 then 0 else 1)
theorem Tri.nil:Tri [] 0 0 0:=⟨List.Pairwise.nil,rfl,rfl,rfl,rfl,Nat.zero_le _⟩
theorem app_one {A:Tr} (hA:Sorted A) (c d:UInt8) (n:Nat) (hc:cleanF [c]=([c],0)) (hp:pars [c]=[]) (hg:mget A [c]=if n=0 then none else some (false,List.replicate n d)) (hs:sizeT A≤1000) (hl:A.length≤3) (hn:n≤500):
  appendF A [c] [d]=(putF A [c] (false,List.replicate (n+1) d),0)∧sizeT (putF A [c] (false,List.replicate (n+1) d))=sizeT A+1∧(putF A [c] (false,List.replicate (n+1) d)).length=A.length+(if n=0 then 1 else 0):=by
 have hb:bytesF A [c]++[d]=List.replicate (n+1) d:=by
  unfold bytesF
  rw[hg]
  by_cases h0:n=0
  ·rw[if_pos h0,h0];rfl
  ·rw[if_neg h0,List.replicate_succ']
 have hd:dirF A [c]=false:=by
  unfold dirF
  rw[hg]
  by_cases h0:n=0
  ·rw[if_pos h0];rfl
  ·rw[if_neg h0];rfl
 have hf:fileF A [c]=false:=by unfold fileF;rw[hp];rfl
 have hk:lackF A [c]=[]:=by unfold lackF;rw[hp];rfl
 have ho:oldF A [c]=n:=by
  unfold oldF
  rw[hg]
  by_cases h0:n=0
  ·rw[if_pos h0,h0]
  ·rw[if_neg h0];simp
 have hm:moreF A [c]≤1:=by unfold moreF;rw[hk];split<;>simp
 have hsz:=putF_size hA [c] (false,List.replicate (n+1) d)
 rw[ho]at hsz
 have hlen:=putF_len hA [c] (false,List.replicate (n+1) d)
 refine⟨?_,by simp at hsz;omega,?_⟩
 ·unfold appendF
  rw[hc]
  dsimp only
  rw[if_pos rfl,hb]
  unfold writeP
  rw[if_neg (by rw[hd,hf];decide),if_neg (by rw[List.length_replicate,ho];omega),hk]
  rfl
 ·rw[hlen,hg]
  by_cases h0:n=0
  ·rw[if_pos h0,if_pos rfl,if_pos h0]
  ·rw[if_neg h0,if_neg (by simp),if_neg h0]
theorem Tri.appY {A:Tr} {i j k:Nat} (h:Tri A i j k) (hi:i+j+k≤500): ∃ B,appendF A [121] [50]=(B,0)∧Tri B i (j+1) k:=by
 have hl:=h.len
 obtain⟨h1,h2,h3⟩:=app_one h.sorted 121 50 j (by decide+kernel) (by decide+kernel) h.y (by rw[h.size];omega) (by split at hl<;>split at hl<;>split at hl<;>omega) (by omega)
 refine⟨_,h1,putF_sorted h.sorted _ _,?_,?_,?_,by rw[h2,h.size];omega,?_⟩
 ·rw[mget_putF,if_neg (by decide)];exact h.x
 ·rw[mget_putF,if_pos rfl,if_neg (by omega)]
 ·rw[mget_putF,if_neg (by decide)];exact h.z
 ·rw[h3,if_neg (by omega:j+1≠0)]
  by_cases h0:j=0
  ·rw[if_pos h0];rw[if_pos h0]at hl;omega
  ·rw[if_neg h0];rw[if_neg h0]at hl;omega
theorem Tri.appZ {A:Tr} {i j k:Nat} (h:Tri A i j k) (hi:i+j+k≤500): ∃ B,appendF A [122] [51]=(B,0)∧Tri B i j (k+1):=by
 have hl:=h.len
 obtain⟨h1,h2,h3⟩:=app_one h.sorted 122 51 k (by decide+kernel) (by decide+kernel) h.z (by rw[h.size];omega) (by split at hl<;>split at hl<;>split at hl<;>omega) (by omega)
 refine⟨_,h1,putF_sorted h.sorted _ _,?_,?_,?_,by rw[h2,h.size];omega,?_⟩
 ·rw[mget_putF,if_neg (by decide)];exact h.x
 ·rw[mget_putF,if_neg (by decide)];exact h.y
 ·rw[mget_putF,if_pos rfl,if_neg (by omega)]
 ·rw[h3,if_neg (by omega:k+1≠0)]
  by_cases h0:k=0
  ·rw[if_pos h0];rw[if_pos h0]at hl;omega
  ·rw[if_neg h0];rw[if_neg h0]at hl;omega
def repL (a b c:Nat):List Ln:=[⟨8,[],[],[],a,false⟩,⟨2,[120],[],[49],0,false⟩,⟨8,[],[],[],b,false⟩,⟨2,[121],[],[50],0,false⟩,⟨10,[],[],[],0,false⟩,⟨10,[],[],[],0,false⟩]++List.replicate c ⟨2,[122],[],[51],0,false⟩
def repK (c:Nat):List Nat:=[8,2,8,2,10,10]++List.replicate c 2
theorem rep_kinds (a b c:Nat):kindsL (repL a b c)=repK c:=by simp[kindsL,repL,repK]
theorem fill_one (V:Vars) (c:UInt8) (h:c≠36):fillF V [c]=[c]:=by rw[fillF_cons,if_pos h];rfl
theorem step_app (K:List Nat) (p t:UInt8) (hp:p≠36) (ht:t≠36) (s:St) {B:Tr} (h:appendF s.A [p] [t]=(B,0)):stepP K ⟨2,[p],[],[t],0,false⟩ s=({s with at_:=s.at_+1,A:=B},0):=by
 unfold stepP
 dsimp only
 rw[if_neg (by decide),if_neg (by decide),if_pos rfl,fill_one _ _ hp,fill_one _ _ ht,h];rfl
section
variable (a b c:Nat)
theorem rep_get (m:Nat) (hm:m<c):(repL a b c)[6+m]? =some ⟨2,[122],[],[51],0,false⟩:=by
 unfold repL
 rw[List.getElem?_append_right (by simp),List.getElem?_replicate,if_pos (by simp;exact hm)]
theorem behind (i j:Nat): ∀ (m k:Nat) (A:Tr) (V:Option Vars),Tri A i j k→k+m=c→i+j+c≤400→ ∃ B,Goes (repL a b c) m ⟨6+k,A,V,[]⟩ ⟨6+c,B,V,[]⟩∧Tri B i j c:=by
 intro m
 induction m with
 |zero=>
  intro k A V h hk hs
  obtain rfl:k=c:=by omega
  exact⟨A,Goes.refl _ _,h⟩
 |succ m ih=>
  intro k A V h hk hs
  obtain⟨B,e,hB⟩:=h.appZ (by omega)
  have g1:Goes (repL a b c) 1 ⟨6+k,A,V,[]⟩ ⟨6+(k+1),B,V,[]⟩:=Goes.one (x:=⟨2,[122],[],[51],0,false⟩) (rep_get a b c k (by omega)) (by rw[rep_kinds];exact step_app _ 122 51 (by decide) (by decide) ⟨6+k,A,V,[]⟩ e)
  obtain⟨C,g2,hC⟩:=ih (k+1) B V hB (by omega) hs
  exact⟨C,(g1.trans g2).cast (by omega),hC⟩
end
end Go.Run
namespace Go.Run
open Go.Scr Go.Pth Go.Tre Go.Blk
open Go.Vc (mget mput)
instance (K:List Nat):Decidable (Nested K):=by unfold Nested;exact inferInstance
def kv1:Txt:=[114,101,112,101,97,116,32,51,10,97,112,112,101,110,100,32,97,32,34,120,34,10,101,110,100,10]
def kv2:Txt:=[102,97,105,108,32,34,110,111,34,10]
def kvL:List Ln:=[⟨8,[],[],[],3,false⟩,⟨2,[97],[],[120],0,false⟩,⟨10,[],[],[],0,false⟩]
def kvM:List Ln:=[⟨11,[],[],[110,111],0,false⟩]
theorem kv1_parse:parseF kv1=(some kvL,0):=by decide+kernel
theorem kv2_parse:parseF kv2=(some kvM,0):=by decide+kernel
theorem kv1_run:(runP kvL 100 0 ⟨0,[],none,[]⟩).1=(7,0)∧(runP kvL 100 0 ⟨0,[],none,[]⟩).2.at_=3∧readF (runP kvL 100 0 ⟨0,[],none,[]⟩).2.A [97]=([120,120,120],0):=by decide+kernel
theorem kv_nested:Nested (kindsL kvL)∧Nested (kindsL kvM):=by decide+kernel
def stTexts:List Txt:=[[119,114,105,116,101,32,120,36,118,32,34,49,34,10],[109,107,100,105,114,32,36,118,10],[99,111,112,121,32,36,118,32,36,110,97,109,101,10],[114,101,110,97,109,101,32,36,118,32,36,110,97,109,101,10],[114,101,109,111,118,101,32,36,118,10],[97,112,112,101,110,100,32,36,118,47,36,110,97,109,101,32,34,36,118,34,10]]
def stLines:List Ln:=[⟨1,[120,36,118],[],[49],0,false⟩,⟨3,[36,118],[],[],0,false⟩,⟨0,[36,118],[36,110,97,109,101],[],0,false⟩,⟨5,[36,118],[36,110,97,109,101],[],0,false⟩,⟨4,[36,118],[],[],0,false⟩,⟨2,[36,118,47,36,110,97,109,101],[],[36,118],0,false⟩]
theorem st_parse: ∀ j,j<6→parseF (stTexts.getD j [])=(some [stLines.getD j ⟨0,[],[],[],0,false⟩],0):=by decide+kernel
theorem st_nested: ∀ j,j<6→Nested (kindsL [stLines.getD j ⟨0,[],[],[],0,false⟩]):=by decide+kernel
end Go.Run
namespace Go.Vc
theorem QuoH.neg {m c:Nat} {K:Int→Prop} (hc:0<c) (hm:m≤9223372036854775808) (hk:K (-((m / c:Nat):Int))):QuoH .i64 (-(m:Int)) (c:Int) K:=by
 refine⟨by omega,?_⟩
 have h:m / c≤m:=Nat.div_le_self _ _
 rw[Int.neg_tdiv,Int.tdiv_eq_ediv_of_nonneg (by omega),show((m:Int) / (c:Int))=((m / c:Nat):Int)by simp]
 generalize m / c=q at*
 rw[wrap_i64 (by omega) (by omega)]
 exact hk
theorem RemH.neg {m c:Nat} {K:Int→Prop} (hc:0<c) (hk:K (-((m % c:Nat):Int))):RemH (-(m:Int)) (c:Int) K:=by
 refine⟨by omega,?_⟩
 rw[Int.neg_tmod,Int.tmod_eq_emod_of_nonneg (by omega),show((m:Int) % (c:Int))=((m % c:Nat):Int)by simp]
 exact hk
end Go.Vc
namespace Go.Proofs.YtphkaogbcfdllaaGreatDoor
open Go Go.Vc Go.RowKit Go.Sort
theorem dd_small {u:Nat} (h:u<10):Lib.decDigits u=[UInt8.ofNat (48+u)]:=by rw[Lib.decDigits,dif_pos h]
theorem dd_big {u:Nat} (h: ¬u<10):Lib.decDigits u=Lib.decDigits (u / 10)++Lib.decDigits (u % 10):=by
 rw[Lib.decDigits,dif_neg h,dd_small (Nat.mod_lt u (by decide))]
theorem itoa_nat (u:Nat):Lib.itoa (u:Int)=Lib.decDigits u:=by unfold Lib.itoa;rw[if_neg (by omega)];simp
def digs:Bs:=[48,49,50,51,52,53,54,55,56,57]
theorem digs_at (u:Nat) (h:u<10):(mkS digs).extract u (u+1)=mkS (Lib.decDigits u):=by
 rw[dd_small h,mkS_ext,show u+1-u=1 by omega]
 have:u=0∨u=1∨u=2∨u=3∨u=4∨u=5∨u=6∨u=7∨u=8∨u=9:=by omega
 rcases this with rfl|rfl|rfl|rfl|rfl|rfl|rfl|rfl|rfl|rfl<;>rfl
end Go.Proofs.YtphkaogbcfdllaaGreatDoor
namespace Go.Proofs.YtphkaogbcfdllaaGreatDoor
open Go Go.Vc Go.RowKit Go.Extern Go.Extern.Stop Go.Stop
abbrev hT (t:Nat):Value:= .pointer (some ⟨7,t,none⟩)
abbrev tyV (t:Nat):Value:= .iface 318 (.agg #[hT t])
theorem SemH.run1 {P:Program} {H:Heap} {s:Sem Value} {v:Value} {K:Value→Heap→Prop} (h: ∀ w:World,w.heap=H→s.run P w= .ok v w) (hk:K v H):SemH P s H K:=⟨fun w hw=>⟨v,w,h w hw,Same.refl w,hw▸hk⟩⟩
theorem rlm (z:Sem Value) (f:TypeId→Addr→Nat→Nat→Sem Value) (v:Value):
  ReflectliteValue.method z f #[v]=(do match ←ReflectliteValue.parts v with|none=>z|some (t,a,fl)=>f t a fl (fl % 32)):=rfl
theorem rls (v x:Value):ReflectliteValue.set #[v,x]=(do
  let (some (dst,a,fl),some (src,b,_)):=(←ReflectliteValue.parts v,←ReflectliteValue.parts x)
   |unsupported (.noEntry "extern/(internal/reflectlite.Value).Set.zeroValue")
  if fl / ReflectliteValue.flagAddr % 2==0 then unsupported (.noEntry "extern/(internal/reflectlite.Value).Set.unaddressable")
  let val ←loadVar src b
  if ←Rtype.directlyAssignable dst src then storeVar dst a val
  else if ←Rtype.implements dst src then
   if(←Rtype.kind src)==20 then
    match val with
    | .nilIface=>unsupported (.noEntry "extern/reflectlite: a nil value of one interface type handed on as a value of another")
    |_=>storeVar dst a val
   else storeVar dst a (.iface src val)
  else panicString ("reflectlite.Set: value of type " ++(←Rtype.spelt src)++ " is not assignable to type " ++(←Rtype.spelt dst))
  pure (.tuple #[])):=rfl
theorem valueOf_n (t:Addr) (H:Heap):CallH Tryz.prog 178 [.iface 219 (.pointer (some t))] H fun v H'=>v= .agg #[hT 219,.pointer (some ⟨H.size,0,none⟩),.int .u64 150]∧Blk H' H.size #[.pointer (some t)] 219∧H'.size=H.size+1∧Ext H H':=by
 refine CallH.extern Tryz.func178 (by kernel_rfl) (by kernel_rfl) (by kernel_rfl) (by kernel_rfl) (e:=(fun args=>ReflectliteValue.unpack (args.getD 0 (.tuple #[])))) ⟨fun w hw=> ?_⟩
 have h:(ReflectliteValue.unpack (.iface 219 (.pointer (some t)))).run Tryz.prog w= .ok (.agg #[hT 219,.pointer (some ⟨w.heap.size,0,none⟩),.int .u64 150]) (w.alloc (.cells #[.pointer (some t)] 219)):=by kernel_rfl
 exact⟨_,_,h,⟨rfl,rfl,rfl⟩,by rw[hw],hw▸Blk.new (push_last _ _),by rw[←hw];simp,hw▸Only.push _ _ _⟩
theorem typeV_n (a:Addr) (H:Heap):CallH Tryz.prog 179 [.agg #[hT 219,.pointer (some a),.int .u64 150]] H fun v H'=>v=tyV 219∧H=H':=by
 refine CallH.extern Tryz.func179 (by kernel_rfl) (by kernel_rfl) (by kernel_rfl) (by kernel_rfl) (e:=ReflectliteValue.methodAny (ReflectliteValue.valueError "reflectlite.Value.Type" 0) (fun t _ _ _=>ReflectliteType.toType t)) (SemH.run1 (v:=tyV 219) (fun w _=>by kernel_rfl) ⟨rfl,rfl⟩)
theorem kind_n (H:Heap) {K:Value→Heap→Prop} (hk:K (.int .u8 22) H):NextH Tryz.prog (callMethod (tyV 219) "Kind" #[]) H K:=by
 refine NextH.method (f:=307) (args:=[hT 219]) (fun w=>by kernel_rfl) ?_
 refine CallH.extern Tryz.func307 (by kernel_rfl) (by kernel_rfl) (by kernel_rfl) (by kernel_rfl) (e:=ReflectliteType.abiMethod fun t=>do pure (.int .u8 (←Rtype.kind t))) (SemH.run1 (v:= .int .u8 22) (fun w _=>by kernel_rfl) hk)
theorem kindE_n (H:Heap) {K:Value→Heap→Prop} (hk:K (.int .u8 2) H):NextH Tryz.prog (callMethod (tyV 34) "Kind" #[]) H K:=by
 refine NextH.method (f:=307) (args:=[hT 34]) (fun w=>by kernel_rfl) ?_
 refine CallH.extern Tryz.func307 (by kernel_rfl) (by kernel_rfl) (by kernel_rfl) (by kernel_rfl) (e:=ReflectliteType.abiMethod fun t=>do pure (.int .u8 (←Rtype.kind t))) (SemH.run1 (v:= .int .u8 2) (fun w _=>by kernel_rfl) hk)
theorem elemT_n (H:Heap) {K:Value→Heap→Prop} (hk:K (tyV 34) H):NextH Tryz.prog (callMethod (tyV 219) "Elem" #[]) H K:=by
 refine NextH.method (f:=321) (args:=[.agg #[hT 219]]) (fun w=>by kernel_rfl) ?_
 refine CallH.extern Tryz.func321 (by kernel_rfl) (by kernel_rfl) (by kernel_rfl) (by kernel_rfl) (e:=ReflectliteType.method ReflectliteType.elem) (SemH.run1 (v:=tyV 34) (fun w _=>by kernel_rfl) hk)
theorem implements_n (H:Heap) {K:Value→Heap→Prop} (hk:K (.bool true) H):NextH Tryz.prog (callMethod (tyV 34) "Implements" #[tyV 30]) H K:=by
 refine NextH.method (f:=322) (args:=[.agg #[hT 34],tyV 30]) (fun w=>by kernel_rfl) ?_
 refine CallH.extern Tryz.func322 (by kernel_rfl) (by kernel_rfl) (by kernel_rfl) (by kernel_rfl) (e:=ReflectliteType.relation "Implements" ReflectliteType.implements_) (SemH.run1 (v:= .bool true) (fun w _=>by kernel_rfl) hk)
theorem partsT_n (a:Addr) (w:World):(ReflectliteValue.parts (.agg #[hT 219,.pointer (some a),.int .u64 150])).run Tryz.prog w= .ok (some (219,a,150)) w:=by kernel_rfl
theorem isNil_n (a p:Addr) (H:Heap) (ha:hcell H a=some (.pointer (some p))):CallH Tryz.prog 180 [.agg #[hT 219,.pointer (some a),.int .u64 150]] H fun v H'=>v= .bool false∧H=H':=by
 refine CallH.extern Tryz.func180 (by kernel_rfl) (by kernel_rfl) (by kernel_rfl) (by kernel_rfl) (e:=ReflectliteValue.method (ReflectliteValue.valueError "reflectlite.Value.IsNil" 0) ReflectliteValue.isNil) (SemH.run1 (v:= .bool false) (fun w hw=> ?_) ⟨rfl,rfl⟩)
 have ha:w.cell? a=some (.pointer (some p)):=by rw[cell_heap,hw];exact ha
 show(ReflectliteValue.method _ ReflectliteValue.isNil #[_]).run _ _=_
 rw[rlm]
 simp only[Sem.run_bind,partsT_n,Result.andThen]
 simp[ReflectliteValue.isNil,loadVar,isAgg,underlying,Tryz.underlying136,ha,Result.andThen]
theorem elemOf_n (w:World):(Rtype.elem? 219).run Tryz.prog w= .ok (some 34) w:=by kernel_rfl
theorem mkE_n (p:Addr) (w:World):(ReflectliteValue.mk 34 p ReflectliteValue.flagAddr).run Tryz.prog w= .ok (.agg #[hT 34,.pointer (some p),.int .u64 386]) w:=by kernel_rfl
theorem elemV_n (a p:Addr) (H:Heap) (ha:hcell H a=some (.pointer (some p))):CallH Tryz.prog 220 [.agg #[hT 219,.pointer (some a),.int .u64 150]] H fun v H'=>v= .agg #[hT 34,.pointer (some p),.int .u64 386]∧H=H':=by
 refine CallH.extern Tryz.func220 (by kernel_rfl) (by kernel_rfl) (by kernel_rfl) (by kernel_rfl) (e:=ReflectliteValue.method (ReflectliteValue.valueError "reflectlite.Value.Elem" 0) ReflectliteValue.elem) (SemH.run1 (fun w hw=> ?_) ⟨rfl,rfl⟩)
 have ha:w.cell? a=some (.pointer (some p)):=by rw[cell_heap,hw];exact ha
 show(ReflectliteValue.method _ ReflectliteValue.elem #[_]).run _ _=_
 rw[rlm]
 simp only[Sem.run_bind,partsT_n,Result.andThen]
 simp[ReflectliteValue.elem,loadVar,isAgg,underlying,Tryz.underlying136,ha,Result.andThen,elemOf_n,mkE_n]
theorem typeOf_n (n:Int) (H:Heap):CallH Tryz.prog 219 [.iface 34 (.int .i64 n)] H fun v H'=>v=tyV 34∧H=H':=by
 refine CallH.extern Tryz.func219 (by kernel_rfl) (by kernel_rfl) (by kernel_rfl) (by kernel_rfl) (e:=ReflectliteType.typeOf) (SemH.run1 (v:=tyV 34) (fun w _=>by kernel_rfl) ⟨rfl,rfl⟩)
theorem valueOfE_n (n:Int) (H:Heap):CallH Tryz.prog 178 [.iface 34 (.int .i64 n)] H fun v H'=>v= .agg #[hT 34,.pointer (some ⟨H.size,0,none⟩),.int .u64 130]∧Blk H' H.size #[.int .i64 n] 34∧H'.size=H.size+1∧Ext H H':=by
 refine CallH.extern Tryz.func178 (by kernel_rfl) (by kernel_rfl) (by kernel_rfl) (by kernel_rfl) (e:=(fun args=>ReflectliteValue.unpack (args.getD 0 (.tuple #[])))) ⟨fun w hw=> ?_⟩
 have h:(ReflectliteValue.unpack (.iface 34 (.int .i64 n))).run Tryz.prog w= .ok (.agg #[hT 34,.pointer (some ⟨w.heap.size,0,none⟩),.int .u64 130]) (w.alloc (.cells #[.int .i64 n] 34)):=by kernel_rfl
 exact⟨_,_,h,⟨rfl,rfl,rfl⟩,by rw[hw],hw▸Blk.new (push_last _ _),by rw[←hw];simp,hw▸Only.push _ _ _⟩
theorem partsA_n (a:Addr) (w:World):(ReflectliteValue.parts (.agg #[hT 34,.pointer (some a),.int .u64 386])).run Tryz.prog w= .ok (some (34,a,386)) w:=by kernel_rfl
theorem partsV_n (a:Addr) (w:World):(ReflectliteValue.parts (.agg #[hT 34,.pointer (some a),.int .u64 130])).run Tryz.prog w= .ok (some (34,a,130)) w:=by kernel_rfl
theorem direct_n (w:World):(Rtype.directlyAssignable 34 34).run Tryz.prog w= .ok true w:=by kernel_rfl
theorem set_n (n:Int) (tb:Nat) (b:Addr) (old:Value) (H:Heap) (hb:hcell H b=some (.int .i64 n)) (ht:Blk H tb #[old] 34):CallH Tryz.prog 221 [.agg #[hT 34,.pointer (some ⟨tb,0,none⟩),.int .u64 386],.agg #[hT 34,.pointer (some b),.int .u64 130]] H fun v H'=>v= .tuple #[]∧H'.size=H.size∧Blk H' tb #[.int .i64 n] 34∧But tb H H':=by
 refine CallH.extern Tryz.func221 (by kernel_rfl) (by kernel_rfl) (by kernel_rfl) (by kernel_rfl) (e:=ReflectliteValue.set) ⟨fun w hw=> ?_⟩
 have hb:w.cell? b=some (.int .i64 n):=by rw[cell_heap,hw];exact hb
 have ht:Blk w.heap tb #[old] 34:=by rw[hw];exact ht
 obtain⟨fr,h1,h2⟩:=ht.out
 have hc:w.cell? ⟨tb,0,none⟩=some old:=by simp[World.cell?,h1]
 have hf:w.frozen? ⟨tb,0,none⟩=false:=by
  simp only[World.frozen?,h1]
  rcases h2 with h2|h2
  ·cases fr;simp at h2 ⊢;intro;omega
  ·cases fr;simp at h2 ⊢;intro;omega
 have hrun:(ReflectliteValue.set #[.agg #[hT 34,.pointer (some ⟨tb,0,none⟩),.int .u64 386],.agg #[hT 34,.pointer (some b),.int .u64 130]]).run Tryz.prog w= .ok (.tuple #[]) (w.setCell ⟨tb,0,none⟩ (.int .i64 n)):=by
  rw[rls]
  simp only[Sem.run_bind,partsA_n,partsV_n,Result.andThen]
  simp[ReflectliteValue.flagAddr,loadVar,isAgg,underlying,Tryz.underlying25,hb,Result.andThen,direct_n,storeVar,Value.cells,storeCells,Addr.add]
  rw[run_store Tryz.prog w ⟨tb,0,none⟩ _ _ (by rfl)]
  simp[hc,hf]
 obtain⟨k1,k2,k3⟩:=setCell_blk (i:=0) (v:= .int .i64 n) ht
 exact⟨_,_,hrun,k3,rfl,by rw[set_eq h1];simp[hw],k1,hw▸k2⟩
theorem typeOf_f (p:Option Addr) (H:Heap):CallH Tryz.prog 219 [.iface 208 (.pointer p)] H fun v H'=>v=tyV 208∧H=H':=by
 refine CallH.extern Tryz.func219 (by kernel_rfl) (by kernel_rfl) (by kernel_rfl) (by kernel_rfl) (e:=ReflectliteType.typeOf) (SemH.run1 (v:=tyV 208) (fun w _=>by kernel_rfl) ⟨rfl,rfl⟩)
theorem assign_nn (H:Heap) {K:Value→Heap→Prop} (hk:K (.bool true) H):NextH Tryz.prog (callMethod (tyV 34) "AssignableTo" #[tyV 34]) H K:=by
 refine NextH.method (f:=319) (args:=[.agg #[hT 34],tyV 34]) (fun w=>by kernel_rfl) ?_
 refine CallH.extern Tryz.func319 (by kernel_rfl) (by kernel_rfl) (by kernel_rfl) (by kernel_rfl) (e:=ReflectliteType.relation "AssignableTo" ReflectliteType.assignableTo) (SemH.run1 (v:= .bool true) (fun w _=>by kernel_rfl) hk)
theorem assign_fn (H:Heap) {K:Value→Heap→Prop} (hk:K (.bool false) H):NextH Tryz.prog (callMethod (tyV 208) "AssignableTo" #[tyV 34]) H K:=by
 refine NextH.method (f:=319) (args:=[.agg #[hT 208],tyV 34]) (fun w=>by kernel_rfl) ?_
 refine CallH.extern Tryz.func319 (by kernel_rfl) (by kernel_rfl) (by kernel_rfl) (by kernel_rfl) (e:=ReflectliteType.relation "AssignableTo" ReflectliteType.assignableTo) (SemH.run1 (v:= .bool false) (fun w _=>by kernel_rfl) hk)
theorem assign_jn (H:Heap) {K:Value→Heap→Prop} (hk:K (.bool false) H):NextH Tryz.prog (callMethod (tyV 220) "AssignableTo" #[tyV 34]) H K:=by
 refine NextH.method (f:=319) (args:=[.agg #[hT 220],tyV 34]) (fun w=>by kernel_rfl) ?_
 refine CallH.extern Tryz.func319 (by kernel_rfl) (by kernel_rfl) (by kernel_rfl) (by kernel_rfl) (e:=ReflectliteType.relation "AssignableTo" ReflectliteType.assignableTo) (SemH.run1 (v:= .bool false) (fun w _=>by kernel_rfl) hk)
theorem typeOf_j (p:Option Addr) (H:Heap):CallH Tryz.prog 219 [.iface 220 (.pointer p)] H fun v H'=>v=tyV 220∧H=H':=by
 refine CallH.extern Tryz.func219 (by kernel_rfl) (by kernel_rfl) (by kernel_rfl) (by kernel_rfl) (e:=ReflectliteType.typeOf) (SemH.run1 (v:=tyV 220) (fun w _=>by kernel_rfl) ⟨rfl,rfl⟩)
end Go.Proofs.YtphkaogbcfdllaaGreatDoor
namespace Go.Proofs.YtphkaogbcfdllaaGreatDoor
open Go Go.Vc Go.RowKit Go.Sort
theorem unwrapF_any {H:Heap} {g:Nat} {op nm:ByteArray} {v:Value} (hb:Blk H g #[.string op,.string nm,v] 210):CallH Tryz.prog 311 [.pointer (some ⟨g,0,none⟩)] H fun u H'=>u=v∧H=H':=by
 refine Vc.CallH.body Tryz.func311 Tryz.call311 rfl (by decide+kernel) rfl ?_
 ((conv=>whnf);repeat(any_goals((first|refine Vc.stp ?_|refine Vc.spl ?_ ?_)<;>(intros;(conv=>whnf)))))
 exact⟨rfl,rfl⟩
theorem plain_wr {H:Heap} {ws:Chain} {n:Int} {v:Value} (h:WrV H ws (NumV n) v):plainV v=true∧ ∃ t x,v= .iface t x:=by
 cases ws with
 |nil=>have h:v=_:=h;subst h;exact⟨rfl,_,_,rfl⟩
 |cons x ws=>obtain⟨g,v',rfl,_⟩:=h;exact⟨rfl,_,_,rfl⟩
theorem vclone_any {H:Heap} {a:Option Addr} {n cap:Nat} {vs:List Value} (hr:Row H a vs) (hn:vs.length=n) (h0:0<n) (hm:n≤1000) (hp: ∀ v∈vs,plainV v=true):CallH Tryz.prog 313 [.slice a n cap] H fun u H'=>(∃ a' cap',u= .slice a' n cap'∧Row H' a' vs)∧Ext H H':=by
 obtain⟨b,o,ha,_⟩:=hr.at (by omega)
 refine Vc.CallH.body Tryz.func313 Tryz.call313 rfl (by decide+kernel) rfl ?_
 subst ha
 ((conv=>whnf);repeat(any_goals((first|(refine CondH.neg rfl ?_)|((with_reducible apply SemH.lit (vs:=[]));(focus(rfl));(focus(rfl));(focus(rfl));(focus(rfl));(focus(rfl));(focus(rfl));(focus(rfl));(focus((intro _ _ _ _;(conv=>whnf)))))|refine Vc.stp ?_)<;>(intros;(conv=>whnf)))))
 rename_i H1 hs1 hb1 hx1
 have ho1:Own H1 H.size 30 1 (some ⟨H.size,0,none⟩) 0 0 []:=own_lit (xs:=[]) hb1 (Nat.le_refl _) rfl (Nat.zero_le _)
 refine NextH.append (i:=Tryz.t30) (z:= .nilIface) (base:=H.size) rfl ⟨_,rfl,fun _ h=>by cases h⟩ rfl rfl rfl ho1 (Src.row (hr.ext hx1) (by rw[hn];exact(Nat.mul_one n).symm) hp) (by unfold maxLen;omega) (by show(0+n)*16≤_;omega) hx1.size ?_
 intro a2 c2 H2 ho2 hw2 _
 ((conv=>whnf);repeat(any_goals((first|refine Vc.stp ?_)<;>(intros;(conv=>whnf)))))
 refine⟨⟨a2,c2,by rw[Nat.zero_add];rfl,?_⟩,hx1.wr ho1 (Nat.le_refl _) hw2⟩
 have:=ho2.row
 rwa[List.nil_append]at this
theorem IdxA.val {H:Heap} {a:Option Addr} {vs:List Value} {n:Nat} {i:Int} {K:Addr→Prop} (h:Row H a vs) (hn:vs.length=n) (j:Nat) (v:Value) (hi:i=j) (hv:vs[j]? =some v)
  (hk: ∀ b o,hcell H ⟨b,o+j,none⟩=some v→K ⟨b,o+j,none⟩):IdxA a n 1 i K:=by
 have hj:=(List.getElem?_eq_some_iff.1 hv).1
 refine(Go.Vc.IdxA.row (size:=1) h (by rw[hn,Nat.mul_one]) (by decide) j hi (by omega) fun b o h1 h2 h3=> ?_)
 have h3:=h3 0 v (by rw[Nat.mul_one,Nat.add_zero];exact hv)
 rw[Nat.mul_one]
 rw[Nat.mul_one]at h3
 exact hk b o (by simpa using h3)
theorem unwrapJ_any {H:Heap} {g:Nat} {a:Option Addr} {n cap:Nat} {vs:List Value} (hb:Blk H g #[.slice a n cap] 223) (hr:Row H a vs) (hn:vs.length=n) (h0:0<n) (hm:n≤1000) (hp: ∀ v∈vs,plainV v=true):CallH Tryz.prog 312 [.pointer (some ⟨g,0,none⟩)] H fun u H'=>(∃ a' cap',u= .slice a' n cap'∧Row H' a' vs)∧Ext H H':=by
 refine Vc.CallH.body Tryz.func312 Tryz.call312 rfl (by decide+kernel) rfl ?_
 ((conv=>whnf);repeat(any_goals((first|(refine(vclone_any hr hn h0 hm hp).mono ?_;rintro _ H1 ⟨⟨a1,c1,rfl,hr1⟩,hx1⟩)|refine Vc.stp ?_|refine Vc.spl ?_ ?_)<;>(intros;(conv=>whnf)))))
 exact⟨⟨a1,c1,rfl,hr1⟩,hx1⟩
def isB (m:Int):Bas→Bool
 | .num n=>n==m
 | .join l=>l.any fun c=>c.2==m
def BasOk:Bas→Prop
 | .num n=>I64 n
 | .join l=>0<l.length∧l.length≤20∧ ∀ c∈l,Small c.1∧I64 c.2
theorem bas_iface {H:Heap} {b:Bas} {v:Value} (h:BasV H b v): ∃ t x,v= .iface t x:=by
 cases b with
 |num n=>exact⟨_,_,h⟩
 |join l=>obtain⟨g,a,cap,vs,rfl,_⟩:=h;exact⟨_,_,rfl⟩
theorem join_plain {H:Heap} {l:List (Chain×Int)} {vs:List Value} (hl:vs.length=l.length) (h: ∀ (i:Nat) c v,l[i]? =some c→vs[i]? =some v→WrV H c.1 (NumV c.2) v): ∀ v∈vs,plainV v=true:=by
 intro v hv
 obtain⟨i,hi⟩:=List.getElem?_of_mem hv
 have hil:i<l.length:=by have:=(List.getElem?_eq_some_iff.1 hi).1;omega
 exact(plain_wr (h i _ v (List.getElem?_eq_getElem hil) hi)).1
end Go.Proofs.YtphkaogbcfdllaaGreatDoor
namespace Go.Proofs.YtphkaogbcfdllaaGreatDoor
open Go Go.Vc Go.RowKit Go.Sort
structure Tgt (H:Heap) (tb:Nat) (vb:Addr) (T E:TypeId) (old:Value):Prop where
 cell:hcell H vb=some (.pointer (some ⟨tb,0,none⟩))
 blk:Blk H tb #[old] E
 ne:vb.block≠tb
theorem Tgt.ext {H H':Heap} {tb:Nat} {vb:Addr} {T E:TypeId} {old:Value} (h:Tgt H tb vb T E old) (k:Ext H H'):Tgt H' tb vb T E old:=⟨hcell_keep h.cell k id,h.blk.ext k,h.ne⟩
set_option maxHeartbeats 1000000 in
theorem as_num: ∀ (ws:Chain) (n:Int) (H:Heap) (v:Value) (tb:Nat) (vb:Addr) (old:Value),WrV H ws (NumV n) v→Tgt H tb vb 219 34 old→CallH Tryz.prog 181 [v,.iface 219 (.pointer (some ⟨tb,0,none⟩)),.agg #[hT 219,.pointer (some vb),.int .u64 150],tyV 34] H fun u H'=>u= .bool true∧Blk H' tb #[.int .i64 n] 34∧But tb H H':=by
 intro ws n H v tb vb old h ht
 refine Vc.CallH.body Tryz.func181 Tryz.call181 rfl (by decide+kernel) rfl ?_
 ((conv=>whnf);repeat(any_goals((first|refine Vc.stp ?_|refine Vc.spl ?_ ?_)<;>(intros;(conv=>whnf)))))
 rename_i H1 hs1 hb1 hx1
 have ht1:=ht.ext hx1
 have h1:=WrV.mono hx1 (fun _ h=>h) _ _ h
 have hbox:=hb1
 refine LoopH.intro (fun(x:Chain×Value)=>[(0,x.2)]) (fun x H'=>H1=H'∧WrV H1 x.1 (NumV n) x.2) (fun x=>x.1.length) (ws,v) ⟨rfl,trivial⟩ ⟨rfl,h1⟩ ?_
 rintro⟨ws,v⟩ _ ⟨rfl,h⟩
 dsimp only at h ⊢
 cases ws with
 |nil=>
  have h:v=_:=h
  subst h
  ((conv=>whnf);repeat(any_goals((first|(refine(typeOf_n n _).mono ?_;rintro _ _ ⟨rfl,rfl⟩)|(refine assign_nn _ ?_)|(refine(elemV_n vb ⟨tb,0,none⟩ _ ht1.cell).mono ?_;rintro _ _ ⟨rfl,rfl⟩)|(refine(valueOfE_n n _).mono ?_;rintro _ H2 ⟨rfl,hb2,hs2,hx2⟩;have hz2:=hx2.size)|refine Vc.stp ?_|refine Vc.spl ?_ ?_)<;>(intros;(conv=>whnf)))))
  have hc2:hcell H2 ⟨H1.size,0,none⟩=some (.int .i64 n):=by rw[hb2.cell];rfl
  ((conv=>whnf);repeat(any_goals((first|(refine(set_n n tb ⟨H1.size,0,none⟩ old _ hc2 (ht1.blk.ext hx2)).mono ?_;rintro _ H3 ⟨rfl,hs3,hb3,hx3⟩;have hz3:=hx3.size)|refine Vc.stp ?_|refine Vc.spl ?_ ?_)<;>(intros;(conv=>whnf)))))
  exact⟨rfl,hb3,Only.trans (hx1.trans hx2).only hx3 fun _ _ h=>h⟩
 |cons x ws=>
  obtain⟨g,v',rfl,hb,hw⟩:=h
  obtain⟨_,ty,pl,rfl⟩:=plain_wr hw
  ((conv=>whnf);repeat(any_goals((first|(refine(typeOf_f _ _).mono ?_;rintro _ _ ⟨rfl,rfl⟩)|(refine assign_fn _ ?_)|(with_reducible apply ta_e_f)|(with_reducible apply ta_e_e)|(with_reducible apply ta_e_j)|(with_reducible apply ta_e_i)|(with_reducible apply ta_e_u)|(with_reducible apply ta_e_w)|(with_reducible apply ta_e_a)|(with_reducible apply ta_f_f)|(with_reducible apply ta_f_e)|(with_reducible apply ta_f_j)|(with_reducible apply ta_f_i)|(with_reducible apply ta_f_u)|(with_reducible apply ta_f_w)|(with_reducible apply ta_f_a)|(with_reducible apply ta_j_f)|(with_reducible apply ta_j_e)|(with_reducible apply ta_j_j)|(with_reducible apply ta_j_i)|(with_reducible apply ta_j_u)|(with_reducible apply ta_j_w)|(with_reducible apply ta_j_a)|(with_reducible apply eq_ee)|(with_reducible apply eq_fe)|(with_reducible apply eq_je)|(refine NextH.method (unwrap_f _) ?_;refine(unwrapF_any hb).mono ?_;rintro _ _ ⟨rfl,rfl⟩)|refine Vc.stp ?_|refine Vc.spl ?_ ?_)<;>(intros;(conv=>whnf)))))
  exact⟨(ws,.iface ty pl),⟨rfl,trivial⟩,⟨rfl,hw⟩,by show ws.length<ws.length+1;omega⟩
def codeB:Bas→Int
 | .num n=>n
 | .join l=>(l.headD ([],0)).2
set_option maxHeartbeats 1000000 in
theorem as_any: ∀ (ws:Chain) (b:Bas) (H:Heap) (v:Value) (tb:Nat) (vb:Addr) (old:Value),BasOk b→ErV H ws b v→Tgt H tb vb 219 34 old→CallH Tryz.prog 181 [v,.iface 219 (.pointer (some ⟨tb,0,none⟩)),.agg #[hT 219,.pointer (some vb),.int .u64 150],tyV 34] H fun u H'=>u= .bool true∧Blk H' tb #[.int .i64 (codeB b)] 34∧But tb H H':=by
 intro ws b H v tb vb old hok h ht
 refine Vc.CallH.body Tryz.func181 Tryz.call181 rfl (by decide+kernel) rfl ?_
 ((conv=>whnf);repeat(any_goals((first|refine Vc.stp ?_|refine Vc.spl ?_ ?_)<;>(intros;(conv=>whnf)))))
 rename_i H1 hs1 hb1 hx1
 have ht1:=ht.ext hx1
 have h1:=ErV.ext h hx1
 have hbox:=hb1
 refine LoopH.intro (fun(x:Chain×Value)=>[(0,x.2)]) (fun x H'=>H1=H'∧ErV H1 x.1 b x.2) (fun x=>x.1.length) (ws,v) ⟨rfl,trivial⟩ ⟨rfl,h1⟩ ?_
 rintro⟨ws,v⟩ _ ⟨rfl,h⟩
 dsimp only at h ⊢
 cases ws with
 |nil=>
  cases b with
  |num n=>
   have h:v=_:=h
   subst h
   ((conv=>whnf);repeat(any_goals((first|(refine(typeOf_n n _).mono ?_;rintro _ _ ⟨rfl,rfl⟩)|(refine assign_nn _ ?_)|(refine(elemV_n vb ⟨tb,0,none⟩ _ ht1.cell).mono ?_;rintro _ _ ⟨rfl,rfl⟩)|(refine(valueOfE_n n _).mono ?_;rintro _ H2 ⟨rfl,hb2,hs2,hx2⟩;have hz2:=hx2.size)|refine Vc.stp ?_|refine Vc.spl ?_ ?_)<;>(intros;(conv=>whnf)))))
   have hc2:hcell H2 ⟨H1.size,0,none⟩=some (.int .i64 n):=by rw[hb2.cell];rfl
   ((conv=>whnf);repeat(any_goals((first|(refine(set_n n tb ⟨H1.size,0,none⟩ old _ hc2 (ht1.blk.ext hx2)).mono ?_;rintro _ H3 ⟨rfl,hs3,hb3,hx3⟩;have hz3:=hx3.size)|refine Vc.stp ?_|refine Vc.spl ?_ ?_)<;>(intros;(conv=>whnf)))))
   exact⟨rfl,hb3,Only.trans (hx1.trans hx2).only hx3 fun _ _ h=>h⟩
  |join l=>
   obtain⟨g,a,cap,vs,rfl,hb,hc,hr,hvl,hall⟩:=h
   obtain⟨h0,h20,hsm⟩:=hok
   have hpl:=join_plain hvl hall
   have hU:=unwrapJ_any hb hr hvl h0 (by omega) hpl
   obtain⟨c,l,rfl⟩: ∃ c l',l=c::l':=by cases l with|nil=>simp at h0|cons c l=>exact⟨c,l,rfl⟩
   obtain⟨e,vs,rfl⟩: ∃ e vs',vs=e::vs':=by cases vs with|nil=>simp at hvl|cons e vs=>exact⟨e,vs,rfl⟩
   have hce:=hall 0 c e rfl rfl
   obtain⟨_,ty,pl,rfl⟩:=plain_wr hce
   ((conv=>whnf);repeat(any_goals((first|(refine(typeOf_j _ _).mono ?_;rintro _ _ ⟨rfl,rfl⟩)|(refine assign_jn _ ?_)|(with_reducible apply ta_e_f)|(with_reducible apply ta_e_e)|(with_reducible apply ta_e_j)|(with_reducible apply ta_e_i)|(with_reducible apply ta_e_u)|(with_reducible apply ta_e_w)|(with_reducible apply ta_e_a)|(with_reducible apply ta_f_f)|(with_reducible apply ta_f_e)|(with_reducible apply ta_f_j)|(with_reducible apply ta_f_i)|(with_reducible apply ta_f_u)|(with_reducible apply ta_f_w)|(with_reducible apply ta_f_a)|(with_reducible apply ta_j_f)|(with_reducible apply ta_j_e)|(with_reducible apply ta_j_j)|(with_reducible apply ta_j_i)|(with_reducible apply ta_j_u)|(with_reducible apply ta_j_w)|(with_reducible apply ta_j_a)|(with_reducible apply eq_ee)|(with_reducible apply eq_fe)|(with_reducible apply eq_je)|(refine NextH.method (unwrap_j _) ?_;refine hU.mono ?_;rintro _ H2 ⟨⟨a1,c1,rfl,hr1⟩,hx2⟩;have hz2:=hx2.size)|refine Vc.stp ?_|refine Vc.spl ?_ ?_)<;>(intros;(conv=>whnf)))))
   have hce2:=WrV.mono hx2 (fun _ h=>h) _ _ hce
   have hrec:=as_num c.1 c.2 H2 (.iface ty pl) tb vb old hce2 (ht1.ext hx2)
   have hln:((c::l).length:Int)=l.length+1:=by simp
   refine LoopH.intro (fun(i:Nat)=>[(50,.int .i64 i)]) (fun i H'=>H2=H'∧i=0) (fun i=>1) 0 ⟨rfl,trivial⟩ ⟨rfl,rfl⟩ ?_
   rintro i _ ⟨rfl,rfl⟩
   ((conv=>whnf);repeat(any_goals((first|(refine IdxA.val hr1 hvl 0 (.iface ty pl) rfl rfl ?_;intro _ _ _)|(refine hrec.mono ?_;rintro _ H3 ⟨rfl,hb3,hx3⟩;have hz3:=hx3.size)|refine Vc.stp ?_|refine Vc.spl ?_ ?_)<;>(intros;(conv=>whnf)))))
   exact⟨rfl,hb3,Only.trans (hx1.trans hx2).only hx3 fun _ _ h=>h⟩
 |cons x ws=>
  obtain⟨g,v',rfl,hb,hw⟩:=h
  obtain⟨ty,pl,rfl⟩:=ErV.iface hw
  ((conv=>whnf);repeat(any_goals((first|(refine(typeOf_f _ _).mono ?_;rintro _ _ ⟨rfl,rfl⟩)|(refine assign_fn _ ?_)|(with_reducible apply ta_e_f)|(with_reducible apply ta_e_e)|(with_reducible apply ta_e_j)|(with_reducible apply ta_e_i)|(with_reducible apply ta_e_u)|(with_reducible apply ta_e_w)|(with_reducible apply ta_e_a)|(with_reducible apply ta_f_f)|(with_reducible apply ta_f_e)|(with_reducible apply ta_f_j)|(with_reducible apply ta_f_i)|(with_reducible apply ta_f_u)|(with_reducible apply ta_f_w)|(with_reducible apply ta_f_a)|(with_reducible apply ta_j_f)|(with_reducible apply ta_j_e)|(with_reducible apply ta_j_j)|(with_reducible apply ta_j_i)|(with_reducible apply ta_j_u)|(with_reducible apply ta_j_w)|(with_reducible apply ta_j_a)|(with_reducible apply eq_ee)|(with_reducible apply eq_fe)|(with_reducible apply eq_je)|(refine NextH.method (unwrap_f _) ?_;refine(unwrapF_any hb).mono ?_;rintro _ _ ⟨rfl,rfl⟩)|refine Vc.stp ?_|refine Vc.spl ?_ ?_)<;>(intros;(conv=>whnf)))))
  exact⟨(ws,.iface ty pl),⟨rfl,trivial⟩,⟨rfl,hw⟩,by show ws.length<ws.length+1;omega⟩
set_option maxHeartbeats 1000000 in
theorem eas_any {ws:Chain} {b:Bas} {H:Heap} {v:Value} {tb:Nat} {old:Value} (hg:Glb H) (hok:BasOk b) (h:ErV H ws b v) (ht:Blk H tb #[old] 34):CallH Tryz.prog 133 [v,.iface 219 (.pointer (some ⟨tb,0,none⟩))] H fun u H'=>u= .bool true∧Blk H' tb #[.int .i64 (codeB b)] 34∧But tb H H':=by
 obtain⟨ty,pl,rfl⟩:=ErV.iface h
 have hlt:=ht.lt
 have get:=hg.et
 refine Vc.CallH.body Tryz.func133 Tryz.call133 rfl (by decide+kernel) rfl ?_
 ((conv=>whnf);repeat(any_goals((first|(refine(valueOf_n ⟨tb,0,none⟩ _).mono ?_;rintro _ H1 ⟨rfl,hb1,hs1,hx1⟩;have hz1:=hx1.size)|(refine(typeV_n _ _).mono ?_;rintro _ _ ⟨rfl,rfl⟩)|(refine kind_n _ ?_)|(refine kindE_n _ ?_)|(refine elemT_n _ ?_)|(refine implements_n _ ?_)|(refine(isNil_n _ ⟨tb,0,none⟩ _ (Go.Vc.hcell_keep (show hcell H1 ⟨H.size,0,none⟩=some (.pointer (some ⟨tb,0,none⟩))by rw[hb1.cell];rfl) (show Ext H1 _ by exact Vc.xt) id)).mono ?_;rintro _ _ ⟨rfl,rfl⟩)|refine Vc.stp ?_|refine Vc.spl ?_ ?_)<;>(intros;(conv=>whnf)))))
 rename_i H2 hs2 hb2 hx2 H3 hs3 hb3 hx3
 have k13:Ext H1 H3:=by exact Vc.xt
 have k3:Ext H H3:=hx1.trans k13
 refine(as_any ws b H3 _ tb ⟨H.size,0,none⟩ old hok (ErV.ext h k3) ⟨hcell_keep (show hcell H1 ⟨H.size,0,none⟩=some (.pointer (some ⟨tb,0,none⟩))by rw[hb1.cell];rfl) k13 id,ht.ext k3,by show H.size≠tb;omega⟩).mono ?_
 rintro _ H4 ⟨rfl,hb4,hx4⟩
 ((conv=>whnf);repeat(any_goals((first|refine Vc.stp ?_|refine Vc.spl ?_ ?_)<;>(intros;(conv=>whnf)))))
 exact⟨rfl,hb4,Only.trans k3.only hx4 fun _ _ h=>h⟩
end Go.Proofs.YtphkaogbcfdllaaGreatDoor
namespace Go.Proofs.YtphkaogbcfdllaaGreatDoor
open Go Go.Vc Go.RowKit Go.Sort
theorem errS_len (n:Int) (h:I64 n):(errS n).length≤40:=by
 have:=itoa_len n h
 unfold errS;simp;omega
def chS (c:Chain×Int):Bs:=wrS c.1 (errS c.2)
theorem chS_len (c:Chain×Int) (h1:Small c.1) (h2:I64 c.2):(chS c).length≤7000:=by
 have:=wrS_len c.1 (errS c.2) h1
 have:=errS_len c.2 h2
 have:=h1.1
 unfold chS;omega
def basT:Bas→Bs
 | .num n=>errS n
 | .join l=>Lib.join (l.map chS) [10]
theorem join_len: ∀ (ws:List Bs) (m:Nat),(∀ w∈ws,w.length≤m)→(Lib.join ws [10]).length≤(m+1)*ws.length
 |[],m,_=>by simp[Lib.join,List.intercalate]
 |[w],m,h=>by have:=h w (by simp);simp[Lib.join,List.intercalate];omega
 |w::x::ws,m,h=>by
  have h1:=join_len (x::ws) m fun y hy=>h y (by simp[hy])
  have h2:=h w (by simp)
  have e:Lib.join (w::x::ws) [10]=w++([10]++Lib.join (x::ws) [10]):=by simp[Lib.join,List.intercalate,List.intersperse]
  rw[e]
  simp only[List.length_append,List.length_cons,List.length_nil]at h1 ⊢
  rw[Nat.mul_succ (m+1) (ws.length+1)]
  generalize (m+1)*(ws.length+1)=q at*
  omega
theorem said_ch {H:Heap} (hg:Glb H) {c:Chain×Int} {v:Value} (h1:Small c.1) (h2:I64 c.2) (h:WrV H c.1 (NumV c.2) v):CallH Tryz.prog 78 [v] H fun u H'=>u= .string (mkS (chS c))∧Ext H H':=
 said_wr (P:=fun _ v=>NumV c.2 v) (t:=errS c.2) (by have:=errS_len c.2 h2;omega) (fun _ _ _ h _=>h) (fun _ v h=>⟨_,_,h⟩) (fun H v hg h=>by obtain rfl:=h;exact said_num hg c.2 h2) c.1 H v h1 hg h
set_option maxHeartbeats 1000000 in
theorem said_join {H:Heap} (hg:Glb H) {l:List (Chain×Int)} {v:Value} (hok:BasOk (.join l)) (h:BasV H (.join l) v):CallH Tryz.prog 78 [v] H fun u H'=>u= .string (mkS (basT (.join l)))∧Ext H H':=by
 obtain⟨g,a,cap,vs,rfl,hb,hc,hr,hvl,hall⟩:=h
 obtain⟨h0,h20,hsm⟩:=hok
 obtain⟨S,hS⟩: ∃ S,l.map chS=S:=⟨_,rfl⟩
 have hSl:S.length=l.length:=by rw[←hS,List.length_map]
 have hjl:=join_len S 7000 fun w hw=>by rw[←hS]at hw;obtain⟨c,hc,rfl⟩:=List.mem_map.1 hw;exact chS_len c (hsm c hc).1 (hsm c hc).2
 have herr:CallH Tryz.prog 139 [.pointer (some ⟨g,0,none⟩)] H fun u H'=>u= .string (mkS (Lib.join S [10]))∧Ext H H':=by
  refine Vc.CallH.body Tryz.func139 Tryz.call139 rfl (by decide+kernel) rfl ?_
  ((conv=>whnf);repeat(any_goals((first|refine Vc.stp ?_|refine Vc.spl ?_ ?_)<;>(intros;(conv=>whnf)))))
  refine LoopH.intro (fun(x:Nat×Option Addr×Nat)=>[(11,.int .i64 x.1),(3,.slice x.2.1 x.1 x.2.2)]) (fun x H'=>x.1≤l.length∧Own H' H.size 9 1 x.2.1 x.1 x.2.2 (strs (S.take x.1))∧Ext H H') (fun x=>l.length-x.1) (0,none,0) ⟨rfl,rfl,trivial⟩ ⟨Nat.zero_le _,Own.nil _ _ _ _,Ext.refl _⟩ ?_
  rintro⟨i,a1,c1⟩ H1 ⟨hi,ho1,hx1⟩
  dsimp only at hi ho1 ⊢
  have hz1:=hx1.size
  by_cases hlt:i<l.length
  ·obtain⟨c,hc⟩: ∃ c,l[i]? =some c:=⟨_,List.getElem?_eq_getElem hlt⟩
   obtain⟨e,he⟩: ∃ e,vs[i]? =some e:=⟨_,List.getElem?_eq_getElem (by omega)⟩
   have hcm:=List.mem_of_getElem? hc
   have hSi:S[i]? =some (chS c):=by rw[←hS,List.getElem?_map,hc];rfl
   have htk:S.take (i+1)=S.take i++[chS c]:=by rw[List.take_add_one,hSi];rfl
   have htl:(S.take i).length=i:=by rw[List.length_take];omega
   have hce:=WrV.mono hx1 (fun _ h=>h) _ _ (hall i c e hc he)
   have hsd:=fun H' (k:Ext H1 H')=>said_ch (hg.ext (hx1.trans k)) (hsm c hcm).1 (hsm c hcm).2 (WrV.mono k (fun _ h=>h) _ _ hce)
   have htext: ∀ H' (k:Ext H1 H'),CallH Tryz.prog 31 [e] H' fun u H''=>u= .string (mkS (chS c))∧Ext H' H'':=by
    intro H2 k
    refine Vc.CallH.body Tryz.func31 Tryz.call31 rfl (by decide+kernel) rfl ?_
    ((conv=>whnf);repeat(any_goals((first|(refine(hsd _ (k.trans (by exact Vc.xt))).mono ?_;rintro _ H3 ⟨rfl,hx3⟩;have hz3:=hx3.size)|refine Vc.stp ?_|refine Vc.spl ?_ ?_)<;>(intros;(conv=>whnf)))))
    exact⟨rfl,hx3⟩
   have hrow:=hr.ext hx1
   ((conv=>whnf);repeat(any_goals((first|(refine IdxA.val hrow hvl i e rfl he ?_;intro _ _ _)|(refine(htext _ (by exact Vc.xt)).mono ?_;rintro _ H2 ⟨rfl,hx2⟩;have hz2:=hx2.size)|refine Vc.stp ?_|refine Vc.spl ?_ ?_)<;>(intros;(conv=>whnf)))))
   rename_i H3 hs3 hb3 hx3 a4 c4 H4 ho4 hx4
   refine⟨(i+1,a4,c4),⟨rfl,rfl,trivial⟩,⟨by show i+1≤_;omega,?_,hx4⟩,by show l.length-(i+1)<l.length-i;omega⟩
   show Own H4 H.size _ 1 a4 (i+1) c4 (strs (S.take (i+1)))
   rw[htk,strs_append];exact ho4
  ·obtain rfl:i=l.length:=by omega
   have hall2:S.take l.length=S:=List.take_of_length_le (by omega)
   rw[hall2]at ho1
   ((conv=>whnf);repeat(any_goals((first|(refine(join_any (ws:=S) (sep:=[10]) ho1.row hSl ho1.cap_le (by omega) (by omega)).mono ?_;rintro _ H2 ⟨rfl,hx2⟩;have hz2:=hx2.size)|refine Vc.stp ?_|refine Vc.spl ?_ ?_)<;>(intros;(conv=>whnf)))))
   exact⟨rfl,hx1.trans hx2⟩
 have e:basT (.join l)=Lib.join S [10]:=by rw[←hS];rfl
 rw[e]
 refine Vc.CallH.body Tryz.func78 Tryz.call78 rfl (by decide+kernel) rfl ?_
 ((conv=>whnf);repeat(any_goals((first|(with_reducible apply ta_e_f)|(with_reducible apply ta_e_e)|(with_reducible apply ta_e_j)|(with_reducible apply ta_e_i)|(with_reducible apply ta_e_u)|(with_reducible apply ta_e_w)|(with_reducible apply ta_e_a)|(with_reducible apply ta_f_f)|(with_reducible apply ta_f_e)|(with_reducible apply ta_f_j)|(with_reducible apply ta_f_i)|(with_reducible apply ta_f_u)|(with_reducible apply ta_f_w)|(with_reducible apply ta_f_a)|(with_reducible apply ta_j_f)|(with_reducible apply ta_j_e)|(with_reducible apply ta_j_j)|(with_reducible apply ta_j_i)|(with_reducible apply ta_j_u)|(with_reducible apply ta_j_w)|(with_reducible apply ta_j_a)|(with_reducible apply eq_ee)|(with_reducible apply eq_fe)|(with_reducible apply eq_je)|(refine herr.mono ?_;rintro _ H1 ⟨rfl,hx1⟩;have hz1:=hx1.size)|refine Vc.stp ?_|refine Vc.spl ?_ ?_)<;>(intros;(conv=>whnf)))))
 exact⟨rfl,hx1⟩
theorem basT_len {b:Bas} (h:BasOk b):(basT b).length≤200000:=by
 cases b with
 |num n=>have:=errS_len n h;show(errS n).length≤_;omega
 |join l=>
  obtain⟨h0,h20,hsm⟩:=h
  have:=join_len (l.map chS) 7000 fun w hw=>by obtain⟨c,hc,rfl⟩:=List.mem_map.1 hw;exact chS_len c (hsm c hc).1 (hsm c hc).2
  rw[List.length_map]at this
  show(Lib.join (l.map chS) [10]).length≤_
  omega
theorem said_any {H:Heap} (hg:Glb H) {ws:Chain} {b:Bas} {v:Value} (hw:Small ws) (hok:BasOk b) (h:ErV H ws b v):CallH Tryz.prog 78 [v] H fun u H'=>u= .string (mkS (wrS ws (basT b)))∧Ext H H':=
 said_wr (P:=fun H v=>BasV H b v) (t:=basT b) (by have:=basT_len hok;omega) (fun _ _ _ h k=>BasV.ext k _ _ h) (fun _ v h=>bas_iface h)
  (fun H v hg h=>by
   cases b with
   |num n=>obtain rfl:=h;exact said_num hg n hok
   |join l=>exact said_join hg hok h) ws H v hw hg h
theorem text_err {H:Heap} (hg:Glb H) {ws:Chain} {b:Bas} {v:Value} (hw:Small ws) (hok:BasOk b) (h:ErV H ws b v):CallH Tryz.prog 31 [v] H fun u H'=>u= .string (mkS (wrS ws (basT b)))∧Ext H H':=by
 obtain⟨ty,pl,rfl⟩:=ErV.iface h
 refine Vc.CallH.body Tryz.func31 Tryz.call31 rfl (by decide+kernel) rfl ?_
 ((conv=>whnf);repeat(any_goals((first|(refine(said_any hg hw hok h).mono ?_;rintro _ H3 ⟨rfl,hx3⟩;have hz3:=hx3.size)|refine Vc.stp ?_|refine Vc.spl ?_ ?_)<;>(intros;(conv=>whnf)))))
 exact⟨rfl,hx3⟩
end Go.Proofs.YtphkaogbcfdllaaGreatDoor
namespace Go.Proofs.YtphkaogbcfdllaaGreatDoor
open Go Go.Vc Go.RowKit Go.Sort
def opsB:Bas→List Bs
 | .num _=>[]
 | .join l=>(l.headD ([],0)).1.map (·.1)
def findR (H:Heap) (v:Value) (n:Int) (ops:List Bs):Prop:=∃ a cap,v= .tuple #[.int .i64 n,.slice a ops.length cap,.bool true]∧ops.length≤cap∧Row H a (strs ops)
theorem find_num {H:Heap} (hg:Glb H) (n:Int) (h:I64 n):CallH Tryz.prog 72 [.iface 34 (.int .i64 n)] H fun u H'=>findR H' u n []∧Ext H H':=by
 refine Vc.CallH.body Tryz.func72 Tryz.call72 rfl (by decide+kernel) rfl ?_
 ((conv=>whnf);repeat(any_goals((first|refine Vc.stp ?_|refine Vc.spl ?_ ?_)<;>(intros;(conv=>whnf)))))
 rename_i H1 hs1 hb1 hx1
 refine(eas_any (ws:=[]) (b:= .num n) (hg.ext hx1) h rfl hb1).mono ?_
 rintro _ H2 ⟨rfl,hb2,hx2⟩
 have hb2:Blk H2 H.size #[.int .i64 n] 34:=hb2
 ((conv=>whnf);repeat(any_goals((first|(with_reducible apply ta_e_f)|(with_reducible apply ta_e_e)|(with_reducible apply ta_e_j)|(with_reducible apply ta_e_i)|(with_reducible apply ta_e_u)|(with_reducible apply ta_e_w)|(with_reducible apply ta_e_a)|(with_reducible apply ta_f_f)|(with_reducible apply ta_f_e)|(with_reducible apply ta_f_j)|(with_reducible apply ta_f_i)|(with_reducible apply ta_f_u)|(with_reducible apply ta_f_w)|(with_reducible apply ta_f_a)|(with_reducible apply ta_j_f)|(with_reducible apply ta_j_e)|(with_reducible apply ta_j_j)|(with_reducible apply ta_j_i)|(with_reducible apply ta_j_u)|(with_reducible apply ta_j_w)|(with_reducible apply ta_j_a)|(with_reducible apply eq_ee)|(with_reducible apply eq_fe)|(with_reducible apply eq_je)|refine Vc.stp ?_|refine Vc.spl ?_ ?_)<;>(intros;(conv=>whnf)))))
 exact⟨⟨none,0,rfl,Nat.le_refl _,Row.nil _ _⟩,hx1.but hx2 (Nat.le_refl _)⟩
set_option maxHeartbeats 1000000 in
theorem find_wr {b:Bas} (hok:BasOk b) (hO:(opsB b).length≤100) (hbas: ∀ H v,Glb H→BasV H b v→CallH Tryz.prog 72 [v] H fun u H'=>findR H' u (codeB b) (opsB b)∧Ext H H'):
  ∀ (ws:Chain) (H:Heap) (v:Value),Small ws→Glb H→ErV H ws b v→CallH Tryz.prog 72 [v] H fun u H'=>findR H' u (codeB b) (ws.map (·.1)++opsB b)∧Ext H H'
 |[],H,v,_,hg,h=>hbas H v hg h
 |x::ws,H,v,hsm,hg,h=>by
  have hfull:=h
  obtain⟨g,v',hv,hb,hw⟩:=h
  subst hv
  have ih:=fun H' (k:Ext H H')=>find_wr hok hO hbas ws H' v' hsm.tail (hg.ext k) (ErV.ext hw k)
  obtain⟨ty,pl,rfl⟩:=ErV.iface hw
  have hwn:=hsm.1
  simp only[List.length_cons]at hwn
  obtain⟨ops,hops⟩: ∃ ops,ws.map (·.1)++opsB b=ops:=⟨_,rfl⟩
  have hol:ops.length≤200:=by rw[←hops,List.length_append,List.length_map];omega
  have hcons:(x::ws).map (·.1)++opsB b=x.1::ops:=by rw[←hops];rfl
  rw[hops]at ih
  rw[hcons]
  refine Vc.CallH.body Tryz.func72 Tryz.call72 rfl (by decide+kernel) rfl ?_
  ((conv=>whnf);repeat(any_goals((first|refine Vc.stp ?_|refine Vc.spl ?_ ?_)<;>(intros;(conv=>whnf)))))
  rename_i H1 hs1 hb1 hx1
  refine(eas_any (ws:=x::ws) (b:=b) (hg.ext hx1) hok (ErV.ext hfull hx1) hb1).mono ?_
  rintro _ H2 ⟨rfl,hb2,hx2⟩
  have hx12:Ext H H2:=hx1.but hx2 (Nat.le_refl _)
  have hz2:=hx12.size
  ((conv=>whnf);repeat(any_goals((first|(with_reducible apply ta_e_f)|(with_reducible apply ta_e_e)|(with_reducible apply ta_e_j)|(with_reducible apply ta_e_i)|(with_reducible apply ta_e_u)|(with_reducible apply ta_e_w)|(with_reducible apply ta_e_a)|(with_reducible apply ta_f_f)|(with_reducible apply ta_f_e)|(with_reducible apply ta_f_j)|(with_reducible apply ta_f_i)|(with_reducible apply ta_f_u)|(with_reducible apply ta_f_w)|(with_reducible apply ta_f_a)|(with_reducible apply ta_j_f)|(with_reducible apply ta_j_e)|(with_reducible apply ta_j_j)|(with_reducible apply ta_j_i)|(with_reducible apply ta_j_u)|(with_reducible apply ta_j_w)|(with_reducible apply ta_j_a)|(with_reducible apply eq_ee)|(with_reducible apply eq_fe)|(with_reducible apply eq_je)|(refine(ih _ (by exact Vc.xt)).mono ?_;rintro _ H3 ⟨⟨a3,c3,rfl,hc3,hr3⟩,hx3⟩;have hz3:=hx3.size)|refine Vc.stp ?_|refine Vc.spl ?_ ?_)<;>(intros;(conv=>whnf)))))
  rename_i H4 hs4 hb4 hx4
  have ho4:Own H4 H3.size 9 1 (some ⟨H3.size,0,none⟩) 1 1 [.string (mkS x.1)]:=own_lit (xs:=[.string (mkS x.1)]) hb4 (Nat.le_refl _) rfl (Nat.le_of_ble_eq_true rfl)
  refine NextH.append (i:=Tryz.t9) (z:= .string ⟨#[]⟩) (base:=H3.size) rfl ⟨_,rfl,fun _ h=>by cases h⟩ rfl rfl rfl ho4 (Src.row (hr3.ext hx4) (by rw[strs_length];exact(Nat.mul_one _).symm) (strs_plain ops)) (by unfold maxLen;omega) (by show(1+ops.length)*16≤_;omega) hx4.size ?_
  intro a5 c5 H5 ho5 hw5 _
  ((conv=>whnf);repeat(any_goals((first|refine Vc.stp ?_|refine Vc.spl ?_ ?_)<;>(intros;(conv=>whnf)))))
  have hx5:Ext H3 H5:=hx4.wr ho4 (Nat.le_refl _) hw5
  refine⟨⟨a5,c5,by rw[List.length_cons,Nat.add_comm];rfl,?_,?_⟩,hx12.trans (hx3.trans hx5)⟩
  ·have:=ho5.cap_le;rw[List.length_cons];omega
  ·exact ho5.row
set_option maxHeartbeats 1000000 in
theorem find_join {l:List (Chain×Int)} {H:Heap} {v:Value} (hok:BasOk (.join l)) (hg:Glb H) (h:BasV H (.join l) v):CallH Tryz.prog 72 [v] H fun u H'=>findR H' u (codeB (.join l)) (opsB (.join l))∧Ext H H':=by
 have hfull:=h
 obtain⟨g,a,cap,vs,hv,hb,hc,hr,hvl,hall⟩:=h
 subst hv
 have hok2:=hok
 obtain⟨h0,h20,hsm⟩:=hok
 obtain⟨c,l,rfl⟩: ∃ c l',l=c::l':=by cases l with|nil=>simp at h0|cons c l=>exact⟨c,l,rfl⟩
 obtain⟨e,vs,rfl⟩: ∃ e vs',vs=e::vs':=by cases vs with|nil=>simp at hvl|cons e vs=>exact⟨e,vs,rfl⟩
 have hce:=hall 0 c e rfl rfl
 obtain⟨_,ty,pl,rfl⟩:=plain_wr hce
 have hcs:=hsm c (by simp)
 have hln:((c::l).length:Int)=l.length+1:=by simp
 refine Vc.CallH.body Tryz.func72 Tryz.call72 rfl (by decide+kernel) rfl ?_
 ((conv=>whnf);repeat(any_goals((first|refine Vc.stp ?_|refine Vc.spl ?_ ?_)<;>(intros;(conv=>whnf)))))
 rename_i H1 hs1 hb1 hx1
 refine(eas_any (ws:=[]) (b:= .join (c::l)) (hg.ext hx1) hok2 (BasV.ext hx1 _ _ hfull) hb1).mono ?_
 rintro _ H2 ⟨rfl,hb2,hx2⟩
 have hx12:Ext H H2:=hx1.but hx2 (Nat.le_refl _)
 have hz2:=hx12.size
 have hr2:=hr.ext hx12
 have hce2:=WrV.mono hx12 (fun _ h=>h) _ _ hce
 have hrec:=find_wr (b:= .num c.2) hcs.2 (Nat.zero_le _) (fun H v hg h=>by obtain rfl:=h;exact find_num hg c.2 hcs.2) c.1 H2 (.iface ty pl) hcs.1 (hg.ext hx12) hce2
 ((conv=>whnf);repeat(any_goals((first|(with_reducible apply ta_e_f)|(with_reducible apply ta_e_e)|(with_reducible apply ta_e_j)|(with_reducible apply ta_e_i)|(with_reducible apply ta_e_u)|(with_reducible apply ta_e_w)|(with_reducible apply ta_e_a)|(with_reducible apply ta_f_f)|(with_reducible apply ta_f_e)|(with_reducible apply ta_f_j)|(with_reducible apply ta_f_i)|(with_reducible apply ta_f_u)|(with_reducible apply ta_f_w)|(with_reducible apply ta_f_a)|(with_reducible apply ta_j_f)|(with_reducible apply ta_j_e)|(with_reducible apply ta_j_j)|(with_reducible apply ta_j_i)|(with_reducible apply ta_j_u)|(with_reducible apply ta_j_w)|(with_reducible apply ta_j_a)|(with_reducible apply eq_ee)|(with_reducible apply eq_fe)|(with_reducible apply eq_je)|refine Vc.stp ?_|refine Vc.spl ?_ ?_)<;>(intros;(conv=>whnf)))))
 refine LoopH.intro (fun(i:Nat)=>[(54,.int .i64 i)]) (fun i H'=>H2=H'∧i=0) (fun i=>1) 0 ⟨rfl,trivial⟩ ⟨rfl,rfl⟩ ?_
 rintro i _ ⟨rfl,rfl⟩
 ((conv=>whnf);repeat(any_goals((first|(refine IdxA.val hr2 hvl 0 (.iface ty pl) rfl rfl ?_;intro _ _ _)|(refine hrec.mono ?_;rintro _ H3 ⟨⟨a3,c3,rfl,hc3,hr3⟩,hx3⟩;have hz3:=hx3.size)|refine Vc.stp ?_|refine Vc.spl ?_ ?_)<;>(intros;(conv=>whnf)))))
 have e:opsB (.join (c::l))=c.1.map (·.1)++opsB (.num c.2):=by show c.1.map (·.1)=_++[];rw[List.append_nil]
 rw[e]
 exact⟨⟨a3,c3,rfl,hc3,hr3⟩,hx12.trans hx3⟩
theorem opsB_len {b:Bas} (h:BasOk b):(opsB b).length≤100:=by
 cases b with
 |num n=>exact Nat.zero_le _
 |join l=>
  obtain⟨h0,h20,hsm⟩:=h
  obtain⟨c,l,rfl⟩: ∃ c l',l=c::l':=by cases l with|nil=>simp at h0|cons c l=>exact⟨c,l,rfl⟩
  have:=(hsm c (by simp)).1.1
  show(c.1.map (·.1)).length≤_
  rw[List.length_map];omega
theorem vfind_any {ws:Chain} {b:Bas} {H:Heap} {v:Value} (hg:Glb H) (hsm:Small ws) (hok:BasOk b) (h:ErV H ws b v):CallH Tryz.prog 72 [v] H fun u H'=>findR H' u (codeB b) (ws.map (·.1)++opsB b)∧Ext H H':=
 find_wr hok (opsB_len hok) (fun H v hg h=>by
  cases b with
  |num n=>obtain rfl:=h;exact find_num hg n hok
  |join l=>exact find_join hok hg h) ws H v hsm hg h
theorem code_any {ws:Chain} {b:Bas} {H:Heap} {v:Value} (hg:Glb H) (hsm:Small ws) (hok:BasOk b) (h:ErV H ws b v):CallH Tryz.prog 24 [v] H fun u H'=>u= .int .i64 (codeB b)∧Ext H H':=by
 refine Vc.CallH.body Tryz.func24 Tryz.call24 rfl (by decide+kernel) rfl ?_
 ((conv=>whnf);repeat(any_goals((first|(refine(vfind_any hg hsm hok h).mono ?_;rintro _ H3 ⟨⟨a3,c3,rfl,hc3,hr3⟩,hx3⟩;have hz3:=hx3.size)|refine Vc.stp ?_|refine Vc.spl ?_ ?_)<;>(intros;(conv=>whnf)))))
 exact⟨rfl,hx3⟩
end Go.Proofs.YtphkaogbcfdllaaGreatDoor
namespace Go.Proofs.YtphkaogbcfdllaaGreatDoor
open Go Go.Vc Go.Scr Go.Pth Go.Tre Go.Blk Go.Run
theorem kv2_end (A:Tr):runP kvM 100 0 ⟨0,A,none,[]⟩=((1,72),⟨0,A,none,[]⟩):=rfl
theorem kv_line:wrS [([108,105,110,101],Lib.itoa ((0:Nat):Int))] (basT (.num 72))=[108,105,110,101,32,48,58,32,101,114,114,32,55,50]:=by decide+kernel
set_option maxHeartbeats 2000000 in
theorem known18_any {H:Heap} (hg:Glb H) (hH:2≤H.size):CallH Tryz.prog 14 [] H fun v H'=>v= .bool true∧Ext H H':=by
 have hp1:=fun H=>rparse_any kv1 (by decide) H
 have hp2:=fun H=>rparse_any kv2 (by decide) H
 rw[kv1_parse]at hp1
 rw[kv2_parse]at hp2
 obtain⟨⟨⟨u,e⟩,s1⟩,hR⟩: ∃ R,runP kvL 100 0 ⟨0,[],none,[]⟩=R:=⟨_,rfl⟩
 have k1:=kv1_run
 rw[hR]at k1
 obtain⟨k1,k2,k3⟩:=k1
 simp only[Prod.mk.injEq]at k1
 obtain⟨rfl,rfl⟩:=k1
 dsimp only at k2 k3
 have ok1:Okay s1.A:=by have:=run_okay kvL 100 0 ⟨0,[],none,[]⟩ Okay.nil;rw[hR]at this;exact this
 refine Vc.CallH.body Tryz.func14 Tryz.call14 rfl (by decide+kernel) rfl ?_
 have lensL: ∀ x∈kvL,x.a.length≤1000000∧x.b.length≤1000000∧x.tx.length≤1000000∧x.n≤1000000:=by decide
 have lensM: ∀ x∈kvM,x.a.length≤1000000∧x.b.length≤1000000∧x.tx.length≤1000000∧x.n≤1000000:=by decide
 ((conv=>whnf);repeat(any_goals((first|(refine(hp1 _).mono ?_;rintro _ H1 ⟨⟨a1,c1,rfl,ho1⟩,hx1⟩;have hz1:=hx1.size)|(refine(new_any _).mono ?_;rintro _ H2 ⟨⟨b,mb,rfl,ht2,hb2,hm2⟩,hx2⟩;have hz2:=hx2.size)|refine Vc.stp ?_)<;>(intros;(conv=>whnf)))))
 have hnl:kvL.length=3:=rfl
 have hfu:min (max 100 0) 65536=((100:Nat):Int):=rfl
 have hro:=ho1.row.ext hx2
 have q:=run_any (cl:=c1) (vm:=none) (V:=none) (A:=[]) (fuel:=100) (F:=100) hro rfl (by decide) kv_nested.1 lensL ht2 trivial Okay.nil (fun v hv=>by cases hv) (hg.ext (hx1.trans hx2)) ⟨by omega,by omega,fun v hv=>by cases hv⟩ (by omega) hfu
 rw[hR]at q
 dsimp only at q
 refine q.mono ?_
 rintro _ H3 ⟨er,rfl,her,ht3,_,ho3⟩
 rw[if_pos rfl]at her
 subst her
 rw[k2]
 have hz3:=ho3.size
 have hx13:Ext H H3:=Only.trans (hx1.trans hx2) ho3 fun y hy e=>(by rcases e with e|e|e;omega;omega;cases e)
 ((conv=>whnf);repeat(any_goals((first|(refine(read_any ht3 ok1 [97]).mono ?_;rintro _ H4 ⟨⟨a4,c4,rfl,ho4⟩,hx4⟩;rw[k3]at ho4 ⊢;have hz4:=hx4.size)|(refine(hp2 _).mono ?_;rintro _ H5 ⟨⟨a5,c5,rfl,ho5⟩,hx5⟩;have hz5:=hx5.size)|refine Vc.stp ?_)<;>(intros;(conv=>whnf)))))
 have hx35:Ext H3 H5:=hx4.trans hx5
 have hx15:Ext H H5:=hx13.trans hx35
 have hnm:kvM.length=1:=rfl
 have q2:=run_any (cl:=c5) (vm:=none) (V:=none) (A:=s1.A) (fuel:=100) (F:=100) ho5.row rfl (by decide) kv_nested.2 lensM (ht3.ext hx35) trivial ok1 (fun v hv=>by cases hv) (hg.ext hx15) ⟨by omega,by omega,fun v hv=>by cases hv⟩ (by omega) hfu
 rw[kv2_end]at q2
 dsimp only at q2
 refine q2.mono ?_
 rintro _ H6 ⟨er,rfl,her,ht6,_,ho6⟩
 rw[if_neg (by decide)]at her
 have hz6:=ho6.size
 have hx16:Ext H H6:=Only.trans hx15 ho6 fun y hy e=>(by rcases e with e|e|e;omega;omega;cases e)
 have hbl:=ht3.blk.lt
 have hml:=ht3.map.lt
 have hrs:Row H6 a4 (strV [120,120,120]):=(ho4.row.ext hx5).keep ho6 (by
  intro p hp e
  have:=(ho4.block p hp).1
  rcases e with e|e|e
  ·omega
  ·omega
  ·cases e)
 have hsm:Small [([108,105,110,101],Lib.itoa ((0:Nat):Int))]:=⟨by decide,fun x hx=>by
  rw[List.mem_singleton]at hx
  subst hx
  exact⟨by decide,by decide+kernel⟩⟩
 have hok:BasOk (.num ((72:Nat):Int)):=⟨by decide,by decide⟩
 have cc:=fun H' (k:Ext H6 H')=>code_any (hg.ext (hx16.trans k)) hsm hok (ErV.ext her k)
 have ct:=fun H' (k:Ext H6 H')=>text_err (hg.ext (hx16.trans k)) hsm hok (ErV.ext her k)
 rw[show wrS [([108,105,110,101],Lib.itoa ((0:Nat):Int))] (basT (.num ((72:Nat):Int)))=_ from kv_line]at ct
 obtain⟨ety,epl,rfl⟩:=ErV.iface her
 ((conv=>whnf);repeat(any_goals((first|(refine to_string' rfl rfl rfl hrs rfl ?_)|(refine(cc _ (by exact Vc.xt)).mono ?_;rintro _ H7 ⟨rfl,hx7⟩;have hz7:=hx7.size;dsimp only[codeB])|(refine(ct _ (by exact Vc.xt)).mono ?_;rintro _ H8 ⟨rfl,hx8⟩;have hz8:=hx8.size)|refine Vc.stp ?_)<;>(intros;(conv=>whnf)))))
 exact⟨by kernel_rfl,hx16.trans (hx7.trans hx8)⟩
end Go.Proofs.YtphkaogbcfdllaaGreatDoor
namespace Go.Proofs.YtphkaogbcfdllaaGreatDoor
open Go Go.Vc Go.RowKit Go.Sort
theorem find_nil (H:Heap):CallH Tryz.prog 72 [.nilIface] H fun u H'=>u= .tuple #[.int .i64 0,.slice none 0 0,.bool false]∧Ext H H':=by
 refine Vc.CallH.body Tryz.func72 Tryz.call72 rfl (by decide+kernel) rfl ?_
 ((conv=>whnf);repeat(any_goals((first|refine Vc.stp ?_|refine Vc.spl ?_ ?_)<;>(intros;(conv=>whnf)))))
 exact⟨rfl,by exact Vc.xt⟩
theorem code_nil (H:Heap):CallH Tryz.prog 24 [.nilIface] H fun u H'=>u= .int .i64 0∧Ext H H':=by
 refine Vc.CallH.body Tryz.func24 Tryz.call24 rfl (by decide+kernel) rfl ?_
 ((conv=>whnf);repeat(any_goals((first|(refine(find_nil _).mono ?_;rintro _ H3 ⟨rfl,hx3⟩;have hz3:=hx3.size)|refine Vc.stp ?_|refine Vc.spl ?_ ?_)<;>(intros;(conv=>whnf)))))
 exact⟨rfl,hx3⟩
end Go.Proofs.YtphkaogbcfdllaaGreatDoor
namespace Go.Proofs.YtphkaogbcfdllaaGreatDoor
open Go Go.Vc Go.Scr
theorem rdec_ind: ∀ (k n:Nat),n≤k→n≤9223372036854775807→ ∀ H,CallH Tryz.prog 15 [.int .i64 n] H fun v H'=>v= .string (mkS (Lib.decDigits n))∧H=H'
 |k,n,hk,hn,H=>by
  have hdl:(⟨#[48,49,50,51,52,53,54,55,56,57]⟩:ByteArray).size=10:=rfl
  refine Vc.CallH.body Tryz.func15 Tryz.call15 rfl (by decide+kernel) rfl ?_
  by_cases h10:n<10
  ·have hmx:max (n:Int) 0=(n:Int):=by omega
   have hda:=digs_at n h10
   ((conv=>whnf);repeat(any_goals((first|(rw[hmx])|(refine BndH.nat (n+1) (by omega) (by omega) ?_)|(refine BndH.nat n (by omega) (by omega) ?_;(conv=>whnf))|refine Vc.stp ?_)<;>(intros;(conv=>whnf)))))
   exact⟨by show Value.string _=_;exact congrArg _ hda,rfl⟩
  ·obtain⟨k,rfl⟩: ∃ k',k=k'+1:=⟨k-1,by omega⟩
   have c1:=fun H=>rdec_ind k (n / 10) (by omega) (by omega) H
   have hda:=digs_at (n % 10) (by omega)
   have l1:(Lib.decDigits (n / 10)).length≤20:=by have:=dd_len 19 (n / 10) (by omega);omega
   have hdm:(mkS (Lib.decDigits (n % 10))).size≤1:=by rw[dd_small (by omega)];exact Nat.le_refl _
   have hda':({data:= #[48,49,50,51,52,53,54,55,56,57]}:ByteArray).extract (n % 10) (n % 10+1)=mkS (Lib.decDigits (n % 10)):=hda
   have hl1:(mkS (Lib.decDigits (n / 10))).size≤20:=l1
   ((conv=>whnf);repeat(any_goals((first|(refine(c1 _).mono ?_;rintro _ _ ⟨rfl,rfl⟩)|(refine NeedH.mk ⟨by rw[hda'];omega,?_⟩;rw[hda'])|(refine BndH.nat (n % 10+1) (by omega) (by omega) ?_)|(refine BndH.nat (n % 10) (by omega) (by omega) ?_;(conv=>whnf))|refine Vc.stp ?_)<;>(intros;(conv=>whnf)))))
   exact⟨by show Value.string (mkS _++mkS _)=_;rw[mkS_app,←dd_big h10],rfl⟩
theorem rdec_any (n:Nat) (hn:n≤9223372036854775807) (H:Heap):CallH Tryz.prog 15 [.int .i64 n] H fun v H'=>v= .string (mkS (Lib.itoa (n:Int)))∧H=H':=by
 rw[itoa_nat];exact rdec_ind n n (Nat.le_refl _) hn H
end Go.Proofs.YtphkaogbcfdllaaGreatDoor
