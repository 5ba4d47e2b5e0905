import Derived.Test.YtphkaogbcfdllaaGreatDoorKa
import Derived.Laws.World
import Derived.Laws.AppendOwn
import Derived.Laws.OwnMore
set_option linter.unusedVariables false
set_option linter.unusedSimpArgs false
set_option maxRecDepth 100000
/- The engine: what the code of a function asks, computed from its text over a heap and an environment of slots; and that this is enough for the model's own run. -/
namespace Go.Vc
open Go.Lx
abbrev ae:=Array Obj
abbrev Env:=List (Nat×Value)
def get:Env->Nat->Option Value
 |[],_=>none
 |(j,v)::l,i=>match Nat.beq i j with
  |true=>some v
  |false=>get l i
def nth {α:Type}:List α->Nat->Option α
 |[],_=>none
 |x::l,i=>match i with
  |0=>some x
  |i+1=>nth l i
theorem vQ {α:Type}: ∀ (l:List α) (i:Nat),nth l i=l[i]?
 |[],i=>by simp[nth]
 |x::l,0=>by simp[nth]
 |x::l,i+1=>by simp[nth,vQ l i]
def ev (env:Env):Operand->Option Value
 | .tmp t=>get env t
 | .const v=>some v
 | .global g=>some (.pointer (some ⟨g,0,none⟩))
 | .func f=>some (.func (.func f) #[] #[])
def lN (env:Env):List Operand->Option (List Value)
 |[]=>some []
 |x::l=>match ev env x with
  |none=>none
  |some v=>match lN env l with
   |none=>none
   |some vs=>some (v::vs)
def iI (env:Env) (a:Act):Prop:=∀ i v,get env i=some v->a.tmps[i]? =some v
theorem iI.ev {env:Env} {a:Act} (h:iI env a) {x:Operand} {v:Value} (hx:ev env x=some v):a.eval x=v:=by
 cases x with
 |tmp t=>simp[Vc.ev]at hx;have:=h t v hx;simp[Act.eval,dV,this]
 |const c=>simp[Vc.ev]at hx;simpa [Act.eval]using hx
 |global g=>simp[Vc.ev]at hx;simpa [Act.eval]using hx
 |func g=>simp[Vc.ev]at hx;simpa [Act.eval]using hx
theorem iI.lN {env:Env} {a:Act} (h:iI env a): ∀ {l:List Operand} {vs:List Value},lN env l=some vs->l.map a.eval=vs
 |[],vs,hx=>by simp[Vc.lN]at hx;simp[hx]
 |x::l,vs,hx=>by
  unfold Vc.lN at hx;split at hx
  .cases hx
  .rename_i v hv;split at hx
   .cases hx
   .rename_i us hu;cases hx;simp[h.ev hv,h.lN hu]
theorem uE (j:Nat) (v:Value) (l:Env) (i:Nat):get ((j,v)::l) i=if i=j then some v else get l i:=by
 by_cases h:i=j
 .subst h;simp[get]
 .have:Nat.beq i j=false:=by
   cases hb:Nat.beq i j
   .rfl
   .exact absurd (dW hb) h
  simp[get,this,h]
theorem iI.put {env:Env} {a:Act} (h:iI env a) {d:Nat} (hd:d<a.tmps.size) (v:Value):iI ((d,v)::env) (a.put (some d) v):=by
 intro i u hu;rw[uE]at hu;simp only[Act.put];rw[fH];by_cases hi:i=d
 .subst hi;simp at hu ⊢;exact⟨hd,hu⟩
 .rw[ak hi]at hu;rw[ak (fun e=>hi e.symm)];exact h i u hu
theorem iI.drop {env:Env} {a:Act} {j:Nat} {v:Value} (h:iI env a) (hv:a.tmps[j]? =some v):iI ((j,v)::env) a:=by
 intro i u hu;rw[uE]at hu;by_cases hi:i=j
 .subst hi;simp at hu;subst hu;exact hv
 .rw[ak hi]at hu;exact h i u hu
structure fm (k:IntKind) (e:Int) (K:Int->Prop):Prop where out:K (k.wrap e)
structure db (i:Int) (n:Nat) (K:Nat->Prop):Prop where out:0<=i/\i<n/\K i.toNat
structure dk (i:Int) (n:Nat) (K:Nat->Prop):Prop where out:0<=i/\i<=n/\K i.toNat
structure Am (k:IntKind) (a c:Int) (K:Int->Prop):Prop where out:c≠0/\K (k.wrap (a.tdiv c))
structure wc (a c:Int) (K:Int->Prop):Prop where out:c≠0/\K (a.tmod c)
structure kM (p:Prop) (K:Prop):Prop where out:p/\K
structure eN (b:Bool) (A B:Prop):Prop where
 t:b=true->A
 f:b=false->B
structure eS (b:Bool) (K:Bool->Prop):Prop where
 t:b=true->K true
 f:b=false->K false
structure ah8 (cs:Array Value) (i:Nat) (K:Value->Prop):Prop where out: ∃ v,cs[i]? =some v/\K v
structure da (P:Program) (s:Sem Value) (K:Value->Prop):Prop where out: ∃ v,(∀ w,s.run P w= .ok v w)/\K v
structure dC (w w':World):Prop where
 os:w'.os=w.os
 tape:w'.tape=w.tape
 output:w'.output=w.output
theorem dC.refl (w:World):dC w w:=⟨rfl,rfl,rfl⟩
theorem dC.trans {a b c:World} (h:dC a b) (k:dC b c):dC a c:=⟨k.os.trans h.os,k.tape.trans h.tape,k.output.trans h.output⟩
structure aE (P:Program) (s:Sem Value) (H:ae) (K:Value->ae->Prop):Prop where
 out: ∀ w:World,w.heap=H-> ∃ v w',s.run P w= .ok v w'/\dC w w'/\K v w'.heap
structure dc (P:Program) (s:Sem Unit) (H:ae) (K:ae->Prop):Prop where
 out: ∀ w:World,w.heap=H-> ∃ w',s.run P w= .ok () w'/\dC w w'/\K w'.heap
def r3 (P:Program) (w:World) (R:Value->ae->Prop):Result Next->Prop
 | .ok (.value v) w'=>dC w w'/\R v w'.heap
 | .ok (.enter g as) w'=>dC w w'/\Calls P g as w' fun e kQ=>dC w kQ/\ ∃ v,e= .returned v/\R v kQ.heap
 |_=>False
structure cP (P:Program) (s:Sem Next) (H:ae) (R:Value->ae->Prop):Prop where
 out: ∀ w:World,w.heap=H->r3 P w R (s.run P w)
structure az (P:Program) (f:FuncId) (args:List Value) (H:ae) (R:Value->ae->Prop):Prop where
 out: ∀ w:World,w.heap=H->r3 P w R ((callFunc f args.toArray).run P w)
abbrev kD:=List PanicEntry->ae->Prop
def vR (P:Program) (w:World) (R:Value->ae->Prop) (X:kD):Result Next->Prop
 | .ok (.value v) w'=>dC w w'/\R v w'.heap
 | .ok (.enter g as) w'=>dC w w'/\Calls P g as w' fun e kQ=>dC w kQ/\((∃ v,e= .returned v/\R v kQ.heap)\/ ∃ c,e= .panicked c/\X c kQ.heap)
 | .halt (.panic v) w'=>dC w w'/\X [{v,recovered:=false}] w'.heap
 |_=>False
structure Aa (P:Program) (s:Sem Next) (H:ae) (R:Value->ae->Prop) (X:kD):Prop where
 out: ∀ w:World,w.heap=H->vR P w R X (s.run P w)
structure lj (P:Program) (f:FuncId) (args:List Value) (H:ae) (R:Value->ae->Prop) (X:kD):Prop where
 out: ∀ w:World,w.heap=H->vR P w R X ((callFunc f args.toArray).run P w)
theorem r3.x {P:Program} {w:World} {R:Value->ae->Prop} {X:kD} {r:Result Next} (h:r3 P w R r):vR P w R X r:=by
 cases r with
 |ok n w'=>
  cases n<;>simp only[r3,vR]at h ⊢
  .exact h
  .exact⟨h.1,Calls.mono h.2 fun e kQ ⟨hs,hv⟩=>⟨hs,.inl hv⟩⟩
 |halt x w'=>exact h.elim
theorem lj.of {P:Program} {f:FuncId} {args:List Value} {H:ae} {R:Value->ae->Prop} {X:kD} (h:az P f args H R):lj P f args H R X:=⟨fun w hw=>(h.out w hw).x⟩
theorem Aa.of {P:Program} {s:Sem Next} {H:ae} {R:Value->ae->Prop} {X:kD} (h:cP P s H R):Aa P s H R X:=⟨fun w hw=>(h.out w hw).x⟩
theorem vR.mono {P:Program} {w:World} {R R':Value->ae->Prop} {X X':kD} (h: ∀ v H,R v H->R' v H) (hX: ∀ c H,X c H->X' c H) {r:Result Next} (hr:vR P w R X r):vR P w R' X' r:=by
 cases r with
 |ok n w'=>
  cases n<;>simp only[vR]at hr ⊢
  .exact⟨hr.1,h _ _ hr.2⟩
  .exact⟨hr.1,Calls.mono hr.2 fun e kQ ⟨hs,hv⟩=>⟨hs,hv.imp (fun⟨v,he,hR⟩=>⟨v,he,h _ _ hR⟩) fun⟨c,he,hx⟩=>⟨c,he,hX _ _ hx⟩⟩⟩
 |halt x w'=>
  cases x<;>simp only[vR]at hr ⊢
  exact⟨hr.1,hX _ _ hr.2⟩
theorem lj.mono {P:Program} {f:FuncId} {args:List Value} {H:ae} {R R':Value->ae->Prop} {X X':kD} (hc:lj P f args H R X) (h: ∀ v H,R v H->R' v H) (hX: ∀ c H,X c H->X' c H):lj P f args H R' X':=
 ⟨fun w hw=>(hc.out w hw).mono h hX⟩
structure ahj (v:Value) (H:ae) (X:kD):Prop where out:X [{v,recovered:=false}] H
theorem r3.mono {P:Program} {w:World} {R R':Value->ae->Prop} (h: ∀ v H,R v H->R' v H) {r:Result Next} (hr:r3 P w R r):r3 P w R' r:=by
 cases r with
 |ok n w'=>
  cases n<;>simp only[r3]at hr ⊢
  .exact⟨hr.1,h _ _ hr.2⟩
  .exact⟨hr.1,Calls.mono hr.2 fun e kQ ⟨hs,v,he,hR⟩=>⟨hs,v,he,h _ _ hR⟩⟩
 |halt x w'=>exact hr
theorem az.mono {P:Program} {f:FuncId} {args:List Value} {H:ae} {R R':Value->ae->Prop} (hc:az P f args H R) (h: ∀ v H,R v H->R' v H):az P f args H R':=
 ⟨fun w hw=>(hc.out w hw).mono h⟩
def du (k:IntKind) (op:BinOp) (x y:Int):Int:=
 let a:=BitVec.ofInt k.bits x
 let b:=BitVec.ofInt k.bits y
 match op with
 | .and=>k.wrap (a&&&b).toNat
 | .or=>k.wrap (a ||| b).toNat
 | .xor=>k.wrap (a ^^^ b).toNat
 | .andNot=>k.wrap (a&&& ~~~b).toNat
 |_=>0
def rv (k:IntKind) (x y:Int):Int:=k.wrap (x*2 ^ min y.toNat k.bits)
def nA (k:IntKind) (x y:Int):Int:=x.fdiv (2 ^ min y.toNat k.bits)
def OS:IntKind->IntKind->Bool
 | .i8,.i8| .i16,.i16| .i32,.i32| .i64,.i64| .u8,.u8| .u16,.u16| .u32,.u32| .u64,.u64=>true
 |_,_=>false
theorem aaK {a b:IntKind} (h:OS a b=true):a=b:=by
 cases a<;>cases b<;>first|rfl|(simp[OS]at h)
def KE (kx:IntKind) (b:BinOp) (a c:Int) (k:Value->Prop):Prop:=
 match b with
 | .add=>fm kx (a+c) fun n=>k (.int kx n)
 | .sub=>fm kx (a-c) fun n=>k (.int kx n)
 | .mul=>fm kx (a*c) fun n=>k (.int kx n)
 | .quo=>Am kx a c fun n=>k (.int kx n)
 | .rem=>wc a c fun n=>k (.int kx n)
 | .and=>k (.int kx (du kx .and a c))
 | .or=>k (.int kx (du kx .or a c))
 | .xor=>k (.int kx (du kx .xor a c))
 | .andNot=>k (.int kx (du kx .andNot a c))
 | .eql=>k (.bool (a==c))
 | .neq=>k (.bool (a != c))
 | .lss=>k (.bool (decide (a<c)))
 | .leq=>k (.bool (decide (a<=c)))
 | .gtr=>k (.bool (decide (c<a)))
 | .geq=>k (.bool (decide (c<=a)))
 | .shl=>kM (0<=c) (k (.int kx (rv kx a c)))
 | .shr=>kM (0<=c) (k (.int kx (nA kx a c)))
def Ot:BinOp->Bool
 | .shl| .shr=>true
 |_=>false
def VW (b:BinOp) (s t:ByteArray) (k:Value->Prop):Prop:=
 match b with
 | .add=>kM (s.size+t.size<=9223372036854775807) (k (.string (s++t)))
 | .eql=>k (.bool (s.toList==t.toList))
 | .neq=>k (.bool !(s.toList==t.toList))
 | .lss=>k (.bool (Op.bytesLess s.toList t.toList))
 | .leq=>k (.bool (Op.bytesLess s.toList t.toList || s.toList==t.toList))
 | .gtr=>k (.bool !(Op.bytesLess s.toList t.toList || s.toList==t.toList))
 | .geq=>k (.bool !(Op.bytesLess s.toList t.toList))
 |_=>False
def yj (b:BinOp) (r:Bool) (k:Value->Prop):Prop:=
 match b with
 | .eql=>k (.bool r)
 | .neq=>k (.bool !r)
 |_=>False
def O6 (P:Program) (b:BinOp) (xt:TypeId) (ox oy:Operand) (x y:Value) (k:Value->Prop):Prop:=
 match x with
 | .int kx a=>match y with
  | .int ky c=>match Ot b with
   |true=>KE kx b a c k
   |false=>match OS kx ky with
    |true=>KE kx b a c k
    |false=>False
  |_=>False
 | .string s=>match y with
  | .string t=>VW b s t k
  |_=>False
 | .bool a=>match y with
  | .bool c=>match P.underlying xt with
   |some .bool=>yj b (a==c) k
   |_=>False
  |_=>False
 | .nilIface=>match y with
  | .nilIface=>match P.underlying xt with
   |some (.interface _)=>match oy with
    | .const _=>yj b true k
    |_=>da P (do eqGuard b xt ox oy x y;binOp b xt x y) k
   |_=>False
  | .iface _ _=>match P.underlying xt with
   |some (.interface _)=>yj b false k
   |_=>False
  |_=>False
 | .iface _ _=>match y with
  | .nilIface=>match P.underlying xt with
   |some (.interface _)=>yj b false k
   |_=>False
  |_=>da P (do eqGuard b xt ox oy x y;binOp b xt x y) k
 | .pointer p=>match y with
  | .pointer none=>match P.underlying xt with
   |some (.pointer _)=>match p with
    |none=>yj b true k
    |some _=>yj b false k
   |_=>False
  |_=>da P (do eqGuard b xt ox oy x y;binOp b xt x y) k
 | .slice p _ _=>match y with
  | .slice none _ _=>match P.underlying xt with
   |some (.slice _)=>yj b p.isNone k
   |_=>False
  |_=>False
 |_=>da P (do eqGuard b xt ox oy x y;binOp b xt x y) k
theorem RT {P:Program} {b:BinOp} {xt:TypeId} {kx ky:IntKind} {a c:Int} {k:Value->Prop} (hk:Ot b=true\/kx=ky) (h:KE kx b a c k):
  ∃ v,(∀ w,(binOp b xt (.int kx a) (.int ky c)).run P w= .ok v w)/\k v:=by
 cases b<;>simp only[KE]at h
 case shl=>exact⟨_,fun w=>by have:=h.out.1;simp[binOp,Op.shift,Int.not_lt.2 this]<;>rfl,h.out.2⟩
 case shr=>exact⟨_,fun w=>by have:=h.out.1;simp[binOp,Op.shift,Int.not_lt.2 this]<;>rfl,h.out.2⟩
 all_goals obtain rfl:kx=ky:=hk.resolve_left (by simp[Ot])
 case add=>exact⟨_,fun w=>by simp[binOp,Op.intArith]<;>rfl,h.out⟩
 case sub=>exact⟨_,fun w=>by simp[binOp,Op.intArith]<;>rfl,h.out⟩
 case mul=>exact⟨_,fun w=>by simp[binOp,Op.intArith]<;>rfl,h.out⟩
 case quo=>obtain⟨h0,h⟩:=h.out;exact⟨_,fun w=>by simp[binOp,Op.intDiv,h0]<;>rfl,h⟩
 case rem=>obtain⟨h0,h⟩:=h.out;exact⟨_,fun w=>by simp[binOp,Op.intDiv,h0]<;>rfl,h⟩
 case and=>exact⟨_,fun w=>by simp[binOp,Op.intBits]<;>rfl,h⟩
 case or=>exact⟨_,fun w=>by simp[binOp,Op.intBits]<;>rfl,h⟩
 case xor=>exact⟨_,fun w=>by simp[binOp,Op.intBits]<;>rfl,h⟩
 case andNot=>exact⟨_,fun w=>by simp only[binOp,Op.intBits,ne_eq,not_true_eq_false,fP];rfl,h⟩
 all_goals exact⟨_,fun w=>by simp[binOp,Op.intCmp]<;>rfl,h⟩
theorem ft {P:Program} {t:TypeId} {d:TypeDesc} (h:P.underlying t=some d) (w:World):(underlying t).run P w= .ok d w:=by
 unfold underlying;simp only[Sem.run_bind,run_program,Result.andThen_ok,h];rfl
theorem Bn {P:Program} {b:BinOp} {xt:TypeId} {ox oy:Operand} {x y:Value} {r:Bool} {k:Value->Prop} (hg: ∀ w,(eqGuard b xt ox oy x y).run P w= .ok () w) (he: ∀ w,(Op.equal xt x y).run P w= .ok r w)
  (hb: ∀ w,(b= .eql->(binOp b xt x y).run P w=(do pure (.bool (<-Op.equal xt x y)):Sem Value).run P w)/\(b= .neq->(binOp b xt x y).run P w=(do pure (.bool (!(<-Op.equal xt x y))):Sem Value).run P w)) (h:yj b r k):
  ∃ v,(∀ w,(do eqGuard b xt ox oy x y;binOp b xt x y:Sem Value).run P w= .ok v w)/\k v:=by
 cases b<;>simp only[yj]at h
 case eql=>exact⟨_,fun w=>by rw[Sem.run_bind,hg,Result.andThen_ok,(hb w).1 rfl];simp[he],h⟩
 case neq=>exact⟨_,fun w=>by rw[Sem.run_bind,hg,Result.andThen_ok,(hb w).2 rfl];simp[he],h⟩
theorem Bw {P:Program} {xt:TypeId} {x y:Value} {r:Bool} (h: ∀ d w,(Op.equalIn (d+1) xt x y).run P w= .ok r w) (w:World):(Op.equal xt x y).run P w= .ok r w:=h 9999 w
theorem aae {P:Program} {xt e:TypeId} {p:Option Addr} {n c n' c':Nat} (hu:P.underlying xt=some (.slice e)) (d:Nat) (w:World):(Op.equalIn (d+1) xt (.slice p n c) (.slice none n' c')).run P w= .ok p.isNone w:=by
 cases p<;>simp[Op.equalIn,ft hu]
theorem aaL {P:Program} {b:BinOp} {xt:TypeId} {ox oy:Operand} {x y:Value} {k:Value->Prop} (h:O6 P b xt ox oy x y k):
  ∃ v,(∀ w,(do eqGuard b xt ox oy x y;binOp b xt x y:Sem Value).run P w= .ok v w)/\k v:=by
 unfold O6 at h;split at h
 .split at h
  .rename_i kx a _ ky c;have g: ∀ w,(eqGuard b xt ox oy (.int kx a) (.int ky c)).run P w= .ok () w:=fun w=>by
    unfold eqGuard;cases b<;>simp
   simp only[Sem.run_bind,g,Result.andThen_ok];split at h
   .exact RT (.inl ‹_›) h
   .split at h
    .exact RT (.inr (aaK ‹_›)) h
    .exact h.elim
  .exact h.elim
 .split at h
  .rename_i s _ t;have g: ∀ w,(eqGuard b xt ox oy (.string s) (.string t)).run P w= .ok () w:=fun w=>by
    unfold eqGuard;cases b<;>simp
   simp only[Sem.run_bind,g,Result.andThen_ok];cases b<;>simp only[VW]at h
   case add=>
    refine⟨_,fun w=> ?_,h.out.2⟩;have:=h.out.1;simp only[binOp,Op.stringOp];rw[ak (by simp only[IntKind.max,IntKind.signed,IntKind.bits];simp;omega)];rfl
   all_goals exact⟨_,fun w=>by simp only[binOp,Op.stringOp];rfl,h⟩
  .exact h.elim
 .split at h
  .split at h
   .rename_i hu;exact Bn (fun w=>by simp[eqGuard]) (Bw fun d w=>by simp[Op.equalIn,ft hu]) (fun w=>⟨fun e=>by subst e;rfl,fun e=>by subst e;rfl⟩) h
   .exact h.elim
  .exact h.elim
 .split at h
  .split at h
   .rename_i hu;split at h
    .exact Bn (fun w=>by simp[eqGuard]) (Bw fun d w=>by simp[Op.equalIn,ft hu]) (fun w=>⟨fun e=>by subst e;rfl,fun e=>by subst e;rfl⟩) h
    .exact h.out
   .exact h.elim
  .split at h
   .rename_i hu;exact Bn (fun w=>by simp[eqGuard]) (Bw fun d w=>by simp[Op.equalIn,ft hu]) (fun w=>⟨fun e=>by subst e;rfl,fun e=>by subst e;rfl⟩) h
   .exact h.elim
  .exact h.elim
 .split at h
  .split at h
   .rename_i hu;exact Bn (fun w=>by simp[eqGuard]) (Bw fun d w=>by simp[Op.equalIn,ft hu]) (fun w=>⟨fun e=>by subst e;rfl,fun e=>by subst e;rfl⟩) h
   .exact h.elim
  .exact h.out
 .split at h
  .split at h
   .rename_i hu;split at h
    .exact Bn (fun w=>by simp[eqGuard]) (Bw fun d w=>by simp[Op.equalIn,ft hu]) (fun w=>⟨fun e=>by subst e;rfl,fun e=>by subst e;rfl⟩) h
    .exact Bn (fun w=>by simp[eqGuard]) (Bw fun d w=>by simp[Op.equalIn,ft hu]) (fun w=>⟨fun e=>by subst e;rfl,fun e=>by subst e;rfl⟩) h
   .exact h.elim
  .exact h.out
 .split at h
  .split at h
   .rename_i hu;exact Bn (fun w=>by simp[eqGuard]) (Bw fun d w=>aae hu d w) (fun w=>⟨fun e=>by subst e;rfl,fun e=>by subst e;rfl⟩) h
   .exact h.elim
  .exact h.elim
 .exact h.out
def BR (i:TypeInfo) (K:Nat->Prop):Prop:=match i with
 |⟨_,_,s,_,_,_,_,_,_,_⟩=>K s
theorem Dr (i:TypeInfo) (K:Nat->Prop):BR i K=K i.size:=by cases i;rfl
def OT (f:Field) (K:TypeId->Nat->Prop):Prop:=match f with
 |⟨_,t,o,_,_,_,_⟩=>K t o
theorem S1 (f:Field) (K:TypeId->Nat->Prop):OT f K=K f.type f.offset:=by cases f;rfl
def UU (P:Program) (t:TypeId) (f:Nat):Option (Field×Nat):=
 match P.underlying t with
 |some (.struct fs)=>match nth fs.toList f with
  |some fl=>match P.info? fl.type with
   |some i=>some (fl,i.size)
   |none=>none
  |none=>none
 |_=>none
def wg (P:Program) (t:TypeId):Option Bool:=
 match P.underlying t with
 |some (.struct _)=>some true
 |some (.array _ _)=>some true
 |some _=>some false
 |none=>none
def cut (l:List Value) (off n:Nat):List Value:=(l.drop off).take n
def DI (P:Program) (t:TypeId) (cs:Array Value) (off:Nat) (k:Value->Prop):Prop:=
 match wg P t with
 |some true=>match P.info? t with
  |some i=>BR i fun s=>k (.agg (cs.extract off (off+s)))
  |none=>False
 |some false=>ah8 cs off k
 |none=>False
theorem xn {P:Program} {t:TypeId} {d:TypeInfo} (h:P.info? t=some d) (w:World):(typeInfo t).run P w= .ok d w:=by
 unfold typeInfo;simp only[Sem.run_bind,run_program,Result.andThen_ok,h];rfl
theorem mP {P:Program} {t:TypeId} {i:TypeInfo} (h:P.info? t=some i) (w:World):(sizeOf t).run P w= .ok i.size w:=by
 simp[sizeOf,xn h]
theorem JZ {P:Program} {t:TypeId} {b:Bool} (h:wg P t=some b) (w:World):(isAgg t).run P w= .ok b w:=by
 unfold wg at h;unfold isAgg;cases hd:P.underlying t with
 |none=>rw[hd]at h;cases h
 |some d=>
  rw[hd]at h;simp only[Sem.run_bind,ft hd,Result.andThen_ok];cases d<;>cases h<;>rfl
theorem RI {P:Program} {t:TypeId} {cs:Array Value} {off:Nat} {k:Value->Prop} (h:DI P t cs off k):
  ∃ v,(∀ w,(part t cs off).run P w= .ok v w)/\k v:=by
 unfold DI at h;split at h
 .rename_i hb;split at h
  .rename_i i hi;rw[Dr]at h;exact⟨_,fun w=>by simp[part,JZ hb,mP hi],h⟩
  .exact h.elim
 .rename_i hb;obtain⟨v,hv,hk⟩:=h.out;exact⟨v,fun w=>by simp[part,JZ hb,hv],hk⟩
 .exact h.elim
structure cm (a:Option Addr) (n size:Nat) (i:Int) (K:Addr->Prop):Prop where
 out:0<=i/\i<n/\ ∃ p,a=some p/\K (p.add (i.toNat*size))
def jM (a:Option Addr) (m l size:Nat):Option Addr:=if m=l then a else a.map (·.add (l*size))
def G3 (p:Addr) (n:Nat) (K:Addr->Prop):Prop:=match p with
 |⟨b,o,s⟩=>match s with
  |none=>K ⟨b,o+n,none⟩
  |some _=>False
def Ww (p:Addr) (n:Nat):Addr:=match p with
 |⟨b,o,none⟩=>⟨b,o+n,none⟩
 |a=>a.add n
theorem af7 (p:Addr) (n:Nat):Ww p n=p.add n:=by
 obtain⟨b,o,s⟩:=p;cases s with
 |none=>
  simp only[Ww,Addr.add];split
  .rename_i h;simp[h]
  .rfl
 |some _=>rfl
theorem TX {p:Addr} {n:Nat} {K:Addr->Prop} (h:G3 p n K):K (p.add n):=by
 obtain⟨b,o,s⟩:=p;cases s with
 |none=>
  rw[<-af7];exact h
 |some _=>exact h.elim
def Bz (cap len:Nat) (lo hi:Option Value) (K:Nat->Nat->Prop):Prop:=
 match hi with
 |none=>match lo with
  |none=>K 0 len
  |some (.int _ i)=>dk i len fun l=>K l len
  |some _=>False
 |some (.int _ j)=>dk j cap fun h=>match lo with
  |none=>K 0 h
  |some (.int _ i)=>dk i h fun l=>K l h
  |some _=>False
 |some _=>False
def wD (env:Env):Option Operand->Option (Option Value)
 |none=>some none
 |some x=>match ev env x with
  |some v=>some (some v)
  |none=>none
def Ou (P:Program) (t:TypeId) (x:Value) (lo hi:Option Value) (k:Value->Prop):Prop:=
 match P.underlying t with
 |some .string=>match x with
  | .string s=>Bz s.size s.size lo hi fun l h=>k (.string (s.extract l h))
  |_=>False
 |some (.slice e)=>match x with
  | .slice a len cap=>match P.info? e with
   |some i=>match lo with
    |none=>Bz cap len none hi fun _ h=>k (.slice a h cap)
    |some l=>BR i fun s=>Bz cap len (some l) hi fun l h=>k (.slice (jM a cap l s) (h-l) (cap-l))
   |none=>False
  |_=>False
 |some (.array n e)=>match x with
  | .pointer (some a)=>match P.info? e with
   |some i=>match lo with
    |none=>Bz n n none hi fun _ h=>k (.slice (some a) h n)
    |some l=>BR i fun s=>Bz n n (some l) hi fun l h=>k (.slice (jM (some a) n l s) (h-l) (n-l))
   |none=>False
  |_=>False
 |_=>False
def NR (P:Program) (t:TypeId) (x:Value) (hi mx:Value) (k:Value->Prop):Prop:=
 match P.underlying t with
 |some (.slice e)=>match x with
  | .slice a _ cap=>match P.info? e with
   |some _=>match mx with
    | .int _ m=>match hi with
     | .int _ j=>dk m cap fun m=>dk j m fun h=>k (.slice a h m)
     |_=>False
    |_=>False
   |none=>False
  |_=>False
 |_=>False
def F1 (P:Program) (s d:TypeId) (x:Value) (k:Value->Prop):Prop:=
 match x with
 | .int _ n=>match P.underlying s with
  |some (.int _)=>match P.underlying d with
   |some (.int kd)=>fm kd n fun n=>k (.int kd n)
   |_=>False
  |_=>False
 | .string t=>match P.underlying s with
  |some .string=>match P.underlying d with
   |some .string=>k (.string t)
   |_=>False
  |_=>False
 |_=>False
def TY (P:Program) (t:TypeId):Bool:=
 match P.underlying t with
 |some (.interface _)=>true
 |some _=>false
 |none=>true
def KF (P:Program) (t:TypeId) (x:Value) (k:Value->Prop):Prop:=
 match x with
 | .slice _ n _=>match P.underlying t with
  |some (.slice _)=>k (.int .i64 n)
  |_=>False
 | .string s=>match P.underlying t with
  |some .string=>k (.int .i64 s.size)
  |_=>False
 | .map none=>match P.underlying t with
  |some (.map _ _)=>k (.int .i64 0)
  |_=>False
 |_=>False
def Pw (op:UnOp) (x:Value) (k:Value->Prop):Prop:=
 match x with
 | .bool b=>match op with
  | .not=>k (.bool !b)
  |_=>False
 | .int kd n=>match op with
  | .neg=>fm kd (0-n) fun n=>k (.int kd n)
  | .xor=>k (.int kd (du kd .xor (if kd.signed then-1 else kd.max) n))
  |_=>False
 |_=>False
def Ov (P:Program) (t:TypeId) (x:Value) (f:Nat) (k:Value->Prop):Prop:=
 match x with
 | .agg cs=>match P.underlying t with
  |some (.struct fs)=>match nth fs.toList f with
   |some fl=>OT fl fun t o=>DI P t cs o k
   |none=>False
  |_=>False
 |_=>False
def Ow (P:Program) (t:TypeId) (x i:Value) (k:Value->Prop):Prop:=
 match i with
 | .int _ j=>match x with
  | .string s=>match P.underlying t with
   |some .string=>db j s.size fun n=>k (.int .u8 (s.data.toList.getD n 0).toNat)
   |_=>False
  | .agg cs=>match P.underlying t with
   |some (.array len e)=>match P.info? e with
    |some i=>BR i fun s=>match s with
     |1=>db j len fun n=>DI P e cs n k
     |s=>db j len fun n=>DI P e cs (n*s) k
    |none=>False
   |_=>False
  |_=>False
 |_=>False
def MN (P:Program) (t:TypeId) (x i:Value) (k:Value->Prop):Prop:=
 match i with
 | .int _ j=>match x with
  | .slice a len _=>match P.underlying t with
   |some (.slice e)=>match P.info? e with
    |some i=>BR i fun s=>match s with
     |1=>cm a len 1 j fun p=>k (.pointer (some p))
     |s=>cm a len s j fun p=>k (.pointer (some p))
    |none=>False
   |_=>False
  | .pointer (some p)=>match P.underlying t with
   |some (.array len e)=>match P.info? e with
    |some i=>BR i fun s=>match s with
     |1=>db j len fun n=>G3 p n fun p=>k (.pointer (some p))
     |s=>db j len fun n=>G3 p (n*s) fun p=>k (.pointer (some p))
    |none=>False
   |_=>False
  |_=>False
 |_=>False
def MO (P:Program) (t:TypeId) (x:Value) (f:Nat) (k:Value->Prop):Prop:=
 match x with
 | .pointer (some p)=>match UU P t f with
  |some (fl,n)=>match n with
   |0=>False
   |_+1=>OT fl fun _ o=>G3 p o fun p=>k (.pointer (some p))
  |none=>False
 |_=>False
def VX (x:Value) (k:Value->Prop):Prop:=
 match x with
 | .pointer (some p)=>k (.pointer (some p))
 | .slice a n c=>k (.slice a n c)
 | .iface t v=>k (.iface t v)
 | .map r=>k (.map r)
 | .func (.func f) a c=>k (.func (.func f) a c)
 |_=>False
def zj (mx:Bool) (x y:Value) (k:Value->Prop):Prop:=
 match x with
 | .int kd a=>match y with
  | .int _ b=>match mx with
   |true=>k (.int kd (max a b))
   |false=>k (.int kd (min a b))
  |_=>False
 |_=>False
def Kq (P:Program) (env:Env) (op:Op) (k:Value->Prop):Prop:=
 match op with
 | .move x| .assign x=>match ev env x with
  |some v=>k v
  |none=>False
 | .nilCheck x=>match ev env x with
  |some v=>VX v k
  |none=>False
 | .binOp b xt x y _=>match ev env x with
  |some vx=>match ev env y with
   |some vy=>O6 P b xt x y vx vy k
   |none=>False
  |none=>False
 | .unOp u _ x=>match ev env x with
  |some vx=>Pw u vx k
  |none=>False
 | .makeInterface t x=>match ev env x with
  |some vx=>match TY P t with
   |false=>k (.iface t vx)
   |true=>False
  |none=>False
 | .slice t x lo hi mx=>match mx with
  |none=>match ev env x with
   |some vx=>match wD env lo with
    |some l=>match wD env hi with
     |some h=>Ou P t vx l h k
     |none=>False
    |none=>False
   |none=>False
  |some mx=>match lo with
   |none=>match hi with
    |some hi=>match ev env x with
     |some vx=>match ev env hi with
      |some vh=>match ev env mx with
       |some vm=>NR P t vx vh vm k
       |none=>False
      |none=>False
     |none=>False
    |none=>False
   |some _=>False
 | .field t x f=>match ev env x with
  |some vx=>Ov P t vx f k
  |none=>False
 | .indexAddr t x i=>match ev env x with
  |some vx=>match ev env i with
   |some vi=>MN P t vx vi k
   |none=>False
  |none=>False
 | .index t x i=>match ev env x with
  |some vx=>match ev env i with
   |some vi=>Ow P t vx vi k
   |none=>False
  |none=>False
 | .extract x i=>match ev env x with
  |some (.tuple vs)=>match nth vs.toList i with
   |some v=>k v
   |none=>False
  |_=>False
 | .typeAssert x xt at_ ok=>match ev env x with
  |some vx=>da P (Instr.typeAssert vx xt at_ ok) k
  |none=>False
 | .fieldAddr t x f=>match ev env x with
  |some vx=>MO P t vx f k
  |none=>False
 | .convert s d x=>match ev env x with
  |some vx=>F1 P s d vx k
  |none=>False
 | .call c=>match c.callee with
  | .builtin .len=>match lN env c.args.toList with
   |some [v]=>match nth c.argTypes.toList 0 with
    |some t=>KF P t v k
    |none=>False
   |_=>False
  | .builtin .min=>match lN env c.args.toList with
   |some [x,y]=>zj false x y k
   |_=>False
  | .builtin .max=>match lN env c.args.toList with
   |some [x,y]=>zj true x y k
   |_=>False
  |_=>False
 |_=>False
theorem E8 {P:Program} {b:Bool} {cap len:Nat} {lo hi:Option Value} {K:Nat->Nat->Prop} (h:Bz cap len lo hi K) (hb:b=true\/cap=len):
  ∃ l u,(∀ w,(Instr.sliceBounds b len cap lo hi none).run P w= .ok (l,u,cap) w)/\(lo=none->l=0)/\K l u:=by
 have bound: ∀ {k:IntKind} {i:Int} {n:Nat} {c:BoundsCode},0<=i->i<=n-> ∀ w,(Instr.sliceBound (.int k i) n c).run P w= .ok i.toNat w:=by
  intro k i n c h0 h1 w;simp[Instr.sliceBound,asIntOf,h0,h1]
 unfold Bz at h;split at h
 .split at h
  .exact⟨0,len,fun w=>by simp[Instr.sliceBounds],fun _=>rfl,h⟩
  .obtain⟨h0,h1,hk⟩:=h.out;exact⟨_,len,fun w=>by simp[Instr.sliceBounds,bound h0 h1],fun e=>(by cases e),hk⟩
  .exact h.elim
 .obtain⟨h0,h1,h⟩:=h.out;split at h
  .exact⟨0,_,fun w=>by simp[Instr.sliceBounds,bound h0 h1],fun _=>rfl,h⟩
  .obtain⟨g0,g1,hk⟩:=h.out;exact⟨_,_,fun w=>by simp[Instr.sliceBounds,bound h0 h1,bound g0 g1],fun e=>(by cases e),hk⟩
  .exact h.elim
 .exact h.elim
theorem aal {P:Program} {t:TypeId} {x:Value} {lo hi:Option Value} {k:Value->Prop} (h:Ou P t x lo hi k):
  ∃ v,(∀ w,(Instr.sliceAt t x lo hi none).run P w= .ok v w)/\k v:=by
 unfold Ou at h;split at h
 .rename_i hu;split at h
  .rename_i s;obtain⟨l,u,hr,_,hk⟩:=E8 (P:=P) (b:=false) h (.inr rfl);exact⟨_,fun w=>by simp[Instr.sliceAt,Instr.slice,ft hu,hr],hk⟩
  .exact h.elim
 .rename_i e hu;split at h
  .rename_i a len cap;split at h
   .rename_i i hi;split at h
    .obtain⟨l,u,hr,h0,hk⟩:=E8 (P:=P) (b:=true) h (.inl rfl);have h0:=h0 rfl;subst h0;refine⟨_,fun w=> ?_,hk⟩;simp[Instr.sliceAt,Instr.slice,ft hu,hr,mP hi];cases a<;>simp[Addr.add]
    .rw[Dr]at h;obtain⟨l,u,hr,h0,hk⟩:=E8 (P:=P) (b:=true) h (.inl rfl);exact⟨_,fun w=>by simp[Instr.sliceAt,Instr.slice,ft hu,hr,mP hi,jM],hk⟩
   .exact h.elim
  .exact h.elim
 .rename_i n e hu;split at h
  .rename_i a;split at h
   .rename_i i hi;split at h
    .obtain⟨l,u,hr,h0,hk⟩:=E8 (P:=P) (b:=false) h (.inr rfl);have h0:=h0 rfl;subst h0;refine⟨_,fun w=> ?_,hk⟩;simp[Instr.sliceAt,ft hu,Instr.sureAddr,hr,mP hi];simp[Addr.add]
    .rw[Dr]at h;obtain⟨l,u,hr,h0,hk⟩:=E8 (P:=P) (b:=false) h (.inr rfl);refine⟨_,fun w=> ?_,hk⟩;simp[Instr.sliceAt,ft hu,Instr.sureAddr,hr,mP hi,jM];split<;>rfl
   .exact h.elim
  .exact h.elim
 .exact h.elim
theorem aai {P:Program} {t:TypeId} {x hi mx:Value} {k:Value->Prop} (h:NR P t x hi mx k):
  ∃ v,(∀ w,(Instr.sliceAt t x none (some hi) (some mx)).run P w= .ok v w)/\k v:=by
 have bound: ∀ {k:IntKind} {i:Int} {n:Nat} {c:BoundsCode},0<=i->i<=n-> ∀ w,(Instr.sliceBound (.int k i) n c).run P w= .ok i.toNat w:=by
  intro k i n c h0 h1 w;simp[Instr.sliceBound,asIntOf,h0,h1]
 unfold NR at h;split at h
 .rename_i e hu;split at h
  .rename_i a len cap;split at h
   .rename_i i hi;split at h
    .split at h
     .obtain⟨h0,h1,h⟩:=h.out;obtain⟨g0,g1,hk⟩:=h.out;refine⟨_,fun w=> ?_,hk⟩;simp[Instr.sliceAt,Instr.slice,Instr.sliceBounds,ft hu,bound h0 h1,bound g0 g1,mP hi];cases a<;>simp[Addr.add]
     .exact h.elim
    .exact h.elim
   .exact h.elim
  .exact h.elim
 .exact h.elim
theorem value_of {P:Program} {s:Sem Value} {v:Value} (h: ∀ w,s.run P w= .ok v w) (w:World):(do pure (.value (<-s)):Sem Next).run P w= .ok (.value v) w:=by
 simp[h]
theorem ME {P:Program} {s d:TypeId} {x:Value} {k:Value->Prop} (h:F1 P s d x k): ∃ v,(∀ w,(convert s d x).run P w= .ok v w)/\k v:=by
 unfold F1 at h;split at h
 .split at h
  .rename_i hs;split at h
   .rename_i hd;exact⟨_,fun w=>by simp[convert,ft hs,ft hd,Conv.intToInt]<;>rfl,h.out⟩
   .exact h.elim
  .exact h.elim
 .split at h
  .rename_i hs;split at h
   .rename_i hd;exact⟨_,fun w=>by simp[convert,ft hs,ft hd],h⟩
   .exact h.elim
  .exact h.elim
 .exact h.elim
theorem RU {P:Program} {t:TypeId} {ts:Array TypeId} {ty:TypeId} {x:Value} {k:Value->Prop} (ht:nth ts.toList 0=some t) (h:KF P t x k):
  ∃ v,(∀ w,(Builtin.len_ ts ty #[x]).run P w= .ok v w)/\k v:=by
 have ht:ts[0]? =some t:=by rw[vQ]at ht;simpa using ht
 unfold KF at h;split at h
 all_goals(try exact h.elim)
 all_goals
  split at h
  .rename_i hu;exact⟨_,fun w=>by simp[Builtin.len_,ht,ft hu,goInt],h⟩
  .exact h.elim
theorem abr {P:Program} {op:UnOp} {x:Value} {k:Value->Prop} (h:Pw op x k): ∃ v,(∀ w,(Op.unary op x).run P w= .ok v w)/\k v:=by
 unfold Pw at h;split at h
 .split at h
  .exact⟨_,fun w=>by simp[Op.unary],h⟩
  .exact h.elim
 .split at h
  .exact⟨_,fun w=>by simp[Op.unary,Op.intArith]<;>rfl,h.out⟩
  .exact⟨_,fun w=>by simp only[Op.unary,Op.intBits];rfl,h⟩
  .exact h.elim
 .exact h.elim
theorem aam {P:Program} {t:TypeId} {x:Value} {f:Nat} {k:Value->Prop} (h:Ov P t x f k): ∃ v,(∀ w,(Instr.field t x f).run P w= .ok v w)/\k v:=by
 unfold Ov at h;split at h
 .split at h
  .rename_i fs hu;split at h
   .rename_i fl hf;rw[vQ]at hf;have hf:fs[f]? =some fl:=by simpa using hf
    rw[S1]at h;obtain⟨v,hv,hk⟩:=RI h;exact⟨v,fun w=>by simp[Instr.field,ft hu,hf,asAgg,hv],hk⟩
   .exact h.elim
  .exact h.elim
 .exact h.elim
theorem aan {P:Program} {t:TypeId} {x i:Value} {k:Value->Prop} (h:Ow P t x i k): ∃ v,(∀ w,(Instr.index t x i).run P w= .ok v w)/\k v:=by
 unfold Ow at h;split at h
 .split at h
  .rename_i j _ s;split at h
   .rename_i hu;obtain⟨h0,h1,hk⟩:=h.out;refine⟨_,fun w=> ?_,hk⟩;have ct:j.toNat<s.size:=by omega
    have yk:j.toNat<s.data.toList.length:=by simpa using ct
    have e1:s[j.toNat]? =some (s.data.toList.getD j.toNat 0):=by
     rw[getElem?_pos s j.toNat ct,aT,aD yk];rfl
    simp only[Instr.index,asIntOf,Sem.run_bind,Sem.run_pure,Result.andThen_ok,ft hu,av h0,e1]
   .exact h.elim
  .rename_i kk j _ cs;split at h
   .rename_i len e hu;split at h
    .rename_i i hi;rw[Dr]at h;have h:db j len fun n=>DI P e cs (n*i.size) k:=by
      split at h
      .rename_i hs;rw[hs];simpa using h
      .exact h
     obtain⟨h0,h1,hk⟩:=h.out;obtain⟨v,hv,hk⟩:=RI hk;refine⟨v,fun w=> ?_,hk⟩;simp only[Instr.index,asIntOf,Sem.run_bind,Sem.run_pure,Result.andThen_ok,ft hu,av (dx h0 h1),mP hi,hv]
    .exact h.elim
   .exact h.elim
  .exact h.elim
 .exact h.elim
theorem aac {P:Program} {t:TypeId} {x i:Value} {k:Value->Prop} (h:MN P t x i k): ∃ v,(∀ w,(Instr.indexAt t x i).run P w= .ok v w)/\k v:=by
 unfold MN at h;split at h
 .split at h
  .rename_i kk j _ a len cap;split at h
   .rename_i e hu;split at h
    .rename_i i hi;rw[Dr]at h;have h:cm a len i.size j fun p=>k (.pointer (some p)):=by
      split at h
      .rename_i hs;rw[hs];exact h
      .exact h
     obtain⟨h0,h1,p,rfl,hk⟩:=h.out;refine⟨_,fun w=> ?_,hk⟩;simp only[Instr.indexAt,asIntOf,Sem.run_bind,Sem.run_pure,Result.andThen_ok,ft hu,av (dx h0 h1),mP hi]
    .exact h.elim
   .exact h.elim
  .rename_i kk j _ p;split at h
   .rename_i len e hu;split at h
    .rename_i i hi;rw[Dr]at h;have h:db j len fun n=>G3 p (n*i.size) fun p=>k (.pointer (some p)):=by
      split at h
      .rename_i hs;rw[hs];simpa using h
      .exact h
     obtain⟨h0,h1,hk⟩:=h.out;have hk:=TX hk;refine⟨_,fun w=> ?_,hk⟩;simp only[Instr.indexAt,asIntOf,Sem.run_bind,Sem.run_pure,Result.andThen_ok,ft hu,Instr.sureAddr,av (dx h0 h1),mP hi]
    .exact h.elim
   .exact h.elim
  .exact h.elim
 .exact h.elim
theorem aad {P:Program} {t:TypeId} {x:Value} {f:Nat} {k:Value->Prop} (h:MO P t x f k): ∃ v,(∀ w,(Instr.fieldAt t x f).run P w= .ok v w)/\k v:=by
 unfold MO at h;split at h
 .rename_i p;split at h
  .rename_i fl n hf;split at h
   .exact h.elim
   .rename_i m;unfold UU at hf;split at hf
    .rename_i fs hu;split at hf
     .rename_i XF hn;split at hf
      .rename_i i hi;obtain⟨rfl,ez⟩:XF=fl/\i.size=m+1:=by simpa using hf
       rw[vQ]at hn;have hn:fs[f]? =some XF:=by simpa using hn
       rw[S1]at h;refine⟨_,fun w=> ?_,TX h⟩;have hz:i.size≠0:=by omega
       simp only[Instr.fieldAt,Sem.run_bind,Sem.run_pure,Result.andThen_ok,ft hu,hn,Instr.sureAddr,fieldPlace,mP hi,ak hz]
      .cases hf
     .cases hf
    .cases hf
  .exact h.elim
 .exact h.elim
theorem aaw {P:Program} {env:Env} {a:Act} (ha:iI env a) {o:Oper} {k:Value->Prop} (h:Kq P env o.op k):
  ∃ v,(∀ w,(execOp a.eval o).run P w= .ok (.value v) w)/\k v:=by
 obtain⟨dst,op,type,pos,after,guard⟩:=o;cases op<;>simp only[Kq]at h<;>try exact h.elim
 case move x=>
  split at h
  .rename_i v hv;exact⟨v,fun w=>by simp[execOp,ha.ev hv],h⟩
  .exact h.elim
 case assign x=>
  split at h
  .rename_i v hv;exact⟨v,fun w=>by simp[execOp,ha.ev hv],h⟩
  .exact h.elim
 case nilCheck x=>
  split at h
  .rename_i v hv;unfold VX at h;simp only[execOp,ha.ev hv];split at h<;>first|exact h.elim|exact⟨_,fun w=>rfl,h⟩
  .exact h.elim
 case binOp b xt x y yt=>
  split at h
  .rename_i vx hx;split at h
   .rename_i vy hy;obtain⟨v,hv,hk⟩:=aaL h;refine⟨v,fun w=> ?_,hk⟩;have:=hv w;simp only[Sem.run_bind]at this;simp only[execOp,ha.ev hx,ha.ev hy,Sem.run_bind];rw[this];rfl
   .exact h.elim
  .exact h.elim
 case unOp u t x=>
  split at h
  .rename_i vx hx;obtain⟨v,hv,hk⟩:=abr (P:=P) h;exact⟨v,fun w=>by simp only[execOp,ha.ev hx];exact value_of hv w,hk⟩
  .exact h.elim
 case convert s d x=>
  split at h
  .rename_i vx hx;obtain⟨v,hv,hk⟩:=ME h;exact⟨v,fun w=>by simp only[execOp,ha.ev hx];exact value_of hv w,hk⟩
  .exact h.elim
 case makeInterface t x=>
  split at h
  .rename_i vx hx;split at h
   .rename_i hi;unfold TY at hi;cases hu:P.underlying t with
    |none=>rw[hu]at hi;cases hi
    |some d=>
     rw[hu]at hi;refine⟨_,fun w=> ?_,h⟩;simp only[execOp,ha.ev hx,Instr.makeInterface,Sem.run_bind,ft hu,Result.andThen_ok];cases d<;>first|rfl|(cases hi)
   .exact h.elim
  .exact h.elim
 case slice t x lo hi mx=>
  split at h
  .split at h
   .rename_i vx hx;split at h
    .rename_i l hl;split at h
     .rename_i u hu;obtain⟨v,hv,hk⟩:=aal h;refine⟨v,fun w=> ?_,hk⟩;have e1:lo.map a.eval=l:=by
       cases lo with
       |none=>simp[wD]at hl;exact hl
       |some y=>
        simp only[wD]at hl;split at hl
        .rename_i u hu;cases hl;simp[ha.ev hu]
        .cases hl
      have e2:hi.map a.eval=u:=by
       cases hi with
       |none=>simp[wD]at hu;exact hu
       |some y=>
        simp only[wD]at hu;split at hu
        .rename_i u hu';cases hu;simp[ha.ev hu']
        .cases hu
      simp only[execOp,ha.ev hx,e1,e2,Option.map_none];exact value_of hv w
     .exact h.elim
    .exact h.elim
   .exact h.elim
  .split at h
   .split at h
    .split at h
     .rename_i vx hx;split at h
      .rename_i vh hh;split at h
       .rename_i vm hm;obtain⟨v,hv,hk⟩:=aai h;refine⟨v,fun w=> ?_,hk⟩;simp only[execOp,ha.ev hx,ha.ev hh,ha.ev hm,Option.map_none,fI];exact value_of hv w
       .exact h.elim
      .exact h.elim
     .exact h.elim
    .exact h.elim
   .exact h.elim
 case fieldAddr t x f=>
  split at h
  .rename_i vx hx;obtain⟨v,hv,hk⟩:=aad h;exact⟨v,fun w=>by simp only[execOp,ha.ev hx];exact value_of hv w,hk⟩
  .exact h.elim
 case field t x f=>
  split at h
  .rename_i vx hx;obtain⟨v,hv,hk⟩:=aam h;exact⟨v,fun w=>by simp only[execOp,ha.ev hx];exact value_of hv w,hk⟩
  .exact h.elim
 case indexAddr t x i=>
  split at h
  .rename_i vx hx;split at h
   .rename_i vi hi;obtain⟨v,hv,hk⟩:=aac h;exact⟨v,fun w=>by simp only[execOp,ha.ev hx,ha.ev hi];exact value_of hv w,hk⟩
   .exact h.elim
  .exact h.elim
 case index t x i=>
  split at h
  .rename_i vx hx;split at h
   .rename_i vi hi;obtain⟨v,hv,hk⟩:=aan h;exact⟨v,fun w=>by simp only[execOp,ha.ev hx,ha.ev hi];exact value_of hv w,hk⟩
   .exact h.elim
  .exact h.elim
 case typeAssert x xt at_ ok=>
  split at h
  .rename_i vx hx;obtain⟨v,hv,hk⟩:=h.out;exact⟨v,fun w=>by simp only[execOp,ha.ev hx];exact value_of hv w,hk⟩
  .exact h.elim
 case extract x i=>
  split at h
  .rename_i vs hx;split at h
   .rename_i v hv;rw[vQ]at hv;have hv:vs[i]? =some v:=by simpa using hv
    exact⟨v,fun w=>by simp only[execOp,ha.ev hx];exact value_of (fun w=>by simp[Instr.extract,hv]) w,h⟩
   .exact h.elim
  .exact h.elim
 case call c=>
  obtain⟨callee,args,argTypes⟩:=c;have Gc: ∀ {vs:List Value},lN env args.toList=some vs->args.map a.eval=vs.toArray:=fun{vs} he=>by
   have:=ha.lN he;apply gy.1;rw[Array.toList_map,this]
  cases callee<;>simp only at h<;>try exact h.elim
  rename_i b;cases b<;>simp only at h<;>try exact h.elim
  case len=>
   split at h
   .rename_i v hv;split at h
    .rename_i t ht;obtain⟨u,hu,hk⟩:=RU (ty:=type) ht h;refine⟨u,fun w=> ?_,hk⟩;simp only[execOp,resolve,Gc hv,Sem.run_bind,Sem.run_pure,Result.andThen_ok,invoke,builtin,hu]
    .exact h.elim
   .exact h.elim
  case min=>
   split at h
   .rename_i x y hv;unfold zj at h;split at h
    .split at h
     .rename_i kd a1 _ _ b1;refine⟨_,fun w=> ?_,h⟩;simp only[execOp,resolve,Gc hv,Sem.run_bind,Sem.run_pure,Result.andThen_ok,invoke,builtin,Builtin.min_,List.foldlM,Builtin.min2];have:(if b1<a1 then b1 else a1)=min a1 b1:=by omega
      rw[this]
     .exact h.elim
    .exact h.elim
   .exact h.elim
  case max=>
   split at h
   .rename_i x y hv;unfold zj at h;split at h
    .split at h
     .rename_i kd a1 _ _ b1;refine⟨_,fun w=> ?_,h⟩;simp only[execOp,resolve,Gc hv,Sem.run_bind,Sem.run_pure,Result.andThen_ok,invoke,builtin,Builtin.max_,List.foldlM,Builtin.max2];have:(if b1 > a1 then b1 else a1)=max a1 b1:=by omega
      rw[this]
     .exact h.elim
    .exact h.elim
   .exact h.elim
def iZ (env:Env) (dst:Option Tmp) (v:Value):Env:=
 match dst with
 |some d=>(d,v)::env
 |none=>env
def tJ (P:Program) (o:Oper) (env:Env) (H:ae) (X:kD) (k:Value->ae->Prop):Prop:=
 match o.op with
 | .load t x=>match ev env x with
  |some v=>aE P (Instr.loadAt t v) H k
  |none=>False
 | .store t x y=>match ev env x with
  |some vx=>match ev env y with
   |some vy=>dc P (Instr.storeAt t vx vy) H fun H'=>k undef H'
   |none=>False
  |none=>False
 | .alloc t=>aE P (Instr.alloc t true (.tuple #[])) H k
 | .box t x=>match ev env x with
  |some v=>aE P (Instr.box t v) H k
  |none=>False
 | .buildSlice t n parts=>match lN env (parts.toList.map (·.2))with
  |some vs=>aE P (Instr.buildSlice t n ((parts.toList.map (·.1)).zip vs).toArray) H k
  |none=>False
 | .build t parts=>match lN env (parts.toList.map (·.2))with
  |some vs=>da P (Instr.build t ((parts.toList.map (·.1)).zip vs).toArray) fun v=>k v H
  |none=>False
 | .makeSlice t l c=>match ev env l with
  |some vl=>match ev env c with
   |some vc=>aE P (Instr.makeSlice t vl vc) H k
   |none=>False
  |none=>False
 | .makeMap t r=>match wD env r with
  |some r=>aE P (Instr.makeMap t r) H k
  |none=>False
 | .makeFunc fn first captured=>match lN env first.toList with
  |some f=>match lN env captured.toList with
   |some c=>aE P (Instr.makeFunc fn f.toArray c.toArray) H k
   |none=>False
  |none=>False
 | .pick c x y=>match ev env c with
  |some (.bool true)=>match ev env x with
   |some v=>k v H
   |none=>False
  |some (.bool false)=>match ev env y with
   |some v=>k v H
   |none=>False
  |_=>False
 | .lookup t m i ok=>match ev env m with
  |some vm=>match ev env i with
   |some vi=>aE P (Instr.lookup t vm vi ok) H k
   |none=>False
  |none=>False
 | .mapUpdate t m i x| .insert t m i x=>match ev env m with
  |some vm=>match ev env i with
   |some vi=>match ev env x with
    |some vx=>dc P (Instr.mapUpdate t vm vi vx) H fun H'=>k undef H'
    |none=>False
   |none=>False
  |none=>False
 | .mapEntry t m i=>match ev env m with
  |some vm=>match ev env i with
   |some vi=>aE P (Instr.mapEntry t vm vi) H k
   |none=>False
  |none=>False
 | .entryStore t m i x=>match ev env m with
  |some vm=>match ev env i with
   |some vi=>match ev env x with
    |some vx=>dc P (Instr.entryStore t vm vi vx) H fun H'=>k undef H'
    |none=>False
   |none=>False
  |none=>False
 | .range t x=>match ev env x with
  |some v=>aE P (Instr.range t v) H k
  |none=>False
 | .next x s=>match ev env x with
  |some v=>aE P (Instr.next v s o.type) H k
  |none=>False
 | .entry x=>match ev env x with
  |some v=>aE P (Instr.entry v) H k
  |none=>False
 | .sliceToArrayPointer t x=>match ev env x with
  |some v=>aE P (Instr.arrayAt t v) H k
  |none=>False
 | .panic x=>match ev env x with
  |some (.iface t v)=>ahj (.iface t v) H X
  |_=>False
 | .waits g=>aE P (Instr.waits g) H k
 | .ready g=>dc P (Instr.ready g) H fun H'=>k undef H'
 | .convert s d x=>match ev env x with
  |some (.int kd n)=>F1 P s d (.int kd n) fun v=>k v H
  |some (.string t)=>match P.underlying d with
   |some .string=>F1 P s d (.string t) fun v=>k v H
   |_=>aE P (convert s d (.string t)) H k
  |some (.slice a n c)=>match P.underlying s with
   |some (.slice _)=>aE P (convert s d (.slice a n c)) H k
   |_=>False
  |_=>False
 | .call c=>match c.callee with
  | .value f=>match lN env c.args.toList with
   |some vs=>match ev env f with
    |some (.func (.func g) first captured)=>match first.toList,captured.toList with
     |[],[]=>lj P g vs H k X
     |fs,cs=>lj P g (fs++vs++cs) H k X
    |some v=>Aa P (do let d <-Deferred.ofValue v vs.toArray;invoke d.target d.args) H k X
    |none=>False
   |none=>False
  | .invoke r name=>match ev env r with
   |some v=>match lN env c.args.toList with
    |some vs=>Aa P (callMethod v name vs.toArray) H k X
    |none=>False
   |none=>False
  | .builtin .len=>match lN env c.args.toList with
   |some [v]=>match v with
    | .map (some r)=>match TW P c.argTypes with
     |true=>aE P (Builtin.len_ c.argTypes o.type #[.map (some r)]) H k
     |false=>False
    |v=>match nth c.argTypes.toList 0 with
     |some t=>KF P t v fun v=>k v H
     |none=>False
   |_=>False
  | .builtin .min=>match lN env c.args.toList with
   |some [x,y]=>zj false x y fun v=>k v H
   |_=>False
  | .builtin .max=>match lN env c.args.toList with
   |some [x,y]=>zj true x y fun v=>k v H
   |_=>False
  | .builtin b=>match lN env c.args.toList with
   |some vs=>cP P (builtin b c.argTypes o.type (c.args.map fun| .const _=>true|_=>false) vs.toArray) H k
   |none=>False
 |op=>Kq P env op fun v=>k v H
def zG (P:Program) (o:Oper) (a:Act) (w:World) (X:kD) (k:Value->ae->Prop):Prop:=
 (∃ v,(∀ w,(execOp a.eval o).run P w= .ok (.value v) w)/\k v w.heap)\/
 (kind P o.op≠0/\(kind P o.op=1->D2 a.eval o.op=true)/\
  match (execOp a.eval o).run P w with
  | .ok (.value v) w'=>dC w w'/\k v w'.heap
  | .ok .skip w'=>dC w w'/\k undef w'.heap
  | .ok (.enter g as) w'=>dC w w'/\Calls P g as w' fun e kQ=>dC w kQ/\((∃ v,e= .returned v/\k v kQ.heap)\/ ∃ c,e= .panicked c/\X c kQ.heap)
  | .halt (.panic v) w'=>dC w w'/\X [{v,recovered:=false}] w'.heap
  |_=>False)
theorem pV {P:Program} {o:Oper} {a:Act} {w:World} {X:kD} {k:Value->ae->Prop} {s:Sem Value} (hk:kind P o.op≠0) (hs:kind P o.op=1->D2 a.eval o.op=true)
  (he:execOp a.eval o=(do pure (.value (<-s)):Sem Next)) {H:ae} (h:aE P s H k) (hw:w.heap=H):zG P o a w X k:=by
 refine .inr ⟨hk,hs,?_⟩;obtain⟨v,w',hr,nQ,wE⟩:=h.out w hw;rw[he];simp only[Sem.run_bind,hr,Result.andThen_ok,Sem.run_pure];exact⟨nQ,wE⟩
theorem FC {P:Program} {o:Oper} {a:Act} {w:World} {X:kD} {k:Value->ae->Prop} {s:Sem Unit} (hk:kind P o.op=2)
  (he:execOp a.eval o=(do s;pure .skip:Sem Next)) {H:ae} (h:dc P s H fun H'=>k undef H') (hw:w.heap=H):zG P o a w X k:=by
 refine .inr ⟨by omega,by omega,?_⟩;obtain⟨w',hr,nQ,wE⟩:=h.out w hw;rw[he];simp only[Sem.run_bind,hr,Result.andThen_ok,Sem.run_pure];exact⟨nQ,wE⟩
theorem Fm {P:Program} {o:Oper} {a:Act} {w:World} {X:kD} {k:Value->ae->Prop} {s:Sem Next} (hk:kind P o.op=2)
  (he:execOp a.eval o=s) (h:vR P w k X (s.run P w)):zG P o a w X k:=by
 refine .inr ⟨by omega,by omega,?_⟩;rw[he];generalize s.run P w=r at h
 cases r with
 |ok n w'=>cases n<;>first|exact h|exact(h:False).elim
 |halt x w'=>cases x<;>first|exact h|exact(h:False).elim
theorem zy {env:Env} {a:Act} (ha:iI env a) {l:Array Operand} {vs:List Value} (h:lN env l.toList=some vs):l.map a.eval=vs.toArray:=by
 have:=ha.lN h;apply gy.1;rw[Array.toList_map,this]
theorem S2 {env:Env} {a:Act} (ha:iI env a) {l:Array (Nat×Operand)} {vs:List Value} (h:lN env (l.toList.map (·.2))=some vs):
  l.map (fun(i,x)=>(i,a.eval x))=((l.toList.map (·.1)).zip vs).toArray:=by
 have:=ha.lN h;apply gy.1;rw[Array.toList_map,<-this];simp only[gV];generalize l.toList=m
 induction m with
 |nil=>rfl
 |cons x m ih=>obtain⟨i,y⟩:=x;simp;simpa using ih
theorem af8 {env:Env} {a:Act} (ha:iI env a) {x:Option Operand} {v:Option Value} (h:wD env x=some v):x.map a.eval=v:=by
 cases x with
 |none=>simp[wD]at h;simp[h]
 |some y=>
  simp only[wD]at h;split at h
  .rename_i u hu;cases h;simp[ha.ev hu]
  .cases h
theorem JA {P:Program} {o:Oper} {env:Env} {H:ae} {X:kD} {k:Value->ae->Prop} (h:tJ P o env H X k) {a:Act} (ha:iI env a) {w:World} (hw:w.heap=H):zG P o a w X k:=by
 have ah9:Kq P env o.op (fun v=>k v H)->zG P o a w X k:=fun h=>by
  obtain⟨v,hv,hk⟩:=aaw ha h;exact .inl ⟨v,hv,hw▸hk⟩
 obtain⟨dst,op,type,pos,after,guard⟩:=o;cases op<;>simp only[tJ]at h<;>try exact ah9 h
 case pick c x y=>
  split at h
  .rename_i hc;split at h
   .rename_i v hv;exact .inl ⟨v,fun w=>by simp[execOp,ha.ev hc,ha.ev hv,asBool],hw▸h⟩
   .exact h.elim
  .rename_i hc;split at h
   .rename_i v hv;exact .inl ⟨v,fun w=>by simp[execOp,ha.ev hc,ha.ev hv,asBool],hw▸h⟩
   .exact h.elim
  .exact h.elim
 case alloc t=>exact pV (by simp[kind]) (by simp[kind]) rfl h hw
 case box t x=>
  split at h
  .rename_i v hv;exact pV (by simp[kind]) (by simp[kind]) (by simp only[execOp,ha.ev hv]) h hw
  .exact h.elim
 case build t ps=>
  split at h
  .rename_i vs hv;obtain⟨v,hr,hk⟩:=h.out;exact .inl ⟨v,fun w=>by simp only[execOp,S2 ha hv];exact value_of hr w,hw▸hk⟩
  .exact h.elim
 case buildSlice t n ps=>
  split at h
  .rename_i vs hv;exact pV (by simp[kind]) (by simp[kind]) (by simp only[execOp,S2 ha hv]) h hw
  .exact h.elim
 case insert t m i x=>
  split at h
  .rename_i vm hm;split at h
   .rename_i vi hi;split at h
    .rename_i vx hx;exact FC (by simp[kind]) (by simp only[execOp,ha.ev hm,ha.ev hi,ha.ev hx]) h hw
    .exact h.elim
   .exact h.elim
  .exact h.elim
 case load t x=>
  split at h
  .rename_i v hv;exact pV (by simp[kind]) (fun _=>rfl) (by simp only[execOp,ha.ev hv]) h hw
  .exact h.elim
 case store t x y=>
  split at h
  .rename_i vx hx;split at h
   .rename_i vy hy;exact FC (by simp[kind]) (by simp only[execOp,ha.ev hx,ha.ev hy]) h hw
   .exact h.elim
  .exact h.elim
 case panic x=>
  split at h
  .rename_i t v hx;refine Fm (s:=do pure (.value (<-Instr.panic (.iface t v)))) (by simp[kind]) (by simp only[execOp,ha.ev hx]) ?_;exact⟨dC.refl w,by rw[hw];exact h.out⟩
  .exact h.elim
 case ready g=>exact FC (by simp[kind]) rfl h hw
 case waits g=>exact pV (by simp[kind]) (by simp[kind]) rfl h hw
 case convert s d x=>
  split at h
  .rename_i kd n hx;obtain⟨v,hv,hk⟩:=ME h;exact .inl ⟨v,fun w=>by simp only[execOp,ha.ev hx];exact value_of hv w,hw▸hk⟩
  .rename_i t hx;split at h
   .obtain⟨v,hv,hk⟩:=ME h;exact .inl ⟨v,fun w=>by simp only[execOp,ha.ev hx];exact value_of hv w,hw▸hk⟩
   .rename_i hd;by_cases h0:kind P (.convert s d x)=0
    .exfalso
     obtain⟨v,w',hr,_⟩:=h.out w hw;simp only[kind]at h0;split at h0
     .rename_i hs pI;simp[convert,ft hs,ft pI]at hr
     .rename_i hs pI;exact hd pI
     .cases h0
     .cases h0
    .exact pV h0 (fun _=>by simp[D2,ha.ev hx]) (by simp only[execOp,ha.ev hx]) h hw
  .rename_i a1 n c hx;split at h
   .rename_i e hs;exact pV (by simp only[kind,hs];split<;>simp_all) (fun _=>by simp[D2,ha.ev hx]) (by simp only[execOp,ha.ev hx]) h hw
   .exact h.elim
  .exact h.elim
 case sliceToArrayPointer t x=>
  split at h
  .rename_i v hv;exact pV (by simp[kind]) (by simp[kind]) (by simp only[execOp,ha.ev hv]) h hw
  .exact h.elim
 case makeFunc fn f c=>
  split at h
  .rename_i vf hf;split at h
   .rename_i vc hc;exact pV (by simp[kind]) (by simp[kind]) (by simp only[execOp,zy ha hf,zy ha hc]) h hw
   .exact h.elim
  .exact h.elim
 case makeMap t r=>
  split at h
  .rename_i v hv;exact pV (by simp[kind]) (by simp[kind]) (by simp only[execOp,af8 ha hv]) h hw
  .exact h.elim
 case makeSlice t l c=>
  split at h
  .rename_i vl hl;split at h
   .rename_i vc hc;exact pV (by simp[kind]) (by simp[kind]) (by simp only[execOp,ha.ev hl,ha.ev hc]) h hw
   .exact h.elim
  .exact h.elim
 case lookup t m i ok=>
  split at h
  .rename_i vm hm;split at h
   .rename_i vi hi;exact pV (by simp[kind]) (by simp[kind]) (by simp only[execOp,ha.ev hm,ha.ev hi]) h hw
   .exact h.elim
  .exact h.elim
 case mapUpdate t m i x=>
  split at h
  .rename_i vm hm;split at h
   .rename_i vi hi;split at h
    .rename_i vx hx;exact FC (by simp[kind]) (by simp only[execOp,ha.ev hm,ha.ev hi,ha.ev hx]) h hw
    .exact h.elim
   .exact h.elim
  .exact h.elim
 case mapEntry t m i=>
  split at h
  .rename_i vm hm;split at h
   .rename_i vi hi;exact pV (by simp[kind]) (by simp[kind]) (by simp only[execOp,ha.ev hm,ha.ev hi]) h hw
   .exact h.elim
  .exact h.elim
 case entryStore t m i x=>
  split at h
  .rename_i vm hm;split at h
   .rename_i vi hi;split at h
    .rename_i vx hx;exact FC (by simp[kind]) (by simp only[execOp,ha.ev hm,ha.ev hi,ha.ev hx]) h hw
    .exact h.elim
   .exact h.elim
  .exact h.elim
 case range t x=>
  split at h
  .rename_i v hv;exact pV (by simp[kind]) (by simp[kind]) (by simp only[execOp,ha.ev hv]) h hw
  .exact h.elim
 case next x s=>
  split at h
  .rename_i v hv;exact pV (by simp[kind]) (by simp[kind]) (by simp only[execOp,ha.ev hv]) h hw
  .exact h.elim
 case entry x=>
  split at h
  .rename_i v hv;exact pV (by simp[kind]) (by simp[kind]) (by simp only[execOp,ha.ev hv]) h hw
  .exact h.elim
 case call c=>
  obtain⟨callee,args,argTypes⟩:=c;cases callee<;>simp only at h
  case value f=>
   split at h
   .rename_i vs jo;split at h
    .rename_i g first captured hf;have key:lj P g (first.toList++vs++captured.toList) H k X:=by
      split at h
      .rename_i h1 h2;rw[h1,h2];simpa using h
      .exact h
     refine Fm (s:=callFunc g (first++vs.toArray++captured)) (by simp[kind]) ?_ ?_
     .simp only[execOp,resolve,ha.ev hf,zy ha jo,Deferred.ofValue];rfl
     .have:=key.out w hw;have e:(first.toList++vs++captured.toList).toArray=first++vs.toArray++captured:=by
       apply gy.1;simp
      rwa[e]at this
    .rename_i v hf;refine Fm (by simp[kind]) ?_ (h.out w hw);simp only[execOp,resolve,ha.ev hf,zy ha jo]
    .exact h.elim
   .exact h.elim
  case invoke r name=>
   split at h
   .rename_i v hv;split at h
    .rename_i vs jo;refine Fm (s:=callMethod v name vs.toArray) (by simp[kind]) ?_ (h.out w hw);simp only[execOp,resolve,ha.ev hv,zy ha jo];simp[invoke]
    .exact h.elim
   .exact h.elim
  case builtin b=>
   have gen: ∀ {vs:List Value},lN env args.toList=some vs->execOp a.eval {dst:=dst,op:= .call {callee:= .builtin b,args:=args,argTypes:=argTypes},type:=type,pos:=pos,after:=after,guard:=guard}=
     builtin b argTypes type (args.map fun| .const _=>true|_=>false) vs.toArray:=fun{vs} jo=>by
    simp only[execOp,resolve,zy ha jo];rfl
   cases b<;>simp only at h
   case len=>
    split at h
    .rename_i v jo;have ga:=gen jo;have ez:args.size=1:=by
      have:=aZ Array.size (zy ha jo);simpa using this
     split at h
     .rename_i r;split at h
      .rename_i hl;refine pV (s:=Builtin.len_ argTypes type #[.map (some r)]) (by simp[kind,hl]) (by simp[kind,hl]) ?_ h hw;rw[ga];rfl
      .exact h.elim
     .split at h
      .rename_i t ht;obtain⟨u,hu,hk⟩:=RU (ty:=type) ht h;exact .inl ⟨u,fun w=>by rw[ga];simp only[builtin];exact value_of hu w,hw▸hk⟩
      .exact h.elim
    .exact h.elim
   case min=>
    split at h
    .rename_i x y jo;unfold zj at h;split at h
     .split at h
      .rename_i kd a1 _ _ b1;refine .inl ⟨_,fun w=> ?_,hw▸h⟩;rw[gen jo];simp only[builtin,Builtin.min_,List.foldlM,Builtin.min2];have:(if b1<a1 then b1 else a1)=min a1 b1:=by omega
       rw[this];rfl
      .exact h.elim
     .exact h.elim
    .exact h.elim
   case max=>
    split at h
    .rename_i x y jo;unfold zj at h;split at h
     .split at h
      .rename_i kd a1 _ _ b1;refine .inl ⟨_,fun w=> ?_,hw▸h⟩;rw[gen jo];simp only[builtin,Builtin.max_,List.foldlM,Builtin.max2];have:(if b1 > a1 then b1 else a1)=max a1 b1:=by omega
       rw[this];rfl
      .exact h.elim
     .exact h.elim
    .exact h.elim
   all_goals
    split at h
    .rename_i vs jo;exact Fm (by simp[kind]) (gen jo) (h.out w hw).x
    .exact h.elim
def Wx (b c:Bool):Bool:=match b with
 |true=>c
 |false=>match c with
  |true=>false
  |false=>true
theorem af9 (b c:Bool):Wx b c=(b==c):=by cases b<;>cases c<;>rfl
def uR (ops:List Oper) (env:Env) (o:Oper):Option Bool:=
 match o.guard with
 |none=>some true
 |some (j,want)=>match nth ops j with
  |some oj=>match oj.dst with
   |some d=>match get env d with
    |some (.bool b)=>some (Wx b want)
    |some (.tuple _)=>some false
    |_=>none
   |none=>none
  |none=>none
theorem vH {ops:Array Oper} {env:Env} {o:Oper} {b:Bool} (h:uR ops.toList env o=some b) {a:Act} (ha:iI env a):Region.wanted o (yielded ops a.tmps)=b:=by
 unfold uR at h;unfold Region.wanted;split at h
 .rename_i hg;cases h;simp[hg]
 .rename_i j want hg;simp only[hg];split at h
  .rename_i oj hj;split at h
   .rename_i d hd;split at h
    .rename_i c hc;cases h;rw[vQ]at hj;have hj:ops[j]? =some oj:=by simpa using hj
     have:=ha _ _ hc;simp only[yielded,hj,Option.bind_some,hd,this,af9];simp
    .rename_i c hc;cases h;rw[vQ]at hj;have hj:ops[j]? =some oj:=by simpa using hj
     have:=ha _ _ hc;simp only[yielded,hj,Option.bind_some,hd,this];simp
    .cases h
   .cases h
  .cases h
def qL (ops:List Oper) (i:Nat):Bool:=
 match ops with
 |[]=>false
 |o::l=>match o.guard with
  |some (j,_)=>match Nat.beq i j with
   |true=>true
   |false=>qL l i
  |none=>qL l i
def p4 (src:Bool) (v:Value) (K:Value->Prop):Prop:=
 match src with
 |false=>K v
 |true=>match v with
  | .bool b=>eS b fun b=>K (.bool b)
  |v=>K v
theorem Jm {src:Bool} {v:Value} {K:Value->Prop} (h:p4 src v K):K v:=by
 unfold p4 at h;split at h
 .exact h
 .split at h
  .rename_i b;cases b
   .exact h.f rfl
   .exact h.t rfl
  .exact h
def qa (P:Program) (ops:List Oper) (X:kD):Nat->List Oper->Env->ae->(Env->ae->Prop)->Prop
 |_,[],env,H,k=>k env H
 |i,o::l,env,H,k=>match uR ops env o with
  |some true=>match o.dst with
   |some d=>match qL ops i with
    |true=>tJ P o env H X fun v H'=>p4 true v fun v=>qa P ops X (i+1) l ((d,v)::env) H' k
    |false=>tJ P o env H X fun v H'=>qa P ops X (i+1) l ((d,v)::env) H' k
   |none=>tJ P o env H X fun _ H'=>qa P ops X (i+1) l env H' k
  |some false=>match o.dst with
   |some d=>qa P ops X (i+1) l ((d,undef)::env) H k
   |none=>qa P ops X (i+1) l env H k
  |none=>False
def ry (w0:World) (n:Nat) (a0:Act) (ms:List Nat) (k:Env->ae->Prop) (a:Act) (w:World):Prop:=
 a.defers=a0.defers/\a.tmps.size=n/\dC w0 w/\(∀ i,i∉ms->a.tmps[i]? =a0.tmps[i]?)/\ ∃ env,iI env a/\k env w.heap
def kT:List Oper->List Nat
 |[]=>[]
 |o::l=>match o.dst with
  |some d=>d::kT l
  |none=>kT l
def mods:Code->List Nat
 | .region _ ops _=>kT ops.toList
 | .seq x y=>mods x++mods y
 | .cond _ x y=>mods x++mods y
 | .block _ x=>mods x
 | .loop x=>mods x
 |_=>[]
theorem Fv {o:Oper} {d:Nat}: ∀ {l:List Oper},o∈l->o.dst=some d->d∈kT l
 |[],h,_=>by cases h
 |x::l,h,hd=>by
  have ih:=Fv (l:=l) (o:=o) (d:=d);rcases aM.1 h with rfl|h
  .simp[kT,hd]
  .have:=ih h hd;unfold kT;split
   .exact bG _ this
   .exact this
theorem JK {a:Act} {d:Option Tmp} {v:Value} {i:Nat} (h: ∀ t,d=some t->t≠i):(a.put d v).tmps[i]? =a.tmps[i]? :=by
 cases d with
 |none=>rfl
 |some t=>
  simp only[Act.put];rw[fH,ak (h t rfl)]
theorem zh {a a0:Act} {ms:List Nat} (h: ∀ i,i∉ms->a.tmps[i]? =a0.tmps[i]?) {d:Option Tmp} (hd: ∀ t,d=some t->t∈ms) (v:Value):
  ∀ i,i∉ms->(a.put d v).tmps[i]? =a0.tmps[i]? :=fun i hi=>(JK fun t ht e=>by subst e;exact hi (hd _ ht)).trans (h i hi)
def tE (n:Nat) (o:Oper):Bool:=match o.dst with
 |some d=>Nat.blt d n
 |none=>true
theorem xo (a:Act) (d:Option Tmp) (v:Value):(a.put d v).tmps.size=a.tmps.size:=by cases d<;>simp[Act.put]
theorem yX (a:Act) (d:Option Tmp) (v:Value):(a.put d v).defers=a.defers:=by cases d<;>simp[Act.put]
theorem iI.iZ {env:Env} {a:Act} (h:iI env a) {o:Oper} {n:Nat} (hn:a.tmps.size=n) (hf:tE n o=true) (v:Value):iI (iZ env o.dst v) (a.put o.dst v):=by
 unfold tE at hf;unfold Vc.iZ;cases hd:o.dst with
 |none=>simpa [Act.put]using h
 |some d=>
  rw[hd]at hf;exact h.put (by have:=dG (aS hf) (Nat.le_of_eq hn.symm);omega) v
abbrev tX:kD:=fun _ _=>False
theorem RD {P:Program} {ops:Array Oper} {i:Nat} {o:Oper} {a:Act} {w:World} {k:Value->ae->Prop} {K:Act->World->Prop} (ho:ops[i]? =some o)
  (hw:Region.wanted o (yielded ops a.tmps)=true) (h:zG P o a w tX k) (od: ∀ v w',dC w w'->k v w'.heap->K (a.put o.dst v) w'):Lx.step P ops i K a w:=by
 unfold Lx.step;simp only[ho];rcases h with ⟨v,hv,hk⟩|⟨h0,h1,h⟩
 .have hK:=od v w (dC.refl w) hk;split
  .exact⟨v,.inl ⟨hw,hv⟩,hK⟩
  .split
   .exact⟨v,.inl ⟨hw,hv w⟩,hK⟩
   .try rw[av hw]
    unfold Oper.wp;rw[hv w];exact hK
 .rw[ak h0];split
  .rename_i qV;cases hr:(execOp a.eval o).run P w with
   |halt x w'=>rw[hr]at h;cases x<;>first|exact h.elim|exact h.2.elim
   |ok n w'=>
    obtain⟨rfl,v,rfl⟩:=Vu o qV (h1 qV) hr;rw[hr]at h;exact⟨v,.inl ⟨hw,hr⟩,od v _ h.1 h.2⟩
  .try rw[av hw]
   unfold Oper.wp;cases hr:(execOp a.eval o).run P w with
   |halt x w'=>rw[hr]at h;cases x<;>first|exact h.elim|exact h.2.elim
   |ok n w'=>
    rw[hr]at h;cases n<;>simp only at h<;>try exact h.elim
    .exact od _ _ h.1 h.2
    .exact od _ _ h.1 h.2
    .show Calls P _ _ _ _;refine Calls.mono h.2 fun e kQ ⟨hs,hv⟩=> ?_;rcases hv with ⟨v,he,hk⟩|⟨c,he,hx⟩
     .exact he▸od v kQ hs hk
     .exact hx.elim
theorem aao {P:Program} {ops:Array Oper} {i:Nat} {o:Oper} {a:Act} {w:World} {X:kD} {k:Value->ae->Prop} {K:Act->World->Prop} {Q:Exit->Act->World->Prop} (ho:ops[i]? =some o)
  (hw:Region.wanted o (yielded ops a.tmps)=true) (h:zG P o a w X k) (od: ∀ v w',dC w w'->k v w'.heap->K (a.put o.dst v) w') (hx: ∀ c w',dC w w'->X c w'.heap->Q (.panic c) a w'):wpOp P ops Q i K a w:=by
 unfold wpOp;simp only[ho,av hw];refine .inl ?_;unfold Oper.wp;rcases h with ⟨v,hv,hk⟩|⟨h0,h1,h⟩
 .rw[hv w];exact od v w (dC.refl w) hk
 .cases hr:(execOp a.eval o).run P w with
  |halt x w'=>
   rw[hr]at h;cases x<;>first|exact h.elim|exact hx _ _ h.1 h.2
  |ok n w'=>
   rw[hr]at h;cases n<;>simp only at h<;>try exact h.elim
   .exact od _ _ h.1 h.2
   .exact od _ _ h.1 h.2
   .show Calls P _ _ _ _;refine Calls.mono h.2 fun e kQ ⟨hs,hv⟩=> ?_;rcases hv with ⟨v,he,hk⟩|⟨c,he,ve⟩
    .exact he▸od v kQ hs hk
    .exact he▸hx c kQ hs ve
theorem MQ {P:Program} {ops:Array Oper} {n:Nat} {k:Env->ae->Prop} {w0:World} {a0:Act} {Q:Exit->Act->World->Prop} (hQ: ∀ a w,ry w0 n a0 (kT ops.toList) k a w->Q .normal a w) (kV: ∀ o∈ops.toList,tE n o=true):
  ∀ (l:List Oper) (i:Nat),ops.toList.drop i=l-> ∀ (env:Env) (H:ae),qa P ops.toList tX i l env H k-> ∀ (a:Act) (w:World),iI env a->a.defers=a0.defers->a.tmps.size=n->dC w0 w->
   (∀ i,i∉kT ops.toList->a.tmps[i]? =a0.tmps[i]?)->w.heap=H->T P ops Q (List.range' i l.length) a w
 |[],i,_,env,H,h,a,w,ha,hd,hn,hs,eA,hw=>hQ a w ⟨hd,hn,hs,eA,env,ha,hw▸h⟩
 |o::l,i,hl,env,H,h,a,w,ha,hd,hn,hs,eA,hw=>by
  have ho:ops[i]? =some o:=by
   have:(ops.toList.drop i)[0]? =some o:=by rw[hl];rfl
   simpa using this
  have vg:ops.toList.drop (i+1)=l:=by
   have:=aZ List.tail hl;simpa [List.tail_drop]using this
  have iW:o∈ops.toList:=gW (i:=i) (by rw[hl];simp);have hf:=kV o iW;have hm: ∀ t,o.dst=some t->t∈kT ops.toList:=fun t ht=>Fv iW ht;show Lx.step P ops i (T P ops Q (List.range' (i+1) l.length)) a w;simp only[qa]at h;split at h
  .rename_i gO;have gO:=vH gO ha;have h:tJ P o env H tX fun v H'=>p4 (qL ops.toList i&&o.dst.isSome) v fun v=>qa P ops.toList tX (i+1) l (iZ env o.dst v) H' k:=by
    cases hd:o.dst with
    |none=>simp only[hd]at h;simpa [p4,iZ]using h
    |some d=>
     simp only[hd]at h;cases hs:qL ops.toList i
     .simp only[hs]at h;simpa [p4,iZ]using h
     .simp only[hs]at h;simpa [iZ]using h
   refine RD ho gO (JA h ha hw) ?_;intro v w' nQ hk;have hk:=Jm hk;exact MQ hQ kV l (i+1) vg _ _ hk _ _ (ha.iZ hn hf v) (by rw[yX];exact hd) (by rw[xo];exact hn) (hs.trans nQ) (zh eA hm v) rfl
  .rename_i gO;have gO:=vH gO ha;have h:qa P ops.toList tX (i+1) l (iZ env o.dst undef) H k:=by
    cases hd:o.dst with
    |none=>simp only[hd]at h;simpa [iZ]using h
    |some d=>simp only[hd]at h;simpa [iZ]using h
   have r4:=MQ hQ kV l (i+1) vg _ _ h _ _ (ha.iZ hn hf undef) (by rw[yX];exact hd) (by rw[xo];exact hn) hs (zh eA hm undef) hw;unfold Lx.step;simp only[ho,gO,eY,fP];split
   .exact⟨_,.inr ⟨gO,rfl⟩,r4⟩
   .split
    .exact⟨_,.inr ⟨gO,rfl⟩,r4⟩
    .exact r4
  .exact h.elim
theorem MF {P:Program} {ops:Array Oper} {n:Nat} {k:Env->ae->Prop} {w0:World} {a0:Act} {Q:Exit->Act->World->Prop} {X:kD} (hQ: ∀ a w,ry w0 n a0 (kT ops.toList) k a w->Q .normal a w) (hX: ∀ c a w,ry w0 n a0 (kT ops.toList) (fun _ H=>X c H) a w->Q (.panic c) a w) (kV: ∀ o∈ops.toList,tE n o=true):
  ∀ (l:List Oper) (i:Nat),ops.toList.drop i=l-> ∀ (env:Env) (H:ae),qa P ops.toList X i l env H k-> ∀ (a:Act) (w:World),iI env a->a.defers=a0.defers->a.tmps.size=n->dC w0 w->
   (∀ i,i∉kT ops.toList->a.tmps[i]? =a0.tmps[i]?)->w.heap=H->wpOps P ops Q (List.range' i l.length) a w
 |[],i,_,env,H,h,a,w,ha,hd,hn,hs,eA,hw=>hQ a w ⟨hd,hn,hs,eA,env,ha,hw▸h⟩
 |o::l,i,hl,env,H,h,a,w,ha,hd,hn,hs,eA,hw=>by
  have ho:ops[i]? =some o:=by
   have:(ops.toList.drop i)[0]? =some o:=by rw[hl];rfl
   simpa using this
  have vg:ops.toList.drop (i+1)=l:=by
   have:=aZ List.tail hl;simpa [List.tail_drop]using this
  have iW:o∈ops.toList:=gW (i:=i) (by rw[hl];simp);have hf:=kV o iW;have hm: ∀ t,o.dst=some t->t∈kT ops.toList:=fun t ht=>Fv iW ht;show wpOps P ops Q (i::List.range' (i+1) l.length) a w;rw[wpOps_cons];simp only[qa]at h;split at h
  .rename_i gO;have gO:=vH gO ha;have h:tJ P o env H X fun v H'=>p4 (qL ops.toList i&&o.dst.isSome) v fun v=>qa P ops.toList X (i+1) l (iZ env o.dst v) H' k:=by
    cases hd:o.dst with
    |none=>simp only[hd]at h;simpa [p4,iZ]using h
    |some d=>
     simp only[hd]at h;cases hs:qL ops.toList i
     .simp only[hs]at h;simpa [p4,iZ]using h
     .simp only[hs]at h;simpa [iZ]using h
   refine aao ho gO (JA h ha hw) ?_ fun c w' nQ hx=>hX c a w' ⟨hd,hn,hs.trans nQ,eA,[],fun i v hi=>(by cases hi),hx⟩;intro v w' nQ hk;have hk:=Jm hk;exact MF hQ hX kV l (i+1) vg _ _ hk _ _ (ha.iZ hn hf v) (by rw[yX];exact hd) (by rw[xo];exact hn) (hs.trans nQ) (zh eA hm v) rfl
  .rename_i gO;have gO:=vH gO ha;have h:qa P ops.toList X (i+1) l (iZ env o.dst undef) H k:=by
    cases hd:o.dst with
    |none=>simp only[hd]at h;simpa [iZ]using h
    |some d=>simp only[hd]at h;simpa [iZ]using h
   have r4:=MF hQ hX kV l (i+1) vg _ _ h _ _ (ha.iZ hn hf undef) (by rw[yX];exact hd) (by rw[xo];exact hn) hs (zh eA hm undef) hw;unfold wpOp;simp only[ho,gO,eY,fP];exact r4
  .exact h.elim
abbrev ow:=Exit->Env->ae->Prop
def tF (w0:World) (n:Nat) (a0:Act) (ms:List Nat) (Q:ow) (e:Exit) (a:Act) (w:World):Prop:=ry w0 n a0 ms (Q e) a w
def lk (n:Nat):Code->Bool
 | .region _ ops _=>ops.toList.all (tE n)
 | .seq x y=>lk n x&&lk n y
 | .cond _ x y=>lk n x&&lk n y
 | .block _ x=>lk n x
 | .loop x=>lk n x
 |_=>true
structure oV (P:Program) (n:Nat) (c:Code) (env:Env) (H:ae) (Q:ow):Prop where
 out: ∀ (w0:World) (a:Act) (w:World),iI env a->a.defers=a.defers->a.tmps.size=n->dC w0 w->w.heap=H->c.wp P (tF w0 n a (mods c) Q) a w
structure dt (P:Program) (n:Nat) (c:Code) (env:Env) (H:ae) (Q:ow):Prop where
 out:lk n (.loop c)=true->oV P n (.loop c) env H Q
structure cy (P:Program) (n:Nat) (id:Nat) (ops:Array Oper) (env:Env) (H:ae) (k:Env->ae->Prop):Prop where
 out:lk n (.region id ops true)=true->oV P n (.region id ops true) env H fun e env H=>e= .normal/\k env H
structure jO (P:Program) (n:Nat) (x y:Code) (env:Env) (H:ae) (Q:ow):Prop where
 out:lk n (.seq x y)=true->oV P n (.seq x y) env H Q
def UW:List Oper->Bool
 |[]=>true
 |o::l=>match o.guard with
  |none=>UW l
  |some _=>false
def aga:Code->Bool
 | .skip=>true
 | .ret=>true
 | .exit _=>true
 | .region _ ops draw=>match draw with
  |false=>UW ops.toList
  |true=>false
 |_=>false
def qI (P:Program) (n:Nat) (c:Code) (env:Env) (H:ae) (Q:ow):Prop:=
 match c with
 | .skip=>Q .normal env H
 | .region id ops draw=>match draw with
  |false=>qa P ops.toList (fun c H=>Q (.panic c) [] H) 0 ops.toList env H (Q .normal)
  |true=>cy P n id ops env H (Q .normal)
 | .seq x y=>match aga x with
  |true=>qI P n x env H fun e env H=>match e with
   | .normal=>qI P n y env H Q
   |e=>Q e env H
  |false=>jO P n x y env H Q
 | .cond c x y=>match ev env c with
  |some (.bool b)=>eN b (qI P n x env H Q) (qI P n y env H Q)
  |_=>False
 | .block id x=>qI P n x env H fun e env H=>match e with
  | .exit j=>match Nat.beq j id with
   |true=>Q .normal env H
   |false=>Q (.exit j) env H
  |e=>Q e env H
 | .loop x=>dt P n x env H Q
 | .exit id=>Q (.exit id) env H
 | .ret=>Q .ret env H
 |_=>False
theorem ry.mono {w0:World} {n:Nat} {a0:Act} {ms:List Nat} {k k':Env->ae->Prop} {a:Act} {w:World} (h:ry w0 n a0 ms k a w) (hk: ∀ env H,k env H->k' env H):ry w0 n a0 ms k' a w:=
 let ⟨h1,h2,h3,h4,env,h5,h6⟩:=h;⟨h1,h2,h3,h4,env,h5,hk _ _ h6⟩
theorem oV.mono {P:Program} {n:Nat} {c:Code} {env:Env} {H:ae} {Q Q':ow} (h:oV P n c env H Q) (hq: ∀ e env H,Q e env H->Q' e env H):oV P n c env H Q':=
 ⟨fun w0 a w ha hd hn hs hw=>wp_mono (h.out w0 a w ha hd hn hs hw) fun e a w h=>ry.mono h (hq e)⟩
theorem oV.seq {P:Program} {n:Nat} {x y:Code} {env:Env} {H:ae} {Q Q1:ow} (hx:oV P n x env H Q1) (hn: ∀ il H',Q1 .normal il H'->oV P n y il H' Q) (he: ∀ e il H',e≠ .normal->Q1 e il H'->Q e il H'):
  oV P n (.seq x y) env H Q:=by
 refine⟨fun w0 a w ha hd ez hs hw=>wp_seq (wp_mono (hx.out w0 a w ha hd ez hs hw) ?_)⟩;intro e a' w' ⟨h1,h2,h3,eA,il,h4,h5⟩;have other:e≠ .normal->tF w0 n a (mods (.seq x y)) Q e a' w':=fun cz=>⟨h1,h2,h3,fun i hi=>eA i (fun hm=>hi (by simp[mods,hm])),il,h4,he _ _ _ cz h5⟩;cases e with
 |normal=>
  refine wp_mono ((hn _ _ h5).out w0 a' w' h4 rfl h2 h3 rfl) ?_;intro e a2 w2 ⟨g1,g2,g3,Cq,An,g4,g5⟩;exact⟨g1.trans h1,g2,g3,fun i hi=>(Cq i (fun hm=>hi (by simp[mods,hm]))).trans (eA i (fun hm=>hi (by simp[mods,hm]))),An,g4,g5⟩
 |exit j=>exact other (by simp)
 |goto j=>exact other (by simp)
 |ret=>exact other (by simp)
 |panic c=>exact other (by simp)
 |outgrown=>exact other (by simp)
theorem sx {P:Program} {n:Nat}: ∀ (c:Code) (env:Env) (H:ae) (Q:ow),lk n c=true->qI P n c env H Q->oV P n c env H Q
 | .skip,env,H,Q,_,h=>⟨fun w0 a w ha hd hn hs hw=>wp_skip ⟨hd,hn,hs,fun _ _=>rfl,env,ha,hw▸h⟩⟩
 | .region id ops draw,env,H,Q,hf,h=>by
  cases draw with
  |false=>
   refine⟨fun w0 a w ha hd hn hs hw=>wp_region ?_⟩;have:=MF (a0:=a) (Q:=tF w0 n a (kT ops.toList) Q) (fun _ _ h=>h) (fun c _ _ ⟨h1,h2,h3,h4,_,_,h6⟩=>⟨h1,h2,h3,h4,[],fun i v hi=>(by cases hi),h6⟩) (cB.1 hf) ops.toList 0 rfl env H h a w ha hd hn hs (fun _ _=>rfl) hw;rw[<-List.range_eq_range',dR]at this;exact this
  |true=>exact oV.mono (h.out hf) fun e env H ⟨he,hk⟩=>he▸hk
 | .seq x y,env,H,Q,hf,h=>by
  have Cr:=hf;simp only[lk,bC]at Cr;unfold qI at h;split at h
  .exact oV.seq (sx x env H _ Cr.1 h) (fun il H' h=>sx y il H' Q Cr.2 h) (fun e il H' cz h=>by cases e<;>first|exact absurd rfl cz|exact h)
  .exact h.out hf
 | .cond c x y,env,H,Q,hf,h=>by
  simp only[lk,bC]at hf;simp only[qI]at h;split at h
  .rename_i b hb;refine⟨fun w0 a w ha hd hn hs hw=>wp_cond (ha.ev hb) ?_⟩;cases b with
   |true=>exact wp_mono ((sx x env H Q hf.1 (h.t rfl)).out w0 a w ha hd hn hs hw) fun e a' w' ⟨h1,h2,h3,h4,h5⟩=>⟨h1,h2,h3,fun i hi=>h4 i (fun hm=>hi (by simp[mods,hm])),h5⟩
   |false=>exact wp_mono ((sx y env H Q hf.2 (h.f rfl)).out w0 a w ha hd hn hs hw) fun e a' w' ⟨h1,h2,h3,h4,h5⟩=>⟨h1,h2,h3,fun i hi=>h4 i (fun hm=>hi (by simp[mods,hm])),h5⟩
  .exact h.elim
 | .block id x,env,H,Q,hf,h=>by
  have hx:=sx x env H _ hf h;refine⟨fun w0 a w ha hd hn hs hw=>wp_block (wp_mono (hx.out w0 a w ha hd hn hs hw) ?_)⟩;intro e a' w' ⟨h1,h2,h3,eA,il,h4,h5⟩;cases e with
  |exit j=>
   show if j=id then _ else _
   dsimp only at h5;split at h5
   .rename_i hb;rw[av (dW hb)];exact⟨h1,h2,h3,eA,il,h4,h5⟩
   .rename_i hb;rw[ak (fun e=>by subst e;simp at hb)];exact⟨h1,h2,h3,eA,il,h4,h5⟩
  |_=>exact⟨h1,h2,h3,eA,il,h4,h5⟩
 | .loop x,env,H,Q,hf,h=>h.out hf
 | .exit id,env,H,Q,_,h=>⟨fun w0 a w ha hd hn hs hw=>wp_exit ⟨hd,hn,hs,fun _ _=>rfl,env,ha,hw▸h⟩⟩
 | .ret,env,H,Q,_,h=>⟨fun w0 a w ha hd hn hs hw=>wp_ret ⟨hd,hn,hs,fun _ _=>rfl,env,ha,hw▸h⟩⟩
def uS (P:Program) (env:Env) (H:ae):List ResultVar->(List Value->Prop)->Prop
 |[],k=>k []
 |r::l,k=>match r with
  | .tmp t=>match get env t with
   |some v=>uS P env H l fun vs=>k (v::vs)
   |none=>False
  | .cell t ty=>match get env t with
   |some (.pointer (some p))=>aE P (Instr.loadAt ty (.pointer (some p))) H fun v H'=>kM (H'=H) (uS P env H l fun vs=>k (v::vs))
   |_=>False
def one (vs:List Value):Value:=match vs with
 |[v]=>v
 |vs=> .tuple vs.toArray
def OU (P:Program) (rs:List ResultVar) (R:Value->ae->Prop):ow:=fun e env H=>match e with
 | .normal=>uS P env H rs fun vs=>R (one vs) H
 | .ret=>uS P env H rs fun vs=>R (one vs) H
 |_=>False
def zH:Nat->List Value->Env
 |_,[]=>[]
 |i,v::l=>(i,v)::zH (i+1) l
theorem Fo: ∀ (l:List Value) (i j:Nat) (v:Value),get (zH i l) j=some v->i<=j/\l[j-i]? =some v
 |[],i,j,v,h=>by simp[zH,get]at h
 |x::l,i,j,v,h=>by
  unfold zH at h;rw[uE]at h;by_cases hj:j=i
  .subst hj;simp at h;subst h;simp
  .rw[ak hj]at h;obtain⟨h1,h2⟩:=Fo l (i+1) j v h;refine⟨by omega,?_⟩;rw[show j-i=(j-(i+1))+1 by omega];simpa using h2
def BI (tmps:Array Value) (r:ResultVar):Sem Value:=match r with
 | .tmp t=>pure (tmps.getD t undef)
 | .cell a t=>do loadVar t (<-asAddr (tmps.getD a undef))
theorem Fe {P:Program} {env:Env} {a:Act} (ha:iI env a) {w:World}: ∀ (l:List ResultVar) (k:List Value->Prop),uS P env w.heap l k->
  ∃ vs,(l.mapM (BI a.tmps):Sem (List Value)).run P w= .ok vs w/\k vs
 |[],k,h=>⟨[],by simp,h⟩
 |r::l,k,h=>by
  unfold uS at h;cases r with
  |tmp t=>
   simp only at h;split at h
   .rename_i v hv;obtain⟨vs,hr,hk⟩:=Fe ha l _ h;refine⟨v::vs,?_,hk⟩;have e:a.tmps.getD t undef=v:=by simp[dV,ha _ _ hv]
    have e1:(BI a.tmps (.tmp t)).run P w= .ok v w:=by simp[BI,e]
    simp only[List.mapM_cons,Sem.run_bind,Sem.run_pure,Result.andThen_ok,hr,e1]
   .exact h.elim
  |cell c t=>
   simp only at h;split at h
   .rename_i p hv;obtain⟨v,w',iz,hs,hk⟩:=h.out w rfl;obtain⟨heq,hk⟩:=hk.out;obtain⟨vs,hr,hk⟩:=Fe ha l _ hk;refine⟨v::vs,?_,hk⟩;have e:a.tmps.getD c undef= .pointer (some p):=by simp[dV,ha _ _ hv]
    have hl:(loadVar t p).run P w= .ok v w':=by
     simpa [Instr.loadAt,Instr.sureAddr]using iz
    have XG:w'=w:=fh.loadVar t p _ _ _ hl;subst XG;have e1:(BI a.tmps (.cell c t)).run P w'= .ok v w':=by simp[BI,e,asAddr,hl]
    simp only[List.mapM_cons,Sem.run_bind,Sem.run_pure,Result.andThen_ok,hr,e1]
   .exact h.elim
theorem MY (fn:Func) (tmps:Array Value):results fn tmps=(do
  let vs <-fn.results.mapM (BI tmps)
  pure (if h:vs.size=1 then vs[0]else .tuple vs)):=by
 unfold results;have:(fun x=>match x with
  |ResultVar.tmp t=>pure (tmps.getD t undef)
  |ResultVar.cell a t=>do loadVar t (<-asAddr (tmps.getD a undef)))=BI tmps:=by funext r;cases r<;>rfl
 rw[<-this];rfl
theorem Jn {P:Program} {fn:Func} {R:Value->ae->Prop} {w0:World} {n:Nat} {e:Exit} {a:Act} {w:World}
  {a0:Act} {ms:List Nat} (h0:a0.defers=[]) (h:tF w0 n a0 ms (OU P fn.results.toList R) e a w):bodyPost P fn (fun e w'=>dC w0 w'/\ ∃ v,e= .returned v/\R v w'.heap) e a w:=by
 obtain⟨hd,hn,hs,_,env,ha,hk⟩:=h;have hd:=hd.trans h0;have key:uS P env w.heap fn.results.toList (fun vs=>R (one vs) w.heap)->a.defers=[]/\ ∃ v,(results fn a.tmps).run P w= .ok v w/\dC w0 w/\ ∃ u,Ending.returned v= .returned u/\R u w.heap:=fun hk=>by
  obtain⟨vs,hr,hR⟩:=Fe ha _ _ hk;refine⟨hd,one vs,?_,hs,_,rfl,hR⟩;rw[MY,Array.mapM_eq_mapM_toList];simp only[bind_assoc,map_eq_pure_bind,pure_bind,Sem.run_bind];rw[hr];simp only[Result.andThen_ok,Sem.run_pure];rcases vs with _|⟨x,_|⟨y,l⟩⟩<;>simp[one]
 cases e<;>first|exact key hk|exact hk.elim
theorem az.body {P:Program} {f:FuncId} {fn:Func} {c:Code} {args:List Value} {H:ae} {R:Value->ae->Prop} (hf:P.funcs[f]? =some fn)
  (hc: ∀ (args:Array Value) (w:World),(callFunc f args).run P w= .ok (.enter f args) w) (hb:fn.body=some c) (kV:lk fn.ntmps c=true) (uT:Nat.ble args.length fn.ntmps=true)
  (h:qI P fn.ntmps c (zH 0 args) H (OU P fn.results.toList R)):az P f args H R:=by
 have uT:=aS uT;refine⟨fun w hw=> ?_⟩;rw[hc];refine⟨dC.refl w,?_⟩;refine calls_of_wp hf hb ?_;have qc:=(sx c _ H _ kV h).out w {tmps:=args.toArray++Array.replicate (fn.ntmps-args.toArray.size) undef,defers:=[]} w ?_ rfl (by simp;omega) (dC.refl w) hw
 .exact wp_mono qc fun e a w h=>Jn rfl h
 .intro i v hv;obtain⟨_,h2⟩:=Fo args 0 i v hv;have h2:args[i]? =some v:=by simpa using h2
  have ct:i<args.length:=by
   rcases bR i args.length with h|h
   .exact h
   .rw[dX h]at h2;cases h2
  simp only;rw[eu (by simpa using ct)];simpa using h2
def UX (P:Program) (rs:List ResultVar) (R:Value->ae->Prop) (X:kD):ow:=fun e env H=>match e with
 | .normal=>uS P env H rs fun vs=>R (one vs) H
 | .ret=>uS P env H rs fun vs=>R (one vs) H
 | .panic c=>X c H
 |_=>False
theorem aap {P:Program} {fn:Func} {R:Value->ae->Prop} {X:kD} {w0:World} {n:Nat} {e:Exit} {a:Act} {w:World} {a0:Act} {ms:List Nat} (h0:a0.defers=[]) (h:tF w0 n a0 ms (UX P fn.results.toList R X) e a w):
  bodyPost P fn (fun e w'=>dC w0 w'/\((∃ v,e= .returned v/\R v w'.heap)\/ ∃ c,e= .panicked c/\X c w'.heap)) e a w:=by
 obtain⟨hd,hn,hs,eA,env,ha,hk⟩:=h;cases e with
 |panic c=>exact⟨hd.trans h0,hs,.inr ⟨c,rfl,hk⟩⟩
 |normal=>
  have:=Jn (P:=P) (fn:=fn) (R:=R) (e:= .normal) (a0:=a0) (ms:=ms) (w0:=w0) (n:=n) h0 ⟨hd,hn,hs,eA,env,ha,hk⟩;exact⟨this.1,let ⟨v,h1,h2,h3⟩:=this.2;⟨v,h1,h2,.inl h3⟩⟩
 |ret=>
  have:=Jn (P:=P) (fn:=fn) (R:=R) (e:= .ret) (a0:=a0) (ms:=ms) (w0:=w0) (n:=n) h0 ⟨hd,hn,hs,eA,env,ha,hk⟩;exact⟨this.1,let ⟨v,h1,h2,h3⟩:=this.2;⟨v,h1,h2,.inl h3⟩⟩
 |exit j=>exact hk.elim
 |goto j=>exact hk.elim
 |outgrown=>exact hk.elim
theorem lj.body {P:Program} {f:FuncId} {fn:Func} {c:Code} {args:List Value} {H:ae} {R:Value->ae->Prop} {X:kD} (hf:P.funcs[f]? =some fn)
  (hc: ∀ (args:Array Value) (w:World),(callFunc f args).run P w= .ok (.enter f args) w) (hb:fn.body=some c) (kV:lk fn.ntmps c=true) (uT:Nat.ble args.length fn.ntmps=true)
  (h:qI P fn.ntmps c (zH 0 args) H (UX P fn.results.toList R X)):lj P f args H R X:=by
 have uT:=aS uT;refine⟨fun w hw=> ?_⟩;rw[hc];refine⟨dC.refl w,?_⟩;refine calls_of_wp hf hb ?_;have qc:=(sx c _ H _ kV h).out w {tmps:=args.toArray++Array.replicate (fn.ntmps-args.toArray.size) undef,defers:=[]} w ?_ rfl (by simp;omega) (dC.refl w) hw
 .exact wp_mono qc fun e a w h=>aap rfl h
 .intro i v hv;obtain⟨_,h2⟩:=Fo args 0 i v hv;have h2:args[i]? =some v:=by simpa using h2
  have ct:i<args.length:=by
   rcases bR i args.length with h|h
   .exact h
   .rw[dX h]at h2;cases h2
  simp only;rw[eu (by simpa using ct)];simpa using h2
def D3 (i:Nat):List Nat->Bool
 |[]=>false
 |j::l=>match Nat.beq i j with
  |true=>true
  |false=>D3 i l
def less (ms:List Nat):Env->Env
 |[]=>[]
 |(j,v)::l=>match D3 j ms with
  |true=>less ms l
  |false=>(j,v)::less ms l
def Bears (env:Env):Env->Prop
 |[]=>True
 |(j,v)::l=>(match get env j with|some u=>u=v|none=>False)/\Bears env l
theorem NS {i:Nat}: ∀ {l:List Nat},D3 i l=true↔i∈l
 |[]=>by simp[D3]
 |j::l=>by
  unfold D3;by_cases h:i=j
  .subst h;simp
  .have:Nat.beq i j=false:=by
    cases hb:Nat.beq i j
    .rfl
    .exact absurd (dW hb) h
   simp[this,h,NS (l:=l)]
theorem Dg {env:Env} {a:Act} (ha:iI env a): ∀ {S:Env},Bears env S-> ∀ p∈S,a.tmps[p.1]? =some p.2
 |[],_,p,hp=>by cases hp
 |(j,v)::l,h,p,hp=>by
  obtain⟨h1,h2⟩:=h;cases hp with
  |head=>
   dsimp only;cases hg:get env j with
   |none=>rw[hg]at h1;exact h1.elim
   |some u=>rw[hg]at h1;dsimp only at h1;subst h1;exact ha _ _ hg
  |tail _ hp=>exact Dg ha h2 p hp
def F2:List Nat->List Nat->(List Nat->Prop)->Prop
 |[],acc,K=>K acc
 |x::l,acc,K=>F2 l (x::acc) K
def D4 (i:Nat):Env->Bool
 |[]=>false
 |(j,_)::l=>match Nat.beq i j with
  |true=>true
  |false=>D4 i l
def xW (ms:List Nat):Env->Env->(Env->Prop)->Prop
 |[],acc,K=>K acc
 |(j,v)::l,acc,K=>match D3 j ms with
  |true=>xW ms l acc K
  |false=>match D4 j acc with
   |true=>xW ms l acc K
   |false=>xW ms l ((j,v)::acc) K
def Gt:Env->Env->(Env->Prop)->Prop
 |[],E,K=>K E
 |p::l,E,K=>Gt l (p::E) K
def BJ (ms:List Nat) (env S:Env) (K:Env->Prop):Prop:=F2 ms [] fun ms=>xW ms env [] fun E=>Gt S E K
theorem RV {K:List Nat->Prop}: ∀ (l acc:List Nat),F2 l acc K-> ∃ r,K r/\ ∀ x,x∈r↔x∈l\/x∈acc
 |[],acc,h=>⟨acc,h,fun x=>by simp⟩
 |y::l,acc,h=>by
  obtain⟨r,hr,hm⟩:=RV l (y::acc) h;refine⟨r,hr,fun x=> ?_⟩;rw[hm];simp only[aM];constructor
  .rintro(h|h|h)
   .exact .inl (.inr h)
   .exact .inl (.inl h)
   .exact .inr h
  .rintro((h|h)|h)
   .exact .inr (.inl h)
   .exact .inl h
   .exact .inr (.inr h)
theorem Sm {i:Nat}: ∀ {E:Env},D4 i E=false->get E i=none
 |[],_=>rfl
 |(j,v)::l,h=>by
  unfold D4 at h;rw[uE];split at h
  .cases h
  .rename_i hb;rw[ak (fun e=>by subst e;simp at hb)];exact Sm h
theorem JB {ms:List Nat} {K:Env->Prop} {a:Act} {env0:Env} (ha: ∀ i v,i∉ms->get env0 i=some v->a.tmps[i]? =some v): ∀ (l acc:Env),xW ms l acc K->iI acc a->(∀ i,i∉ms->get acc i=none->get env0 i=get l i)-> ∃ E,K E/\iI E a
 |[],acc,h,Gu,_=>⟨acc,h,Gu⟩
 |(j,v)::l,acc,h,Gu,r4=>by
  unfold xW at h;split at h
  .rename_i hj;refine JB ha l acc h Gu fun i hi hn=> ?_;rw[r4 i hi hn,uE,ak (fun e=>by subst e;exact hi (NS.1 hj))]
  .rename_i hj;have G4:j∉ms:=fun hm=>by rw[NS.2 hm]at hj;cases hj
   split at h
   .rename_i Qj;refine JB ha l acc h Gu fun i hi hn=> ?_;rw[r4 i hi hn,uE,ak];intro e;subst e;have: ∀ {E:Env},D4 i E=true->get E i≠none:=by
     intro E;induction E with
     |nil=>intro h;cases h
     |cons p l ih=>
      obtain⟨k,u⟩:=p;intro h;unfold D4 at h;rw[uE];split at h
      .rename_i hb;rw[av (dW hb)];simp
      .rename_i hb;rw[ak (fun e=>by subst e;simp at hb)];exact ih h
    exact this Qj hn
   .rename_i Qj;have Ct:=Sm Qj;have hjv:get env0 j=some v:=by rw[r4 j G4 Ct,uE,av rfl]
    refine JB ha l _ h ?_ fun i hi hn=> ?_
    .intro i u hu;rw[uE]at hu;by_cases e:i=j
     .subst e;simp at hu;subst hu;exact ha i v G4 hjv
     .rw[ak e]at hu;exact Gu i u hu
    .rw[uE]at hn;by_cases e:i=j
     .subst e;simp at hn
     .rw[ak e]at hn;rw[r4 i hi hn,uE,ak e]
theorem S3 {K:Env->Prop} {a:Act}: ∀ (S E:Env),Gt S E K->(∀ p∈S,a.tmps[p.1]? =some p.2)->iI E a-> ∃ E',K E'/\iI E' a
 |[],E,h,_,hE=>⟨E,h,hE⟩
 |(j,v)::l,E,h,hS,hE=>S3 l _ h (fun p hp=>hS p (by simp[hp])) (hE.drop (hS (j,v) (by simp)))
theorem RW {K K':List Nat->Prop} (h: ∀ r,K r->K' r): ∀ (l acc:List Nat),F2 l acc K->F2 l acc K'
 |[],acc,hk=>h _ hk
 |x::l,acc,hk=>RW h l _ hk
theorem JC {ms:List Nat} {K K':Env->Prop} (h: ∀ r,K r->K' r): ∀ (l acc:Env),xW ms l acc K->xW ms l acc K'
 |[],acc,hk=>h _ hk
 |(j,v)::l,acc,hk=>by
  unfold xW at hk ⊢;split
  .rename_i hj;rw[hj]at hk;exact JC h l _ hk
  .rename_i hj;rw[hj]at hk;dsimp only at hk;split
   .rename_i ha;rw[ha]at hk;exact JC h l _ hk
   .rename_i ha;rw[ha]at hk;exact JC h l _ hk
theorem S4 {K K':Env->Prop} (h: ∀ r,K r->K' r): ∀ (S E:Env),Gt S E K->Gt S E K'
 |[],E,hk=>h _ hk
 |p::l,E,hk=>S4 h l _ hk
theorem aaM {ms:List Nat} {env S:Env} {K K':Env->Prop} (h: ∀ r,K r->K' r) (hk:BJ ms env S K):BJ ms env S K':=
 RW (fun _ hk=>JC (fun _ hk=>S4 h _ _ hk) _ _ hk) _ _ hk
theorem MR {ms:List Nat} {env S:Env} {K:Env->Prop} (h:BJ ms env S K) {a a':Act} (ha:iI env a) (eA: ∀ i,i∉ms->a'.tmps[i]? =a.tmps[i]?) (hS: ∀ p∈S,a'.tmps[p.1]? =some p.2): ∃ E,K E/\iI E a':=by
 obtain⟨ms',h,hm⟩:=RV ms [] h;have hm: ∀ x,x∈ms'↔x∈ms:=fun x=>by rw[hm];simp
 obtain⟨E,h,hE⟩:=JB (a:=a') (env0:=env) (fun i v hi hv=>by rw[eA i (fun h=>hi ((hm i).2 h))];exact ha i v hv) env [] h (fun i v hv=>by simp[get]at hv) (fun i _ _=>rfl);exact S3 S E h hS hE
theorem dt.intro {σ:Type} {P:Program} {n:Nat} {c:Code} {env:Env} {H:ae} {Q:ow} (S:σ->Env) (I:σ->ae->Prop) (μ:σ->Nat) (s0:σ) (h0:Bears env (S s0)) (hI:I s0 H)
  (round: ∀ s H,I s H->BJ (mods c) env (S s) fun E=>qI P n c E H fun e il H'=>match e with
   | .normal=>∃ s',Bears il (S s')/\I s' H'/\μ s'<μ s
   |e=>Q e il H'):dt P n c env H Q:=by
 refine⟨fun hf=>⟨fun w0 a w ha hd hn hs hw=> ?_⟩⟩
 let J:Nat->Act->World->Prop:=fun m a' w'=>a'.defers=a.defers/\a'.tmps.size=n/\dC w0 w'/\(∀ i,i∉mods c->a'.tmps[i]? =a.tmps[i]?)/\ ∃ s,(∀ p∈S s,a'.tmps[p.1]? =some p.2)/\I s w'.heap/\μ s=m
 intro b k cs;have key: ∀ m a' w',J m a' w'-> ∃ e a2 w2,tF w0 n a (mods (.loop c)) Q e a2 w2/\Arrives P (lone (b.at a' (.code c:: .inLoop c::k)) cs w') b k cs e a2 w2:=by
  intro m;induction m using Nat.strongRecOn with
  |_ m ih=>
   intro a' w' ⟨h1,h2,h3,h4,s,h5,h6,h7⟩;obtain⟨E,qc,hE⟩:=MR (round s _ h6) ha h4 h5;obtain⟨e,a1,w1,⟨G5,g2,g3,g4,rz,g5,g6⟩,qf⟩:=(sx c _ _ _ hf qc).out w0 a' w' hE rfl h2 h3 rfl b (.inLoop c::k) cs;have g1:=G5.trans h1;have eA: ∀ i,i∉mods c->a1.tmps[i]? =a.tmps[i]? :=fun i hi=>(g4 i hi).trans (h4 i hi);cases e with
   |normal=>
    obtain⟨s',hb,Eu,ct⟩:=g6;obtain⟨e2,a2,w2,Qk,aia⟩:=ih (μ s') (h7▸ct) a1 w1 ⟨g1,g2,g3,eA,s',Dg g5 hb,Eu,rfl⟩;exact⟨e2,a2,w2,Qk,.of_steps (Steps.trans qf (.one step_inLoop)) aia⟩
   |exit id=>exact⟨_,a1,w1,⟨g1,g2,g3,eA,rz,g5,g6⟩,.pass (x:= .inLoop c) rfl (fun _ _=> .inl (by simp)) qf⟩
   |goto l=>exact⟨_,a1,w1,⟨g1,g2,g3,eA,rz,g5,g6⟩,.pass (x:= .inLoop c) rfl (fun _ _=> .inl (by simp)) qf⟩
   |ret=>exact⟨_,a1,w1,⟨g1,g2,g3,eA,rz,g5,g6⟩,.pass (x:= .inLoop c) rfl (fun _ _=> .inl (by simp)) qf⟩
   |panic ch=>exact⟨_,a1,w1,⟨g1,g2,g3,eA,rz,g5,g6⟩,.pass (x:= .inLoop c) rfl (fun _ _=> .inl (by simp)) qf⟩
   |outgrown=>exact⟨_,a1,w1,⟨g1,g2,g3,eA,rz,g5,g6⟩,.pass (x:= .inLoop c) rfl (fun _ _=> .inl (by simp)) qf⟩
 obtain⟨e,a',w',hq,qf⟩:=key (μ s0) a w ⟨hd,hn,hs,fun _ _=>rfl,s0,Dg ha h0,hw▸hI,rfl⟩;exact⟨e,a',w',hq,.of_steps (.one step_loop) qf⟩
theorem jO.go {P:Program} {n:Nat} {x y:Code} {env:Env} {H:ae} {Q:ow} (h:qI P n x env H fun e env H=>match e with
   | .normal=>qI P n y env H Q
   |e=>Q e env H):jO P n x y env H Q:=by
 refine⟨fun hf=> ?_⟩;simp only[lk,bC]at hf;exact oV.seq (sx x env H _ hf.1 h) (fun il H' h=>sx y il H' Q hf.2 h) (fun e il H' cz h=>by cases e<;>first|exact absurd rfl cz|exact h)
theorem oV.cut {σ:Type} {P:Program} {n:Nat} {x y:Code} {env:Env} {H:ae} {Q:ow} (S:σ->Env) (J:σ->ae->Prop) (hx:oV P n x env H fun e il H'=>match e with
   | .normal=>∃ s,Bears il (S s)/\J s H'
   |e=>Q e il H') (hy: ∀ s H',J s H'->BJ (mods x) env (S s) fun E=>oV P n y E H' Q):oV P n (.seq x y) env H Q:=by
 refine⟨fun w0 a w ha hd ez hs hw=>wp_seq (wp_mono (hx.out w0 a w ha hd ez hs hw) ?_)⟩;intro e a' w' ⟨h1,h2,h3,eA,il,h4,h5⟩;cases e with
 |normal=>
  obtain⟨s,hb,hJ⟩:=h5;obtain⟨E,qc,hE⟩:=MR (hy s _ hJ) ha eA (Dg h4 hb);refine wp_mono (qc.out w0 a' w' hE rfl h2 h3 rfl) ?_;intro e a2 w2 ⟨g1,g2,g3,Cq,An,g4,g5⟩;exact⟨g1.trans h1,g2,g3,fun i hi=>(Cq i (fun hm=>hi (by simp[mods,hm]))).trans (eA i (fun hm=>hi (by simp[mods,hm]))),An,g4,g5⟩
 |exit j=>exact⟨h1,h2,h3,fun i hi=>eA i (fun hm=>hi (by simp[mods,hm])),il,h4,h5⟩
 |goto j=>exact⟨h1,h2,h3,fun i hi=>eA i (fun hm=>hi (by simp[mods,hm])),il,h4,h5⟩
 |ret=>exact⟨h1,h2,h3,fun i hi=>eA i (fun hm=>hi (by simp[mods,hm])),il,h4,h5⟩
 |panic c=>exact⟨h1,h2,h3,fun i hi=>eA i (fun hm=>hi (by simp[mods,hm])),il,h4,h5⟩
 |outgrown=>exact⟨h1,h2,h3,fun i hi=>eA i (fun hm=>hi (by simp[mods,hm])),il,h4,h5⟩
theorem jO.cut {σ:Type} {P:Program} {n:Nat} {x y:Code} {env:Env} {H:ae} {Q:ow} (S:σ->Env) (J:σ->ae->Prop) (hx:qI P n x env H fun e il H'=>match e with
   | .normal=>∃ s,Bears il (S s)/\J s H'
   |e=>Q e il H') (hy: ∀ s H',J s H'->BJ (mods x) env (S s) fun E=>qI P n y E H' Q):jO P n x y env H Q:=by
 refine⟨fun hf=> ?_⟩;simp only[lk,bC]at hf;exact oV.cut S J (sx x env H _ hf.1 hx) fun s H' hJ=>aaM (fun E h=>sx y E H' Q hf.2 h) (hy s H' hJ)
theorem cy.text {P:Program} {n id:Nat} {l:List Oper} {env:Env} {H:ae} {k:Env->ae->Prop} (hm:P.follows .mixedOrders=true) (hB:KD P l.toArray=true)
  (h:qa P l tX 0 l env H k):cy P n id l.toArray env H k:=by
 refine⟨fun hf=>⟨fun w0 a w ha hd hn hs hw=>wp_region_any hm ?_⟩⟩;have hf: ∀ o∈l.toArray.toList,tE n o=true:=cB.1 hf;have hT:=MQ (ops:=l.toArray) (a0:=a) (w0:=w0) (Q:=tF w0 n a (mods (.region id l.toArray true)) fun e env H=>e= .normal/\k env H)
  (fun a w h=>ry.mono h fun _ _ h=>⟨rfl,h⟩) hf l 0 (by simp) env H (by simpa using h) a {w with drawn:=w.drawn+1} ha hd hn (hs.trans ⟨rfl,rfl,rfl⟩) (fun _ _=>rfl) hw
 refine abq hB l.toArray.size (List.range' 0 l.length) (Array.replicate l.toArray.size false) a _ (by simp) ?_ hT;refine⟨List.pairwise_lt_range',fun j hj=>by simpa using hj,fun j hj=> ?_,by simp,fun j oj tW hl=> ?_⟩
 .have Cu:j<l.length:=by simpa using hj
  simp[Cu]
 .exfalso
  rw[MD]at hl;cases hl
theorem wrap_i64 {e:Int} (h1: -9223372036854775808<=e) (h2:e<=9223372036854775807):IntKind.i64.wrap e=e:=by
 simp only[IntKind.wrap,IntKind.bits,IntKind.signed];have:(2:Int) ^ 64=18446744073709551616:=by decide
 have yB:(2:Int) ^ (64-1)=9223372036854775808:=by decide
 simp only[this,yB];by_cases h:0<=e
 .rw[Int.emod_eq_of_lt h (by omega)];rw[ak (by simp;omega)]
 .have:e % 18446744073709551616=e+18446744073709551616:=by omega
  rw[this,av (by simp;omega)];omega
theorem fm.i64 {e:Int} {K:Int->Prop} (h1: -9223372036854775808<=e/\e<=9223372036854775807) (h:K e):fm .i64 e K:=⟨by rw[wrap_i64 h1.1 h1.2];exact h⟩
theorem wrap_small (k:IntKind) {e:Int} (hs:k.signed=false) (h1:0<=e) (h2:e<2 ^ k.bits):k.wrap e=e:=by
 simp only[IntKind.wrap,hs];rw[Int.emod_eq_of_lt h1 h2];simp
theorem fm.u8 {e:Int} {K:Int->Prop} (h1:0<=e/\e<256) (h:K e):fm .u8 e K:=⟨by rw[wrap_small .u8 rfl h1.1 (by simpa [IntKind.bits]using h1.2)];exact h⟩
theorem fm.u32 {e:Int} {K:Int->Prop} (h1:0<=e/\e<4294967296) (h:K e):fm .u32 e K:=⟨by rw[wrap_small .u32 rfl h1.1 (by simpa [IntKind.bits]using h1.2)];exact h⟩
theorem fm.u64 {e:Int} {K:Int->Prop} (h1:0<=e/\e<18446744073709551616) (h:K e):fm .u64 e K:=⟨by rw[wrap_small .u64 rfl h1.1 (by simpa [IntKind.bits]using h1.2)];exact h⟩
theorem fm.B5 {e:Int} {K:Int->Prop} (h:K (e % 4294967296)):fm .u32 e K:=⟨h⟩
theorem fm.AU {e:Int} {K:Int->Prop} (h:K (e % 256)):fm .u8 e K:=⟨h⟩
theorem fm.Vw {x:UInt8} {K:Int->Prop} (h:K x.toNat):fm .u32 x.toNat K:=by
 have:=x.toNat_lt;exact fm.u32 (by omega) h
theorem Am.i64 {a c:Int} {K:Int->Prop} (h:(0<=a/\a<=9223372036854775807)/\0<c) (hk:K (a / c)):Am .i64 a c K:=by
 refine⟨by omega,?_⟩;rw[Int.tdiv_eq_ediv_of_nonneg h.1.1];have h1:0<=a / c:=Int.ediv_nonneg h.1.1 (by omega);have h2:a / c<=a:=Int.ediv_le_self _ h.1.1;rw[wrap_i64 (by omega) (by omega)];exact hk
theorem wc.pos {a c:Int} {K:Int->Prop} (h:0<=a/\0<c) (hk:K (a % c)):wc a c K:=by
 refine⟨by omega,?_⟩;rw[Int.tmod_eq_emod_of_nonneg h.1];exact hk
theorem db.nat {i:Int} {n:Nat} {K:Nat->Prop} (j:Nat) (hi:i=j) (h:j<n) (hk:K j):db i n K:=⟨by omega,by omega,by subst hi;exact hk⟩
theorem dk.nat {i:Int} {n:Nat} {K:Nat->Prop} (j:Nat) (hi:i=j) (h:j<=n) (hk:K j):dk i n K:=⟨by omega,by omega,by subst hi;exact hk⟩
theorem eS.vW {K:Bool->Prop} (h:K true):eS true K:=⟨fun _=>h,fun h=>by cases h⟩
theorem eS.vX {K:Bool->Prop} (h:K false):eS false K:=⟨fun h=>(by cases h),fun _=>h⟩
theorem eN.pos {b:Bool} {A B:Prop} (hb:b=true) (h:A):eN b A B:=⟨fun _=>h,fun h=>by rw[hb]at h;cases h⟩
theorem eN.neg {b:Bool} {A B:Prop} (hb:b=false) (h:B):eN b A B:=⟨fun h=>(by rw[hb]at h;cases h),fun _=>h⟩
theorem eN.vW {A B:Prop} (h:A):eN true A B:=⟨fun _=>h,fun h=>by cases h⟩
theorem eN.vX {A B:Prop} (h:B):eN false A B:=⟨fun h=>(by cases h),fun _=>h⟩
theorem eN.Gv {b:Bool} {A B:Prop} (h:eN b B A):eN (!b) A B:=⟨fun e=>h.f (by simpa using e),fun e=>h.t (by simpa using e)⟩
theorem eS.pos {b:Bool} {K:Bool->Prop} (hb:b=true) (h:K true):eS b K:=by subst hb;exact eS.vW h
theorem eS.neg {b:Bool} {K:Bool->Prop} (hb:b=false) (h:K false):eS b K:=by subst hb;exact eS.vX h
variable {P:Program} {H H':ae}
def hcell (H:ae) (p:Addr):Option Value:=
 match H[p.block]? with
 |some (.cells c _ _)=>if p.spot.isSome then none else c[p.off]?
 |_=>none
theorem vJ (w:World) (p:Addr):w.cell? p=hcell w.heap p:=rfl
structure cD (F:Nat->Prop) (H H':ae):Prop where
 size:H.size<=H'.size
 same: ∀ b,b<H.size-> ¬F b->H'[b]? =H[b]?
abbrev ax (H H':ae):Prop:=cD (fun _=>False) H H'
abbrev fw (b:Nat) (H H':ae):Prop:=cD (fun x=>x=b) H H'
theorem cD.refl (F:Nat->Prop) (H:ae):cD F H H:=⟨aB _,fun _ _ _=>rfl⟩
theorem ax.refl (H:ae):ax H H:=cD.refl _ H
theorem cD.trans {F G:Nat->Prop} {A B C:ae} (h:cD F A B) (k:cD G B C) (hG: ∀ b,b<A.size->G b->F b):cD F A C:=
 ⟨dh h.size k.size,fun b hb hF=>(k.same b (dG hb h.size) fun g=>hF (hG b hb g)).trans (h.same b hb hF)⟩
theorem ax.trans {A B C:ae} (h:ax A B) (k:ax B C):ax A C:=cD.trans h k fun _ _=>id
theorem cD.ext {F:Nat->Prop} {A B C:ae} (h:cD F A B) (k:ax B C):cD F A C:=cD.trans h k fun _ _ h=>h.elim
theorem ax.but {A B C:ae} {b:Nat} (h:ax A B) (k:fw b B C) (hb:A.size<=b):ax A C:=cD.trans h k fun x hx e=>by subst e;omega
theorem ax.only {F:Nat->Prop} (h:ax H H'):cD F H H':=⟨h.size,fun b hb _=>h.same b hb id⟩
theorem cD.push (F:Nat->Prop) (H:ae) (o:Obj):cD F H (H.push o):=
 ⟨by simp,fun b hb _=>by rw[Array.getElem?_push,ak (by omega)]⟩
theorem cD.set (H:ae) (b:Nat) (o:Obj):fw b H (H.setIfInBounds b o):=
 ⟨by simp,fun x hx cz=>eX (fun e=>cz e.symm)⟩
structure bu (H:ae) (b:Nat) (c:Array Value) (t:TypeId):Prop where out: ∃ fr:Nat×Nat,H[b]? =some (.cells c t fr)/\(fr.2<=fr.1\/c.size<=fr.1)
theorem bu.lt {b:Nat} {c:Array Value} {t:TypeId} (h:bu H b c t):b<H.size:=let ⟨_,h,_⟩:=h.out;(aP.1 h).1
theorem bu.new {b:Nat} {c:Array Value} {t:TypeId} (h:H[b]? =some (.cells c t (0,0))):bu H b c t:=⟨_,h,.inl (aB _)⟩
theorem bu.keep {F:Nat->Prop} {b:Nat} {c:Array Value} {t:TypeId} (h:bu H b c t) (k:cD F H H') (hb: ¬F b):bu H' b c t:=let ⟨fr,h1,h2⟩:=h.out;⟨fr,(k.same b h.lt hb).trans h1,h2⟩
theorem bu.ext {b:Nat} {c:Array Value} {t:TypeId} (h:bu H b c t) (k:ax H H'):bu H' b c t:=h.keep k id
theorem bu.but {b g:Nat} {c:Array Value} {t:TypeId} (h:bu H b c t) (k:fw g H H') (hb:b≠g):bu H' b c t:=h.keep k hb
theorem bu.cell {b:Nat} {c:Array Value} {t:TypeId} (h:bu H b c t) (i:Nat):hcell H ⟨b,i,none⟩=c[i]? :=by obtain⟨fr,h1,_⟩:=h.out;simp[hcell,h1]
theorem jj {F:Nat->Prop} {p:Addr} {v:Value} (h:hcell H p=some v) (k:cD F H H') (hb: ¬F p.block):hcell H' p=some v:=by
 have ct:p.block<H.size:=by
  unfold hcell at h;split at h
  .rename_i hh;exact(aP.1 hh).1
  .cases h
 unfold hcell at h ⊢;rw[k.same _ ct hb];exact h
theorem aej {p:Addr} {v:Value} (h:hcell H p=some v):p.block<H.size:=by
 unfold hcell at h;split at h
 .rename_i hh;exact(aP.1 hh).1
 .cases h
theorem aE.load {t:TypeId} {p:Addr} {v:Value} {K:Value->ae->Prop} (hT:wg P t=some false) (hc:hcell H p=some v) (hk:K v H):aE P (Instr.loadAt t (.pointer (some p))) H K:=by
 refine⟨fun w hw=>⟨v,w,?_,dC.refl w,hw▸hk⟩⟩;have Cv:w.cell? p=some v:=by rw[vJ,hw];exact hc
 simp[Instr.loadAt,Instr.sureAddr,loadVar,JZ hT,Go.load,Sem.run,Cv]
theorem run_loadCellsFrom {w:World} {p:Addr}: ∀ (vs:List Value) (i:Nat) (acc:Array Value),(∀ j v,vs[j]? =some v->w.cell? (p.add (i+j))=some v)->
  (loadCellsFrom p i vs.length acc).run P w= .ok (acc++vs.toArray) w
 |[],i,acc,_=>by simp[loadCellsFrom]
 |x::vs,i,acc,h=>by
  have h0:w.cell? (p.add i)=some x:=h 0 x rfl;have ih:=run_loadCellsFrom vs (i+1) (acc.push x) fun j v hv=>by have:=h (j+1) v (by simpa using hv);rwa[show i+(j+1)=i+1+j by omega]at this
  simp only[ay,loadCellsFrom,Sem.run_bind];have:(Go.load (p.add i)).run P w= .ok x w:=by simp[Go.load,Sem.run,h0]
  rw[this];simp only[Result.andThen_ok,ih];congr 1;simp
theorem rA (b o k:Nat):(⟨b,o,none⟩:Addr).add k=⟨b,o+k,none⟩:=by unfold Addr.add;split<;>simp_all
theorem aE.tv {t:TypeId} {i:TypeInfo} {b o:Nat} {vs:List Value} {K:Value->ae->Prop} (hT:wg P t=some true) (hi:P.info? t=some i) (hn:i.size=vs.length)
  (hc: ∀ j v,vs[j]? =some v->hcell H ⟨b,o+j,none⟩=some v) (hk:K (.agg vs.toArray) H):aE P (Instr.loadAt t (.pointer (some ⟨b,o,none⟩))) H K:=by
 refine⟨fun w hw=>⟨_,w,?_,dC.refl w,hw▸hk⟩⟩;have:=run_loadCellsFrom (P:=P) (w:=w) (p:=⟨b,o,none⟩) vs 0 #[] fun j v hv=>by
  rw[rA,aQ,vJ,hw];exact hc j v hv
 simp only[Instr.loadAt,Instr.sureAddr,Sem.run_bind,Sem.run_pure,Result.andThen_ok,loadVar,JZ hT,gB,mP hi,loadCells,hn,this];simp
theorem aE.rX {t e:TypeId} {i:TypeInfo} {b:Nat} {c:Array Value} {K:Value->ae->Prop} (hb:bu H b c e) (hT:wg P t=some true) (hi:P.info? t=some i) (hn:i.size=c.size)
  (hk:K (.agg c) H):aE P (Instr.loadAt t (.pointer (some ⟨b,0,none⟩))) H K:=by
 refine aE.tv (vs:=c.toList) hT hi (by simpa using hn) (fun j v hv=> ?_) (by simpa using hk);rw[aQ,hb.cell];simpa using hv
theorem aE.aek {t e:TypeId} {i:TypeInfo} {b o:Nat} {c cs:Array Value} {K:Value->ae->Prop} (hb:bu H b c e) (hT:wg P t=some true) (hi:P.info? t=some i) (hn:i.size=cs.size) (hc: ∀ j v,cs[j]? =some v->c[o+j]? =some v)
  (hk:K (.agg cs) H):aE P (Instr.loadAt t (.pointer (some ⟨b,o,none⟩))) H K:=by
 refine aE.tv (vs:=cs.toList) hT hi (by simpa using hn) (fun j v hv=> ?_) (by simpa using hk);rw[hb.cell];exact hc j v (by simpa using hv)
def over (c:Array Value):Nat->List Value->Array Value
 |_,[]=>c
 |i,v::vs=>over (c.setIfInBounds i v) (i+1) vs
theorem Dh (vs:List Value): ∀ (c:Array Value) (i:Nat),(over c i vs).size=c.size:=by
 induction vs with
 |nil=>intros;rfl
 |cons v vs ih=>intro c i;simp[over,ih]
theorem J0 (vs:List Value): ∀ (c:Array Value) (i k:Nat),i+vs.length<=c.size->(over c i vs)[k]? =if i<=k/\k<i+vs.length then vs[k-i]? else c[k]? :=by
 induction vs with
 |nil=>intro c i k _;rw[ak (by simp only[cu];omega)];rfl
 |cons v vs ih=>
  intro c i k h;simp only[over,ay]at*
  rw[ih _ _ _ (by rw[cZ];omega)];by_cases hk:k=i
  .subst hk;rw[ak (by omega),av (by omega),Nat.sub_self,dB,bO (by omega)]
  .rw[eX (fun e=>hk e.symm)];by_cases h1:i+1<=k/\k<i+1+vs.length
   .rw[av h1,av (by omega),show k-i=(k-(i+1))+1 by omega,gG]
   .rw[ak h1,ak (by omega)]
theorem NT (c cs:Array Value) (h:c.size=cs.size):over c 0 cs.toList=cs:=by
 apply dP;intro k;rw[J0 _ _ _ _ (by simp;omega)];split
 .simp
 .rename_i hk;have:cs.size<=k:=by simp at hk;omega
  rw[bN (by omega),bN this]
def jt:Value->Bool
 | .agg _=>false
 | .tuple _=>false
 |_=>true
theorem OV {w:World} {b:Nat} {c:Array Value} {t:TypeId} {fr:Nat×Nat} (h:w.heap[b]? =some (.cells c t fr)) (i:Nat) (v:Value):
  (w.setCell ⟨b,i,none⟩ v).heap=w.heap.setIfInBounds b (.cells (c.setIfInBounds i v) t fr):=by
 apply dP;intro k;simp only[World.setCell,fG,fH];have ct:=(aP.1 h).1;by_cases hk:b=k
 .subst hk;rw[av rfl,av rfl,h,av ct];rfl
 .rw[ak hk,ak hk]
theorem Jl (b:Nat) (t:TypeId) (fr:Nat×Nat): ∀ (vs:List Value) (o i:Nat) (w:World) (c:Array Value),w.heap[b]? =some (.cells c t fr)->(fr.2<=fr.1\/c.size<=fr.1)->(∀ v∈vs,jt v=true)->o+i+vs.length<=c.size->
  ∃ w',(storeCells ⟨b,o,none⟩ vs i).run P w= .ok () w'/\dC w w'/\w'.drawn=w.drawn/\w'.heap=w.heap.setIfInBounds b (.cells (over c (o+i) vs) t fr)
 |[],o,i,w,c,h,_,_,_=>by
  refine⟨w,by simp[storeCells],dC.refl w,rfl,?_⟩;apply dP;intro k;rw[fH];have ct:=(aP.1 h).1;by_cases hk:b=k
  .subst hk;rw[av rfl,av ct,h];rfl
  .rw[ak hk]
 |v::vs,o,i,w,c,h,eA,hp,hl=>by
  have ct:=(aP.1 h).1;simp only[ay]at hl;have hcell:w.cell? ⟨b,o+i,none⟩=some c[o+i]:=by simp[World.cell?,h]
  have Ql:w.frozen? ⟨b,o+i,none⟩=false:=by
   obtain⟨lo,hi⟩:=fr;simp only[World.frozen?,h];simp;simp at eA;omega
  have ahk:(Go.store (⟨b,o+i,none⟩:Addr) v).run P w= .ok () (w.setCell ⟨b,o+i,none⟩ v):=by
   have hv:=hp v (by simp);cases v<;>first|(cases hv;done)|(simp[Go.store,Sem.run,hcell,Ql];done)
  have hh:=OV h (o+i) v;obtain⟨w',hr,hs,hd,rH⟩:=Jl b t fr vs o (i+1) (w.setCell ⟨b,o+i,none⟩ v) (c.setIfInBounds (o+i) v) (by rw[hh];simp[ct]) (by rw[cZ];exact eA) (fun u hu=>hp u (by simp[hu])) (by simp;omega);refine⟨w',?_,⟨hs.os,hs.tape,hs.output⟩,hd,?_⟩
  .simp only[storeCells,Sem.run_bind,rA,ahk,Result.andThen_ok,hr]
  .rw[rH,hh];simp[over,eF]
theorem dc.store {t e:TypeId} {i:TypeInfo} {b o:Nat} {c:Array Value} {v:Value} {K:ae->Prop} (hb:bu H b c e) (hi:P.info? t=some i) (hn:v.cells.size=i.size) (hp: ∀ u∈v.cells.toList,jt u=true) (hl:o+i.size<=c.size)
  (hk: ∀ H',H'.size=H.size->bu H' b (over c o v.cells.toList) e->fw b H H'->K H'):dc P (Instr.storeAt t (.pointer (some ⟨b,o,none⟩)) v) H K:=by
 refine⟨fun w hw=> ?_⟩;obtain⟨fr,eC,di⟩:=hb.out;obtain⟨w',hr,hs,_,rH⟩:=Jl (P:=P) b e fr v.cells.toList o 0 w c (by rw[hw];exact eC) di hp (by simp;omega);refine⟨w',?_,hs,?_⟩
 .simp only[Instr.storeAt,Instr.sureAddr,Sem.run_bind,Sem.run_pure,Result.andThen_ok,storeVar,mP hi,hn,ne_eq,not_true_eq_false,fP,hr]
 .rw[rH,hw];refine hk _ (by simp) ⟨fr,?_,by rw[Dh];exact di⟩ (cD.set _ _ _);rw[bO hb.lt];rfl
theorem dc.jB {t e:TypeId} {i:TypeInfo} {b o:Nat} {c:Array Value} {v:Value} {K:ae->Prop} (hb:bu H b c e) (hi:P.info? t=some i) (hn:i.size=1) (hp:jt v=true) (hl:o<c.size)
  (hk: ∀ H',H'.size=H.size->bu H' b (c.setIfInBounds o v) e->fw b H H'->K H'):dc P (Instr.storeAt t (.pointer (some ⟨b,o,none⟩)) v) H K:=by
 have hc:v.cells= #[v]:=by cases v<;>first|rfl|(simp[jt]at hp)
 refine dc.store hb hi (by rw[hc];simpa using hn.symm) (by rw[hc];simpa using hp) (by omega) ?_;intro H' h1 h2 h3;refine hk H' h1 ?_ h3;simpa [hc,over]using h2
theorem dc.pW {t e:TypeId} {i:TypeInfo} {b:Nat} {c cs:Array Value} {K:ae->Prop} (hb:bu H b c e) (hi:P.info? t=some i) (hn:cs.size=i.size) (hc:c.size=cs.size) (hp: ∀ u∈cs.toList,jt u=true)
  (hk: ∀ H',H'.size=H.size->bu H' b cs e->fw b H H'->K H'):dc P (Instr.storeAt t (.pointer (some ⟨b,0,none⟩)) (.agg cs)) H K:=by
 refine dc.store hb hi hn hp (by omega) ?_;intro H' h1 h2 h3;refine hk H' h1 ?_ h3;simpa [Value.cells,NT c cs hc]using h2
theorem run_newObj (w:World) (o:Obj):(newObj o).run P w= .ok w.heap.size {w with heap:=w.heap.push o}:=rfl
theorem rj (H:ae) (o:Obj):(H.push o)[H.size]? =some o:=by simp
theorem aE.alloc {t:TypeId} {i:TypeInfo} {z:Value} {K:Value->ae->Prop} (hi:P.info? t=some i) (hz:i.zero=some z)
  (hk: ∀ H',H'.size=H.size+1->bu H' H.size z.cells t->ax H H'->K (.pointer (some ⟨H.size,0,none⟩)) H'):aE P (Instr.alloc t true (.tuple #[])) H K:=by
 refine⟨fun w hw=>⟨.pointer (some ⟨w.heap.size,0,none⟩),{w with heap:=w.heap.push (.cells z.cells t)},?_,⟨rfl,rfl,rfl⟩,?_⟩⟩
 .simp only[Instr.alloc,zeroValue,Sem.run_bind,xn hi,Result.andThen_ok,hz,Sem.run_pure,newVar,newRow,run_newObj]
 .subst hw;exact hk _ (by simp) (bu.new (rj _ _)) (cD.push _ _ _)
theorem aE.box {t:TypeId} {v:Value} {K:Value->ae->Prop}
  (hk: ∀ H',H'.size=H.size+1->bu H' H.size v.cells t->ax H H'->K (.pointer (some ⟨H.size,0,none⟩)) H'):aE P (Instr.box t v) H K:=by
 refine⟨fun w hw=>⟨.pointer (some ⟨w.heap.size,0,none⟩),{w with heap:=w.heap.push (.cells v.cells t)},?_,⟨rfl,rfl,rfl⟩,?_⟩⟩
 .simp only[Instr.box,Sem.run_bind,Sem.run_pure,newVar,newRow,run_newObj,Result.andThen_ok]
 .subst hw;exact hk _ (by simp) (bu.new (rj _ _)) (cD.push _ _ _)
theorem aE.buildSlice {t e:TypeId} {i:TypeInfo} {z:Value} {n:Nat} {parts:Array (Nat×Value)} {cs:Array Value} {K:Value->ae->Prop} (ht:P.underlying t=some (.slice e)) (hi:P.info? e=some i) (hz:i.zero=some z) (jd: ¬n*i.size > 2 ^ 24)
  (hf:Instr.fill (fun j=>some (j*i.size,i.size)) ((Array.range (n*i.size)).map ((if n*i.size=0 then #[]else z.cells)[· % (if n*i.size=0 then #[]else z.cells).size]!)) parts.toList=some cs)
  (hk: ∀ H',H'.size=H.size+1->bu H' H.size cs e->ax H H'->K (.slice (some ⟨H.size,0,none⟩) n n) H'):aE P (Instr.buildSlice t n parts) H K:=by
 refine⟨fun w hw=>⟨.slice (some ⟨w.heap.size,0,none⟩) n n,{w with heap:=w.heap.push (.cells cs e)},?_,⟨rfl,rfl,rfl⟩,?_⟩⟩
 .simp only[Instr.buildSlice,Sem.run_bind,ft ht,Result.andThen_ok,mP hi,ak jd];by_cases h0:n*i.size=0
  .simp only[av h0]at hf ⊢;simp only[Sem.run_bind,Sem.run_pure,Result.andThen_ok];rw[hf];simp only[Sem.run_bind,newRow,run_newObj,Result.andThen_ok,Sem.run_pure]
  .simp only[ak h0]at hf ⊢;simp only[Sem.run_bind,zeroValue,xn hi,hz,Sem.run_pure,Result.andThen_ok];rw[hf];simp only[Sem.run_bind,newRow,run_newObj,Result.andThen_ok,Sem.run_pure]
 .subst hw;exact hk _ (by simp) (bu.new (rj _ _)) (cD.push _ _ _)
structure Row (H:ae) (a:Option Addr) (cs:List Value):Prop where
 out:cs=[]\/ ∃ b o,a=some ⟨b,o,none⟩/\ ∀ j v,cs[j]? =some v->hcell H ⟨b,o+j,none⟩=some v
theorem bu.row {b:Nat} {c:List Value} {t:TypeId} (h:bu H b c.toArray t):Row H (some ⟨b,0,none⟩) c:=
 ⟨.inr ⟨b,0,rfl,fun j v hv=>by rw[h.cell,aQ];simpa using hv⟩⟩
theorem Row.nil (H:ae) (a:Option Addr):Row H a []:=⟨.inl rfl⟩
theorem Row.keep {F:Nat->Prop} {a:Option Addr} {cs:List Value} (h:Row H a cs) (k:cD F H H') (hF: ∀ p,a=some p-> ¬F p.block):Row H' a cs:=by
 rcases h.out with h|⟨b,o,ha,h⟩
 .exact⟨.inl h⟩
 .exact⟨.inr ⟨b,o,ha,fun j v hv=>jj (h j v hv) k (hF ⟨b,o,none⟩ ha)⟩⟩
theorem Row.vY {F:Nat->Prop} {a:Option Addr} {cs:List Value} (h:Row H a cs) (k:cD F H H') (hF:cs≠ []-> ∀ p,a=some p-> ¬F p.block):Row H' a cs:=by
 by_cases h0:cs=[]
 .subst h0;exact Row.nil _ _
 .exact h.keep k (hF h0)
theorem Row.ext {a:Option Addr} {cs:List Value} (h:Row H a cs) (k:ax H H'):Row H' a cs:=h.keep k fun _ _=>id
theorem Row.at {a:Option Addr} {cs:List Value} (h:Row H a cs) (h0:0<cs.length): ∃ b o,a=some ⟨b,o,none⟩/\b<H.size/\ ∀ j v,cs[j]? =some v->hcell H ⟨b,o+j,none⟩=some v:=by
 rcases h.out with h|⟨b,o,ha,h⟩
 .subst h;simp at h0
 .exact⟨b,o,ha,aej (h 0 cs[0] (by simp)),h⟩
theorem Row.take {a:Option Addr} {cs:List Value} (h:Row H a cs) (k:Nat):Row H a (cs.take k):=by
 rcases h.out with h|⟨b,o,ha,h⟩
 .subst h;simp[Row.nil]
 .refine⟨.inr ⟨b,o,ha,fun j v hv=>h j v ?_⟩⟩;rw[dU]at hv;split at hv
  .exact hv
  .cases hv
theorem Row.drop {a:Option Addr} {cs:List Value} (h:Row H a cs) (m l size:Nat) (hl:m=l->cs.length<=l*size):Row H (jM a m l size) (cs.drop (l*size)):=by
 unfold jM;split
 .rename_i he;rw[List.drop_eq_nil_of_le (hl he)];exact Row.nil _ _
 .rcases h.out with h|⟨b,o,ha,h⟩
  .subst h;simp[Row.nil]
  .refine⟨.inr ⟨b,o+l*size,by simp[ha,rA],fun j v hv=> ?_⟩⟩;have:=h (l*size+j) v (by simpa [List.getElem?_drop]using hv);rwa[eF]
theorem cm.row {a:Option Addr} {cs:List Value} {n size:Nat} {i:Int} {K:Addr->Prop} (h:Row H a cs) (hl:cs.length=n*size) (hs:0<size) (j:Nat) (hi:i=j) (hj:j<n)
  (hk: ∀ b o,b<H.size->a=some ⟨b,o,none⟩->(∀ m v,cs[j*size+m]? =some v->hcell H ⟨b,o+j*size+m,none⟩=some v)->K ⟨b,o+j*size,none⟩):cm a n size i K:=by
 have rB:0<cs.length:=by rw[hl];exact Nat.mul_pos (by omega) hs
 obtain⟨b,o,ha,hb,hc⟩:=h.at rB;subst hi;refine⟨by omega,by omega,⟨b,o,none⟩,ha,?_⟩;rw[rA,eU];exact hk b o hb ha fun m v hv=>by rw[eF];exact hc _ _ hv
structure cq (H:ae) (base:Nat) (e:TypeId) (size:Nat) (a:Option Addr) (n cap:Nat) (xs:List Value):Prop where
 len:xs.length=n*size
 out:(a=none/\n=0/\cap=0)\/ ∃ g eE,a=some ⟨g,0,none⟩/\base<=g/\bu H g eE e/\n<=cap/\cap<=maxLen/\eE.size=cap*size/\eE.toList.take (n*size)=xs
abbrev Wr (a:Option Addr) (H H':ae):Prop:=cD (fun b=>∃ p,a=some p/\p.block=b) H H'
theorem Wr.VY {g o:Nat} (h:Wr (some ⟨g,o,none⟩) H H'):fw g H H':=⟨h.size,fun b hb cz=>h.same b hb fun⟨p,hp,e⟩=>cz (by cases hp;exact e.symm)⟩
theorem cD.mono {F G:Nat->Prop} (h:cD F H H') (hFG: ∀ b,F b->G b):cD G H H':=⟨h.size,fun b hb hn=>h.same b hb fun hF=>hn (hFG b hF)⟩
theorem Wr.ahl {g o:Nat} (h:fw g H H'):Wr (some ⟨g,o,none⟩) H H':=⟨h.size,fun b hb cz=>h.same b hb fun e=>cz ⟨_,rfl,e.symm⟩⟩
theorem cq.nil (H:ae) (base:Nat) (e:TypeId) (size:Nat):cq H base e size none 0 0 []:=⟨by simp,.inl ⟨rfl,rfl,rfl⟩⟩
theorem cq.keep {F:Nat->Prop} {base:Nat} {e:TypeId} {size:Nat} {a:Option Addr} {n cap:Nat} {xs:List Value} (h:cq H base e size a n cap xs) (k:cD F H H') (hF: ∀ p,a=some p-> ¬F p.block):cq H' base e size a n cap xs:=by
 refine⟨h.len,?_⟩;rcases h.out with h|⟨g,eE,ha,hb,hg,r⟩
 .exact .inl h
 .exact .inr ⟨g,eE,ha,hb,hg.keep k (hF ⟨g,0,none⟩ ha),r⟩
theorem cq.ext {base:Nat} {e:TypeId} {size:Nat} {a:Option Addr} {n cap:Nat} {xs:List Value} (h:cq H base e size a n cap xs) (k:ax H H'):cq H' base e size a n cap xs:=h.keep k fun _ _=>id
theorem cq.block {base:Nat} {e:TypeId} {size:Nat} {a:Option Addr} {n cap:Nat} {xs:List Value} (h:cq H base e size a n cap xs): ∀ p,a=some p->base<=p.block/\p.block<H.size:=by
 intro p hp;rcases h.out with ⟨h,_⟩|⟨g,eE,ha,hb,hg,r⟩
 .rw[h]at hp;cases hp
 .rw[ha]at hp;cases hp;exact⟨hb,hg.lt⟩
theorem cq.row {base:Nat} {e:TypeId} {size:Nat} {a:Option Addr} {n cap:Nat} {xs:List Value} (h:cq H base e size a n cap xs):Row H a xs:=by
 rcases h.out with ⟨_,h0,_⟩|⟨g,eE,ha,hb,hg,hn,hm,hs,ht⟩
 .have:xs=[]:=bF (by rw[h.len,h0];simp);rw[this];exact Row.nil _ _
 .refine⟨.inr ⟨g,0,ha,fun j v hv=> ?_⟩⟩;rw[aQ,hg.cell];rw[<-ht,dU]at hv;split at hv
  .simpa using hv
  .cases hv
theorem cq.base {base Gd:Nat} {e:TypeId} {size:Nat} {a:Option Addr} {n cap:Nat} {xs:List Value} (h:cq H base e size a n cap xs) (hb:Gd<=base):cq H Gd e size a n cap xs:=by
 refine⟨h.len,?_⟩;rcases h.out with h|⟨g,eE,ha,Cw,r⟩
 .exact .inl h
 .exact .inr ⟨g,eE,ha,dh hb Cw,r⟩
theorem cq.jC {base:Nat} {e:TypeId} {size:Nat} {a:Option Addr} {n cap:Nat} {xs:List Value} (h:cq H base e size a n cap xs):n<=cap:=by
 rcases h.out with ⟨_,h0,h1⟩|⟨g,eE,ha,hb,hg,hn,_⟩
 .omega
 .exact hn
theorem cq.cut {base:Nat} {e:TypeId} {size:Nat} {a:Option Addr} {n cap:Nat} {xs:List Value} (h:cq H base e size a n cap xs) (k:Nat) (hk:k<=n):cq H base e size a k cap (xs.take (k*size)):=by
 have G6:k*size<=n*size:=eZ _ hk;refine⟨by rw[aJ,h.len];omega,?_⟩;rcases h.out with ⟨h1,h2,h3⟩|⟨g,eE,ha,hb,hg,hn,hm,hs,ht⟩
 .exact .inl ⟨h1,by omega,h3⟩
 .refine .inr ⟨g,eE,ha,hb,hg,by omega,hm,hs,?_⟩;rw[<-ht,List.take_take,gL G6]
structure Src (P:Program) (H:ae) (x:Value) (size m:Nat) (news:List Value):Prop where
 len:news.length=m*size
 plain: ∀ u∈news,jt u=true
 lenOf: ∀ w,(Builtin.lenOf x).run P w= .ok m w
 first: ∀ w:World,w.heap=H->(Builtin.firstCells size m x).run P w= .ok news.toArray w
theorem C8 {a:Option Addr} {size m c:Nat} {news:List Value} (h:Row H a news) (hl:news.length=m*size) (w:World) (hw:w.heap=H):(Builtin.firstCells size m (.slice a m c)).run P w= .ok news.toArray w:=by
 cases a with
 |none=>
  rcases h.out with h|⟨_,_,ha,_⟩
  .subst h;rfl
  .cases ha
 |some p=>
  simp only[Builtin.firstCells,loadCells,<-hl];rcases h.out with h|⟨b,o,ha,hc⟩
  .subst h;rfl
  .cases ha;have:=run_loadCellsFrom (P:=P) (w:=w) (p:=⟨b,o,none⟩) news 0 #[] fun j v hv=>by rw[rA,aQ,vJ,hw];exact hc j v hv
   rw[this];simp
theorem Src.row {a:Option Addr} {size m c:Nat} {news:List Value} (h:Row H a news) (hl:news.length=m*size) (hp: ∀ u∈news,jt u=true):Src P H (.slice a m c) size m news:=
 ⟨hl,hp,fun w=>rfl,fun w hw=>C8 h hl w hw⟩
def cv (l:List UInt8):List Value:=l.map fun b=> .int .u8 b.toNat
theorem Src.str (s:ByteArray):Src P H (.string s) 1 s.size (cv s.data.toList):=by
 refine⟨by simp[cv],fun u hu=> ?_,fun w=>rfl,fun w hw=> ?_⟩
 .obtain⟨b,_,rfl⟩:=bH.1 hu;rfl
 .show Result.ok _ _=Result.ok _ _;congr 1;apply Array.ext';have e:s.extract 0 s.size=s:=by
   apply ByteArray.ext;simp
  rw[e];simp[cv]
theorem cP.append {t u e ty:TypeId} {i:TypeInfo} {z:Value} {base:Nat} {a:Option Addr} {n cap:Nat} {xs:List Value} {x:Value} {m:Nat} {news:List Value} {cb:Array Bool} {K:Value->ae->Prop}
  (ht:P.underlying t=some (.slice e)) (hu: ∃ d,P.underlying u=some d/\(∀ k,d≠ .int k)) (hi:P.info? e=some i) (hz:i.zero=some z) (o8:z.cells.size=i.size) (jZ:cq H base e i.size a n cap xs) (mU:Src P H x i.size m news)
  (yB:n+m<=maxLen) (BK:(n+m)*i.bytes<=140737488355328) (VZ:base<=H.size)
  (hk: ∀ a' cS H',cq H' base e i.size a' (n+m) cS (xs++news)->Wr a H H'->(∀ p,a'=some p->a'=a\/H.size<=p.block)->K (.slice a' (n+m) cS) H'):
  cP P (builtin .append #[t,u] ty cb #[.slice a n cap,x]) H K:=by
 refine⟨fun w hw=> ?_⟩;obtain⟨d,hu,hd⟩:=hu;have hzero:(match d with| .int _=>true|_=>false)=false:=by cases d<;>first|rfl|exact absurd rfl (hd _)
 have Vx:n+m<=9223372036854775807:=by have:=yB;simp only[maxLen]at this;omega
 have hlen:(xs++news).length=(n+m)*i.size:=by rw[au,jZ.len,mU.len,fK]
 have goal: ∀ {v w'},(Builtin.append_ #[t,u] ty #[.slice a n cap,x]).run P w= .ok v w'->dC w w'->K v w'.heap->r3 P w K ((builtin .append #[t,u] ty cb #[.slice a n cap,x]).run P w):=by
  intro v w' hr hs hk;simp only[builtin,Sem.run_bind,hr,Result.andThen_ok];exact⟨hs,hk⟩
 by_cases ju:n+m<=cap
 .rcases jZ.out with ⟨ha,hn,hc⟩|⟨g,eE,ha,hb,hg,Cx,Ev,hcs,BS⟩
  .have hm:m=0:=by omega
   subst ha hn hc hm;have aib:news=[]:=bF (by rw[mU.len];simp);have hx:xs=[]:=bF (by rw[jZ.len];simp);subst aib hx;refine goal (v:= .slice none 0 0) (w':=w) ?_ (dC.refl w) ?_
   .simp[Builtin.append_,ft ht,ft hu,mP hi,hzero,mU.lenOf,mU.first w hw]
   .rw[hw];exact hk none 0 H (cq.nil _ _ _ _) (cD.refl _ _) (fun p hp=>by cases hp)
  .subst ha;obtain⟨fr,pb,rI⟩:=hg.out;have kV:n*i.size+news.length<=eE.size:=by rw[mU.len,hcs,<-fK];exact eZ _ ju
   obtain⟨w',hr,hs,_,rH⟩:=Jl (P:=P) g e fr news (n*i.size) 0 w eE (by rw[hw];exact pb) rI mU.plain (by omega);refine goal (v:= .slice (some ⟨g,0,none⟩) (n+m) cap) (w':=w') ?_ hs ?_
   .simp[Builtin.append_,ft ht,ft hu,mP hi,hzero,mU.lenOf,ju,mU.first w hw,rA,hr]
   .rw[rH,hw];have hg':bu (H.setIfInBounds g (.cells (over eE (n*i.size+0) news) e fr)) g (over eE (n*i.size) news) e:=
     ⟨fr,by rw[bO hg.lt];rfl,by rw[Dh];exact rI⟩
    refine hk _ _ _ ⟨hlen,.inr ⟨g,_,rfl,hb,hg',ju,Ev,by rw[Dh];exact hcs,?_⟩⟩ (Wr.ahl (cD.set _ _ _)) (fun p hp=> .inl rfl);apply fF;intro j;rw[dU,dL];rw[J0 _ _ _ _ kV,<-BS];have rJ:(eE.toList.take (n*i.size)).length=n*i.size:=by rw[BS];exact jZ.len
    have iF:(n+m)*i.size=n*i.size+news.length:=by rw[mU.len,fK]
    rw[iF];by_cases hj:j<n*i.size
    .rw[av (by omega),ak (by omega),bV (by omega),dU,av hj,dL]
    .by_cases Cy:j<n*i.size+news.length
     .rw[av Cy,av (by omega),bA (by omega),rJ]
     .rw[ak Cy,bA (by omega),rJ,dX (by omega)]
 .have Ge:cap<n+m:=by omega
  have Ao: ¬(9223372036854775807<((n:Int)+(m:Int))):=by omega
  have kV:=growslice_fits Ge BK;have vj: ¬(281474976710656<Builtin.nextslicecap (n+m) cap*i.bytes):=by omega
  have hold: ∀ w':World,w'.heap=H->(Builtin.firstCells i.size n (.slice a n cap)).run P w'= .ok xs.toArray w':=fun w' rH=>C8 jZ.row jZ.len w' rH;have kq:n+m<=grownCap w (n+m) cap e:=grownCap_ge w (n+m) cap e;have AV:grownCap w (n+m) cap e<=maxLen:=grownCap_le_maxLen w (n+m) cap e yB;refine goal (v:= .slice (some ⟨w.heap.size,0,none⟩) (n+m) (grownCap w (n+m) cap e))
   (w':=w.drew.alloc (.cells (xs.toArray++news.toArray++Builtin.zeroCells z.cells (grownCap w (n+m) cap e-(n+m))) e)) ?_ ⟨rfl,rfl,rfl⟩ ?_
  .have e1:=hold w.drew hw;have e2:=mU.first w.drew hw;simp[Builtin.append_,ft ht,ft hu,mP hi,xn hi,hzero,mU.lenOf,ju,Ao,vj,Question.forced,e1,e2,zeroValue,hz,newRow,grownCap];congr 2;apply Array.ext';simp[bM]
  .subst hw;refine hk _ _ _ ⟨hlen,.inr ⟨w.heap.size,_,rfl,VZ,bu.new (rj _ _),kq,AV,?_,?_⟩⟩ (cD.push _ _ _) (fun p hp=> .inr (by cases hp;exact aB _))
   .simp only[Array.size_append,cK,size_zeroCells,o8,jZ.len,mU.len,<-fK];congr 1;omega
   .simp only[Array.toList_append,bM];rw[<-bM,<-hlen];exact List.take_left
theorem xt {A B:ae} (h:ax A B:=by(repeat(first|assumption|exact Go.Vc.ax.refl _|((with_reducible apply Go.Vc.ax.trans);(case k=>assumption))|((with_reducible apply Go.Vc.ax.but);(case k=>assumption);(case hb=>omega))))):ax A B:=h
end Go.Vc
