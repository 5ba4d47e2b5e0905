import Derived.Still
import Derived.Tactics
import Derived.Laws.Sem
import Derived.Laws.World
theorem ak:type_of% @if_neg:=@if_neg
theorem au:type_of% @List.length_append:=@List.length_append
theorem av:type_of% @if_pos:=@if_pos
theorem ay:type_of% @List.length_cons:=@List.length_cons
theorem aB:type_of% @Nat.le_refl:=@Nat.le_refl
theorem aD:type_of% @List.getElem?_eq_getElem:=@List.getElem?_eq_getElem
theorem aF:type_of% @trivial:=@trivial
theorem aH:type_of% @List.getElem?_eq_some_iff:=@List.getElem?_eq_some_iff
theorem aI:type_of% @Nat.zero_le:=@Nat.zero_le
theorem aJ:type_of% @List.length_take:=@List.length_take
theorem aK:type_of% @decide_eq_true_eq:=@decide_eq_true_eq
theorem aL:type_of% @List.take_of_length_le:=@List.take_of_length_le
theorem aM:type_of% @List.mem_cons:=@List.mem_cons
theorem aN:type_of% @decide_eq_false:=@decide_eq_false
theorem aO:type_of% @List.length_drop:=@List.length_drop
theorem aP:type_of% @Array.getElem?_eq_some_iff:=@Array.getElem?_eq_some_iff
theorem aQ:type_of% @Nat.zero_add:=@Nat.zero_add
theorem aS:type_of% @Nat.le_of_ble_eq_true:=@Nat.le_of_ble_eq_true
theorem aT:type_of% @List.getD_eq_getElem?_getD:=@List.getD_eq_getElem?_getD
theorem aU:type_of% @List.mem_of_getElem?:=@List.mem_of_getElem?
theorem aV:type_of% @List.drop_of_length_le:=@List.drop_of_length_le
theorem aW:type_of% @List.mem_singleton:=@List.mem_singleton
theorem aY:type_of% @decide_eq_false_iff_not:=@decide_eq_false_iff_not
theorem aZ:type_of% @congrArg:=@congrArg
theorem bA:type_of% @List.getElem?_append_right:=@List.getElem?_append_right
theorem bB:type_of% @decide_eq_true:=@decide_eq_true
theorem bC:type_of% @Bool.and_eq_true:=@Bool.and_eq_true
theorem bF:type_of% @List.eq_nil_of_length_eq_zero:=@List.eq_nil_of_length_eq_zero
theorem bG:type_of% @List.mem_cons_of_mem:=@List.mem_cons_of_mem
theorem bH:type_of% @List.mem_map:=@List.mem_map
theorem bI:type_of% @List.pairwise_cons:=@List.pairwise_cons
theorem bK:type_of% @beq_eq_false_iff_ne:=@beq_eq_false_iff_ne
theorem bM:type_of% @List.append_assoc:=@List.append_assoc
theorem bN:type_of% @Array.getElem?_eq_none:=@Array.getElem?_eq_none
theorem bO:type_of% @Array.getElem?_setIfInBounds_self_of_lt:=@Array.getElem?_setIfInBounds_self_of_lt
theorem bP:type_of% @List.drop_eq_getElem_cons:=@List.drop_eq_getElem_cons
theorem bQ:type_of% @Nat.mul_one:=@Nat.mul_one
theorem bR:type_of% @Nat.lt_or_ge:=@Nat.lt_or_ge
theorem bT:type_of% @List.mem_filter:=@List.mem_filter
theorem bU:type_of% @beq_iff_eq:=@beq_iff_eq
theorem bV:type_of% @List.getElem?_append_left:=@List.getElem?_append_left
theorem bW:type_of% @Option.some.inj:=@Option.some.inj
theorem bX:type_of% @List.take_add_one:=@List.take_add_one
theorem bY:type_of% @List.length_pos_iff:=@List.length_pos_iff
theorem bZ:type_of% @List.mem_append:=@List.mem_append
theorem cu:type_of% @List.length_nil:=@List.length_nil
theorem cB:type_of% @List.all_eq_true:=@List.all_eq_true
theorem cK:type_of% @List.size_toArray:=@List.size_toArray
theorem cO:type_of% @ByteArray.size_append:=@ByteArray.size_append
theorem cZ:type_of% @Array.size_setIfInBounds:=@Array.size_setIfInBounds
theorem dh:type_of% @Nat.le_trans:=@Nat.le_trans
theorem dn:type_of% @List.length_map:=@List.length_map
theorem dw:type_of% @List.map_cons:=@List.map_cons
theorem dx:type_of% @And.intro:=@And.intro
theorem dz:type_of% @Bool.or_eq_true:=@Bool.or_eq_true
theorem dA:type_of% @bne_eq_false_iff_eq:=@bne_eq_false_iff_eq
theorem dB:type_of% @List.getElem?_cons_zero:=@List.getElem?_cons_zero
theorem dD:type_of% @List.append_nil:=@List.append_nil
theorem dF:type_of% @List.take_append_drop:=@List.take_append_drop
theorem dG:type_of% @Nat.lt_of_lt_of_le:=@Nat.lt_of_lt_of_le
theorem dH:type_of% @List.isPrefixOf_iff_prefix:=@List.isPrefixOf_iff_prefix
theorem dI:type_of% @Bool.eq_iff_iff:=@Bool.eq_iff_iff
theorem dJ:type_of% @UInt8.toNat_inj:=@UInt8.toNat_inj
theorem dK:type_of% @List.getElem?_map:=@List.getElem?_map
theorem dL:type_of% @Array.getElem?_toList:=@Array.getElem?_toList
theorem dM:type_of% @bne_iff_ne:=@bne_iff_ne
theorem dN:type_of% @List.filter_cons:=@List.filter_cons
theorem dO:type_of% @Option.some.injEq:=@Option.some.injEq
theorem dP:type_of% @Array.ext_getElem?:=@Array.ext_getElem?
theorem dQ:type_of% @List.length_singleton:=@List.length_singleton
theorem dR:type_of% @Array.length_toList:=@Array.length_toList
theorem dS:type_of% @List.getElem?_set_ne:=@List.getElem?_set_ne
theorem dU:type_of% @List.getElem?_take:=@List.getElem?_take
theorem dV:type_of% @Array.getD_eq_getD_getElem?:=@Array.getD_eq_getD_getElem?
theorem dW:type_of% @Nat.eq_of_beq_eq_true:=@Nat.eq_of_beq_eq_true
theorem dX:type_of% @List.getElem?_eq_none:=@List.getElem?_eq_none
theorem dY:type_of% @List.length_filter_le:=@List.length_filter_le
theorem dZ:type_of% @List.flatMap_append:=@List.flatMap_append
theorem d9:type_of% @List.map_append:=@List.map_append
theorem eu:type_of% @Array.getElem?_append_left:=@Array.getElem?_append_left
theorem eB:type_of% @Nat.mod_lt:=@Nat.mod_lt
theorem eD:type_of% @beq_self_eq_true:=@beq_self_eq_true
theorem eF:type_of% @Nat.add_assoc:=@Nat.add_assoc
theorem eG:type_of% @List.flatMap_cons:=@List.flatMap_cons
theorem eH:type_of% @Classical.byContradiction:=@Classical.byContradiction
theorem eO:type_of% @List.getElem?_set_self:=@List.getElem?_set_self
theorem eP:type_of% @List.takeWhile_cons:=@List.takeWhile_cons
theorem eT:type_of% @List.length_replicate:=@List.length_replicate
theorem eU:type_of% @Int.toNat_natCast:=@Int.toNat_natCast
theorem eX:type_of% @Array.getElem?_setIfInBounds_ne:=@Array.getElem?_setIfInBounds_ne
theorem eY:type_of% @Bool.false_eq_true:=@Bool.false_eq_true
theorem eZ:type_of% @Nat.mul_le_mul_right:=@Nat.mul_le_mul_right
theorem fq:type_of% @Array.getElem?_eq_none_iff:=@Array.getElem?_eq_none_iff
theorem fu:type_of% @List.take_zero:=@List.take_zero
theorem fA:type_of% @List.setIfInBounds_toArray:=@List.setIfInBounds_toArray
theorem fB:type_of% @List.take_length:=@List.take_length
theorem fC:type_of% @Nat.mul_le_mul_left:=@Nat.mul_le_mul_left
theorem fD:type_of% @List.filter_sublist:=@List.filter_sublist
theorem fE:type_of% @List.mem_map_of_mem:=@List.mem_map_of_mem
theorem fF:type_of% @List.ext_getElem?:=@List.ext_getElem?
theorem fG:type_of% @Array.getElem?_modify:=@Array.getElem?_modify
theorem fH:type_of% @Array.getElem?_setIfInBounds:=@Array.getElem?_setIfInBounds
theorem fI:type_of% @Option.map_some:=@Option.map_some
theorem fJ:type_of% @UInt8.toNat_ofNat':=@UInt8.toNat_ofNat'
theorem fK:type_of% @Nat.add_mul:=@Nat.add_mul
theorem fM:type_of% @Int.le_refl:=@Int.le_refl
theorem fO:type_of% @List.cons_append:=@List.cons_append
theorem fP:type_of% @if_false:=@if_false
theorem fQ:type_of% @List.mem_range:=@List.mem_range
theorem fT:type_of% @not_or:=@not_or
theorem fU:type_of% @List.perm_ext_iff_of_nodup:=@List.perm_ext_iff_of_nodup
theorem fV:type_of% @List.nodup_cons:=@List.nodup_cons
theorem fZ:type_of% @List.getElem?_toArray:=@List.getElem?_toArray
theorem gq:type_of% @List.Pairwise.sublist:=@List.Pairwise.sublist
theorem gu:type_of% @List.eq_nil_iff_forall_not_mem:=@List.eq_nil_iff_forall_not_mem
theorem gy:type_of% @Array.toList_inj:=@Array.toList_inj
theorem gB:type_of% @if_true:=@if_true
theorem gD:type_of% @List.pairwise_append:=@List.pairwise_append
theorem gF:type_of% @List.length_dropLast:=@List.length_dropLast
theorem gG:type_of% @List.getElem?_cons_succ:=@List.getElem?_cons_succ
theorem gH:type_of% @Bool.eq_false_iff:=@Bool.eq_false_iff
theorem gI:type_of% @List.length_eq_zero_iff:=@List.length_eq_zero_iff
theorem gJ:type_of% @List.pairwise_map:=@List.pairwise_map
theorem gK:type_of% @List.reverse_eq_nil_iff:=@List.reverse_eq_nil_iff
theorem gL:type_of% @Nat.min_eq_left:=@Nat.min_eq_left
theorem gM:type_of% @List.length_set:=@List.length_set
theorem gN:type_of% @List.dropWhile_cons:=@List.dropWhile_cons
theorem gP:type_of% @Array.getElem?_append_right:=@Array.getElem?_append_right
theorem gQ:type_of% @Nat.mod_eq_of_lt:=@Nat.mod_eq_of_lt
theorem gT:type_of% @List.prefix_append:=@List.prefix_append
theorem gU:type_of% @List.foldl_cons:=@List.foldl_cons
theorem gV:type_of% @List.map_map:=@List.map_map
theorem gW:type_of% @List.mem_of_mem_drop:=@List.mem_of_mem_drop
theorem gX:type_of% @Nat.zero_mul:=@Nat.zero_mul
theorem gY:type_of% @List.any_eq_false:=@List.any_eq_false
theorem gZ:type_of% @Nat.pow_le_pow_right:=@Nat.pow_le_pow_right
theorem ig:type_of% @List.foldl_append:=@List.foldl_append
theorem iq:type_of% @List.sum_append_nat:=@List.sum_append_nat
theorem iw:type_of% @List.mem_flatMap:=@List.mem_flatMap
theorem iy:type_of% @List.length_tail:=@List.length_tail
theorem iA:type_of% @List.map_nil:=@List.map_nil
theorem iB:type_of% @Nat.succ_mul:=@Nat.succ_mul
theorem iC:type_of% @List.cons.injEq:=@List.cons.injEq
theorem iD:type_of% @List.nil_append:=@List.nil_append
theorem iE:type_of% @Nat.add_comm:=@Nat.add_comm
set_option linter.unusedVariables false
set_option linter.unusedSimpArgs false
set_option maxRecDepth 100000
namespace Go.Lx
def Calm {α:Type} (P:Program) (s:Sem α):Prop:=(∃ v,∀ w,s.run P w= .ok v w)\/(∀ w v w',s.run P w≠ .ok v w')
def BQ {α:Type} (P:Program) (s:Sem α):Prop:=∀ w v w',s.run P w≠ .ok v w'
def fh {α:Type} (P:Program) (s:Sem α):Prop:=∀ w v w',s.run P w= .ok v w'->w'=w
section
variable {P:Program} {α β:Type}
theorem Calm.pure (v:α):Calm P (Pure.pure v:Sem α):= .inl ⟨v,fun _=>rfl⟩
theorem BQ.halt (h:Halt):BQ P (Sem.halt h:Sem α):=fun w v w'=>by simp
theorem BQ.bind {x:Sem α} {f:α->Sem β} (hx:BQ P x):BQ P (x >>=f):=fun w u w' h=>by
 simp only[Sem.run_bind]at h;cases hr:x.run P w with
 |ok a w1=>exact hx _ _ _ hr
 |halt _ _=>rw[hr]at h;simp at h
theorem Calm.bind {x:Sem α} {f:α->Sem β} (hx:Calm P x) (hf: ∀ v,Calm P (f v)):Calm P (x >>=f):=by
 rcases hx with ⟨v,hv⟩|hn
 .rcases hf v with ⟨u,hu⟩|hn
  .exact .inl ⟨u,fun w=>by simp[hv,hu]⟩
  .exact .inr fun w u w'=>by simp only[Sem.run_bind,hv,Result.andThen_ok];exact hn w u w'
 .exact .inr (BQ.bind hn)
theorem Calm.program:Calm P program:= .inl ⟨P,fun _=>rfl⟩
theorem Calm.stuck (s:String):Calm P (stuck s:Sem α):= .inr (BQ.halt _)
theorem Calm.typeInfo (t:TypeId):Calm P (typeInfo t):=by
 unfold Go.typeInfo;refine Calm.bind Calm.program fun p=> ?_;split
 .exact Calm.pure _
 .exact Calm.stuck _
theorem Calm.underlying (t:TypeId):Calm P (underlying t):=by
 unfold Go.underlying;refine Calm.bind Calm.program fun p=> ?_;split
 .exact Calm.pure _
 .exact Calm.stuck _
theorem Calm.sizeOf (t:TypeId):Calm P (sizeOf t):=by
 unfold Go.sizeOf;exact Calm.bind (Calm.typeInfo t) fun p=>Calm.pure _
theorem Calm.isAgg (t:TypeId):Calm P (isAgg t):=by
 unfold Go.isAgg;refine Calm.bind (Calm.underlying t) fun p=> ?_;split<;>exact Calm.pure _
theorem Calm.sureAddr (v:Value):Calm P (Instr.sureAddr v):=by
 unfold Go.Instr.sureAddr
 repeat' (with_reducible first
  |exact Calm.pure _|exact Calm.stuck _|exact Calm.unsupported _|exact Calm.runtimePanic _|exact Calm.boundsPanic _ _ _ _|exact Calm.program
  |exact Calm.underlying _|exact Calm.sizeOf _|exact Calm.zeroValue _|exact Calm.typeInfo _|exact Calm.isAgg _|exact Calm.part _ _ _|exact Calm.asIntOf _|exact Calm.asBool _|exact Calm.asAgg _
  |refine Calm.bind ?_ (fun _=> ?_)|refine Calm.ite (fun _=> ?_) (fun _=> ?_)|split|dsimp only)
def aei:Value->Value->Bool
 | .int _ _,.int _ _=>true
 | .string _,.string _=>true
 | .bool _,.bool _=>true
 | .nilIface,.nilIface=>true
 | .nilIface,.iface _ _=>true
 | .iface _ _,.nilIface=>true
 | .pointer none,.pointer none=>true
 | .pointer none,.pointer (some _)=>true
 | .pointer (some _),.pointer none=>true
 | .slice none _ _,.slice none _ _=>true
 | .slice none _ _,.slice (some _) _ _=>true
 | .slice (some _) _ _,.slice none _ _=>true
 | .map none,.map none=>true
 | .map none,.map (some _)=>true
 | .map (some _),.map none=>true
 |_,_=>false
end
end Go.Lx
namespace Go.Lx
section
variable {P:Program}
def TW (P:Program) (ts:Array TypeId):Bool:=
 match ts[0]? with
 |some t=>match P.underlying t with
  |some (.map _ _)=>true
  |some (.chan _ _)=>true
  |_=>false
 |none=>true
def kind (P:Program):Op->Nat
 | .move _| .assign _| .nilCheck _| .binOp _ _ _ _ _| .unOp _ _ _| .makeInterface _ _| .slice _ _ _ _ _| .field _ _ _| .indexAddr _ _ _| .index _ _ _| .extract _ _| .typeAssert _ _ _ _| .pick _ _ _| .build _ _=>0
 | .fieldAddr s _ f=>match P.underlying s with
  |some (.struct fs)=>match (fs[f]? :Option Field)with
   |some fl=>match P.info? fl.type with
    |some i=>if i.size=0 then 2 else 0
    |none=>2
   |none=>2
  |_=>2
 | .convert s d _=>match P.underlying s,P.underlying d with
  |some (.int _),some (.int _)=>0
  |some .string,some .string=>0
  |some (.slice _),some .string=>1
  |_,_=>2
 | .load _ _=>1
 | .call {callee:= .builtin .len,args:=args,argTypes:=ts}=>if args.size=1/\TW P ts=false then 0 else 2
 | .call {callee:= .builtin .min,args:=args,..}=>if args.size=2 then 0 else 2
 | .call {callee:= .builtin .max,args:=args,..}=>if args.size=2 then 0 else 2
 |_=>2
def NN:Value->Bool
 | .int _ _=>true
 | .string _=>true
 | .slice _ _ _=>true
 | .map none=>true
 |_=>false
def D2 (ρ:Operand->Value):Op->Bool
 | .binOp _ _ x y _=>aei (ρ x) (ρ y)
 | .nilCheck x=>match ρ x with| .func (.method _) _ _=>false|_=>true
 | .convert _ _ x=>match ρ x with| .int _ _=>true| .string _=>true| .slice _ _ _=>true|_=>false
 | .call {callee:= .builtin .len,args:=args,..}=>args.all fun x=>NN (ρ x)
 | .call {callee:= .builtin .min,args:=args,..}=>args.all fun x=>NN (ρ x)
 | .call {callee:= .builtin .max,args:=args,..}=>args.all fun x=>NN (ρ x)
 |_=>true
end
end Go.Lx
namespace Go.Lx
section
variable {P:Program}
theorem fh.pure {α:Type} (v:α):fh P (Pure.pure v:Sem α):=fun w u w' h=>by simp at h;exact h.2.symm
theorem fh.halt {α:Type} (x:Halt):fh P (Sem.halt x:Sem α):=fun w u w' h=>by simp at h
theorem fh.bind {α β:Type} {x:Sem α} {f:α->Sem β} (hx:fh P x) (hf: ∀ v,fh P (f v)):fh P (x >>=f):=fun w u w' h=>by
 simp only[Sem.run_bind]at h;cases hr:x.run P w with
 |ok a w1=>
  rw[hr]at h;have h1:=hx _ _ _ hr;subst h1;exact hf _ _ _ _ h
 |halt _ _=>rw[hr]at h;simp at h
theorem fh.Kd {α:Type} {s:Sem α} (h:Calm P s):fh P s:=fun w u w' hr=>by
 rcases h with ⟨v,hv⟩|hn
 .rw[hv]at hr;simp at hr;exact hr.2.symm
 .exact absurd hr (hn _ _ _)
theorem fh.load (a:Addr) (m:Mode):fh P (load a m):=fun w u w' h=>by
 unfold Go.load at h;simp only[Sem.run]at h;split at h
 .simp at h;exact h.2.symm
 .split at h
  .simp at h;exact h.2.symm
  .simp at h
theorem fh.loadCellsFrom (a:Addr): ∀ (n i:Nat) (acc:Array Value),fh P (loadCellsFrom a i n acc)
 |0,_,_=>fh.pure _
 |n+1,i,acc=>by
  unfold Go.loadCellsFrom;exact fh.bind (fh.load _ _) fun v=>fh.loadCellsFrom a n _ _
theorem fh.loadVar (t:TypeId) (a:Addr):fh P (loadVar t a):=by
 unfold Go.loadVar;refine fh.bind (fh.Kd (Calm.isAgg t)) fun b=> ?_;split
 .exact fh.bind (fh.Kd (Calm.sizeOf t)) fun n=>fh.bind (fh.loadCellsFrom _ _ _ _) fun _=>fh.pure _
 .exact fh.load _ _
theorem fh.forIn {α β:Type} (f:α->β->Sem (ForInStep β)) (hf: ∀ a b,fh P (f a b)): ∀ (l:List α) (b:β),fh P (forIn l b f)
 |[],b=>by simp only[List.forIn_nil];exact fh.pure _
 |x::l,b=>by
  rw[List.forIn_cons];refine fh.bind (hf x b) fun r=> ?_;cases r with
  |done b=>exact fh.pure _
  |yield b=>exact fh.forIn f hf l b
theorem fh.bytesToString (x:Value):fh P (Conv.bytesToString x):=by
 unfold Conv.bytesToString;split
 .exact fh.pure _
 .refine fh.bind (fh.loadCellsFrom _ _ _ _) fun cs=> ?_;dsimp only;refine fh.bind ?_ fun _=>fh.pure _;rw[<-Array.forIn_toList];refine fh.forIn _ (fun a b=> ?_) _ _;split
  .exact fh.pure _
  .exact fh.halt _
 .exact fh.halt _
theorem fh.runesToString (x:Value):fh P (Conv.runesToString x):=by
 unfold Conv.runesToString;split
 .exact fh.pure _
 .refine fh.bind (fh.loadCellsFrom _ _ _ _) fun cs=> ?_;dsimp only;refine fh.bind ?_ fun _=>fh.pure _;rw[<-Array.forIn_toList];refine fh.forIn _ (fun a b=> ?_) _ _;split
  .exact fh.pure _
  .exact fh.halt _
 .exact fh.halt _
theorem Sk {s:Sem Value} {w w':World} {n:Next} (h:(do pure (.value (<-s)):Sem Next).run P w= .ok n w'): ∃ v,n= .value v/\s.run P w= .ok v w':=by
 simp only[Sem.run_bind]at h;cases hr:s.run P w with
 |ok a w1=>rw[hr]at h;simp at h;exact⟨a,h.1.symm,by rw[h.2]⟩
 |halt _ _=>rw[hr]at h;simp at h
theorem Vu {ρ:Operand->Value} (o:Oper) (hk:kind P o.op=1) (hs:D2 ρ o.op=true) {w w':World} {n:Next} (h:(execOp ρ o).run P w= .ok n w'):w'=w/\ ∃ v,n= .value v:=by
 obtain⟨dst,op,type,pos,after,guard⟩:=o;dsimp only at hk hs;cases op<;>first|(exfalso;revert hk;simp[kind];done)|skip
 case load t a=>
  obtain⟨v,rfl,hr⟩:=Sk h;exact⟨fh.bind (fh.Kd (Calm.sureAddr _)) (fun a=>fh.loadVar t a) _ _ _ hr,v,rfl⟩
 case convert s d x=>
  obtain⟨v,rfl,hr⟩:=Sk h;refine⟨?_,v,rfl⟩;simp only[kind]at hk;split at hk<;>first|(simp at hk;done)|skip
  rename_i el hsl cW
  revert hr
  have hu: ∀ w,(underlying s).run P w= .ok (.slice el) w:=fun w=>by simp[underlying,hsl]
  have Qg: ∀ w,(underlying d).run P w= .ok .string w:=fun w=>by simp[underlying,cW]
  simp only[D2]at hs;unfold convert;simp only[Sem.run_bind,hu,Qg,Result.andThen_ok];cases hx:ρ x<;>rw[hx]at hs<;>first|exact(Bool.false_ne_true hs).elim|skip
  .intro hr;simp[Conv.intToString]at hr;exact hr.2.symm
  .intro hr;simp at hr;exact hr.2.symm
  .dsimp only;intro hr;refine fh.bind (fh.Kd (Calm.underlying _)) (fun e=> ?_) _ _ _ hr;split
   .exact fh.bytesToString _
   .exact fh.runesToString _
   .exact fh.halt _
 case fieldAddr s x f=>
  exfalso
  simp only[kind]at hk
  repeat' (split at hk)
  all_goals simp at hk
 case call c=>
  exfalso
  obtain⟨callee,args,argTypes⟩:=c;cases callee<;>first|(simp[kind]at hk;done)|skip
  rename_i b;cases b<;>first|(simp[kind]at hk;done)|skip
  all_goals
   simp only[kind]at hk;split at hk<;>simp at hk
def Form (o:Oper) (a a1:Act):Prop:=(∃ u,a1=a.put o.dst u)\/(∃ d,a1=({a with defers:=d::a.defers}:Act).put o.dst undef)
theorem Oq {o:Oper} {a:Act} {w:World} {K:Act->World->Prop} {Q:Exit->Act->World->Prop} (h:o.wp P a w K Q):o.wp P a w (fun a1 w1=>Form o a a1/\K a1 w1) Q:=by
 unfold Oper.wp at*
 generalize (execOp a.eval o).run P w=r at*
 cases r with
 |ok n w'=>
  cases n<;>simp only[Oper.upon]at h ⊢<;>
   first
    |exact⟨.inl ⟨_,rfl⟩,h⟩
    |exact⟨.inr ⟨_,rfl⟩,h⟩
    |exact Calls.mono h (fun e kQ he=>by cases e<;>first|exact⟨.inl ⟨_,rfl⟩,he⟩|exact he)
    |exact Rows.mono h (fun _ _ he=>⟨.inl ⟨_,rfl⟩,he⟩)
 |halt x w'=>cases x<;>simp only[Oper.upon]at h ⊢<;>exact h
def QF:Exit->Act->World->Prop:=fun _ _ _=>False
theorem Sl: ¬LetsOut QF:=fun⟨_,_,h⟩=>h
theorem af6 {o:Oper} {a:Act} {w:World} {K:Act->World->Prop} {Q:Exit->Act->World->Prop} (hQ: ∀ c a w,¬Q (.panic c) a w) (hO: ¬LetsOut Q) (h:o.wp P a w K Q): ∃ a1 w1,K a1 w1:=by
 unfold Oper.wp at*
 generalize (execOp a.eval o).run P w=r at*
 cases r with
 |ok n w'=>
  cases n<;>simp only[Oper.upon]at h
  case value v=>exact⟨_,_,h⟩
  case skip=>exact⟨_,_,h⟩
  case defer d=>exact⟨_,_,h⟩
  case enter f args=>
   obtain⟨e,w2,fr,hR,_⟩:=h [];cases e with
   |returned v=>exact⟨_,_,hR⟩
   |panicked c=>exact absurd hR (hQ _ _ _)
   |outgrown=>exact absurd hR hO
  case row row args=>
   obtain⟨v,w2,hR,_⟩:=h default [];exact⟨_,_,hR⟩
 |halt x w'=>cases x<;>simp only[Oper.upon]at h<;>first|exact absurd h (hQ _ _ _)|exact h.elim
section
variable {ops:Array Oper}
def zw (P:Program) (ops:Array Oper) (w:World) (o:Oper) (v:Value) (a:Act):Prop:=
 (Region.wanted o (yielded ops a.tmps)=true/\(execOp a.eval o).run P w= .ok (.value v) w)\/
 (Region.wanted o (yielded ops a.tmps)=false/\v=undef)
theorem zw.of_same {w:World} {o:Oper} {v:Value} {a a':Act} (hy:zw P ops w o v a) (he:execOp a'.eval o=execOp a.eval o)
  (hw:Region.wanted o (yielded ops a'.tmps)=Region.wanted o (yielded ops a.tmps)):zw P ops w o v a':=by
 unfold zw at*
 rw[he,hw];exact hy
def step (P:Program) (ops:Array Oper) (i:Nat) (K:Act->World->Prop) (a:Act) (w:World):Prop:=
 match ops[i]? with
 |none=>K a w
 |some o=>
  if kind P o.op=0 then ∃ v,Yields P ops o v a/\K (a.put o.dst v) w
  else if kind P o.op=1 then ∃ v,zw P ops w o v a/\K (a.put o.dst v) w
  else if Region.wanted o (yielded ops a.tmps)then o.wp P a w K QF else K (a.put o.dst undef) w
theorem vI {i:Nat} {K K':Act->World->Prop} {a:Act} {w:World} (h: ∀ a w,K a w->K' a w) (hh:step P ops i K a w):step P ops i K' a w:=by
 unfold step at*
 cases ho:ops[i]? with
 |none=>simp only[ho]at hh ⊢;exact h _ _ hh
 |some o=>
  simp only[ho]at hh ⊢;by_cases k0:kind P o.op=0
  .rw[av k0]at hh ⊢;obtain⟨v,hy,hk⟩:=hh;exact⟨v,hy,h _ _ hk⟩
  .rw[ak k0]at hh ⊢;by_cases k1:kind P o.op=1
   .rw[av k1]at hh ⊢;obtain⟨v,hy,hk⟩:=hh;exact⟨v,hy,h _ _ hk⟩
   .rw[ak k1]at hh ⊢;by_cases hw:Region.wanted o (yielded ops a.tmps)=true
    .rw[av hw]at hh ⊢;exact Oper.wp_mono h hh
    .rw[ak hw]at hh ⊢;exact h _ _ hh
theorem RH {i:Nat} {K:Act->World->Prop} {Q:Exit->Act->World->Prop} {a:Act} {w:World} (hh:step P ops i K a w):wpOp P ops Q i K a w:=by
 unfold step at hh;unfold wpOp;split at hh
 .rename_i ho;simp only[ho];exact hh
 .rename_i o ho;simp only[ho];split at hh
  .obtain⟨v,hy,hk⟩:=hh;have:=hy.wpOp (Q:=Q) ho hk;unfold wpOp at this;simpa only[ho]using this
  .split at hh
   .obtain⟨v,hy,hk⟩:=hh;rcases hy with ⟨hw,hv⟩|⟨hw,rfl⟩
    .simp only[hw,gB,Oper.wp,hv,Oper.upon];exact .inl hk
    .simp only[hw,eY,fP];exact hk
   .split at hh
    .rename_i hw;simp only[hw,gB];refine .inl ?_;unfold Oper.wp at*
     generalize (execOp a.eval o).run P w=r at*
     cases r with
     |ok n w'=>
      cases n<;>simp only[Oper.upon]at hh ⊢<;>
       first
        |exact hh
        |exact Calls.mono hh (fun e kQ he=>by cases e<;>first|exact he|exact(he:False).elim|exact(Sl he).elim)
     |halt x w'=>cases x<;>simp only[Oper.upon]at hh ⊢<;>first|exact hh|exact(hh:False).elim
    .rename_i hw;simp only[hw,fP,eY];exact hh
theorem aak {o:Oper} {v u:Value} {a:Act} (w:World) (h:Yields P ops o v a) (k:Yields P ops o u a):v=u:=by
 rcases h with ⟨h1,h2⟩|⟨h1,h2⟩<;>rcases k with ⟨k1,k2⟩|⟨k1,k2⟩
 .have:=(h2 w).symm.trans (k2 w);simp at this;exact this
 .rw[h1]at k1;cases k1
 .rw[h1]at k1;cases k1
 .rw[h2,k2]
def uP (o:Oper):Prop:=∀ cs b,o.op≠ .select cs b
theorem yY {o x:Oper} {v u:Value} {a:Act} (hs:uP o) (h: ∀ d,x.dst=some d->d∉o.looksAt ops):Yields P ops o v (a.put x.dst u)↔Yields P ops o v a:=by
 have e1:=execOp_put (ops:=ops) o hs a x.dst u h;have e2:=wanted_put (ops:=ops) o a x.dst u h;constructor
 .exact fun hy=>hy.of_same e1.symm e2.symm
 .exact fun hy=>hy.of_same e1 e2
theorem Bj {w:World} {o x:Oper} {v u:Value} {a:Act} (hs:uP o) (h: ∀ d,x.dst=some d->d∉o.looksAt ops):zw P ops w o v (a.put x.dst u)↔zw P ops w o v a:=by
 have e1:=execOp_put (ops:=ops) o hs a x.dst u h;have e2:=wanted_put (ops:=ops) o a x.dst u h;constructor
 .exact fun hy=>hy.of_same e1.symm e2.symm
 .exact fun hy=>hy.of_same e1 e2
theorem MK {o x:Oper} {v:Value} {a a1:Act} (hs:uP o) (h: ∀ d,x.dst=some d->d∉o.looksAt ops) (hf:Form x a a1):Yields P ops o v a1↔Yields P ops o v a:=by
 rcases hf with ⟨u,rfl⟩|⟨d,rfl⟩
 .exact yY hs h
 .rw[yY hs h];constructor
  .exact fun hy=>hy.of_same rfl rfl
  .exact fun hy=>hy.of_same rfl rfl
theorem OR {o:Oper} {a:Act} {w:World} {d:Option Tmp} {v:Value} {K:Act->World->Prop} (hs:uP o) (h1: ∀ t,d=some t->t∉o.looksAt ops) (h2: ∀ t,d=some t->o.dst≠some t):
  o.wp P (a.put d v) w K QF↔o.wp P a w (fun a1 w1=>K (a1.put d v) w1) QF:=by
 unfold Oper.wp;rw[execOp_put (ops:=ops) o hs a d v h1];generalize (execOp a.eval o).run P w=r
 cases r with
 |ok n w'=>
  cases n<;>simp only[Oper.upon]
  case value u=>rw[Act.put_comm a v u h2]
  case skip=>rw[Act.put_comm a v undef h2]
  case defer df=>rw[Act.put_defers,Act.put_comm _ v undef h2]
  case enter f args=>
   constructor
   .refine fun h=>Calls.mono h (fun e kQ he=> ?_);cases e with
    |returned u=>dsimp only at he ⊢;rw[<-Act.put_comm a v u h2];exact he
    |_=>exact he
   .refine fun h=>Calls.mono h (fun e kQ he=> ?_);cases e with
    |returned u=>dsimp only at he ⊢;rw[Act.put_comm a v u h2];exact he
    |_=>exact he
  case row row args=>
   constructor
   .exact fun h=>Rows.mono h (fun u _ he=>by rw[<-Act.put_comm a v u h2];exact he)
   .exact fun h=>Rows.mono h (fun u _ he=>by rw[Act.put_comm a v u h2];exact he)
 |halt x w'=>cases x<;>simp only[Oper.upon]<;>exact Iff.rfl
def comm (P:Program) (ops:Array Oper) (x y:Oper):Bool:=
 x.apart ops y&&(kind P x.op==0 || kind P y.op==0 || (kind P x.op==1&&kind P y.op==1))
theorem abo {x y:Oper} (h:x.apart ops y=true):y.apart ops x=true:=by
 obtain⟨h1,h2,h3⟩:=Oper.apart_spec h;unfold Oper.apart;cases hy:y.dst<;>cases hx:x.dst<;>simp
 .exact h1 _ hx
 .exact h3 _ hy
 .exact⟨⟨h3 _ hy,fun he=>h2 _ hx (by rw[hy,he])⟩,h1 _ hx⟩
theorem swap {i j:Nat} {x y:Oper} (hi:ops[i]? =some x) (hj:ops[j]? =some y) (yA:uP x) (AQ:uP y) (hc:comm P ops x y=true) {K:Act->World->Prop} {a:Act} {w:World}
  (h:step P ops i (step P ops j K) a w):step P ops j (step P ops i K) a w:=by
 simp only[comm,bC,dz,bU]at hc;obtain⟨jH,Vv⟩:=hc;obtain⟨h1,h2,h3⟩:=Oper.apart_spec jH;obtain⟨g1,g2,g3⟩:=Oper.apart_spec (abo jH);have pc: ∀ (a:Act) (u v:Value),(a.put x.dst u).put y.dst v=(a.put y.dst v).put x.dst u:=fun a u v=>Act.put_comm a u v h2;unfold step at h ⊢;simp only[hi,hj]at h ⊢;by_cases kx:kind P x.op=0
 .simp only[kx,gB]at h ⊢;obtain⟨v,hy,h⟩:=h;by_cases ky:kind P y.op=0
  .simp only[ky,gB]at h ⊢;obtain⟨u,hu,hk⟩:=h;exact⟨u,(yY AQ h1).1 hu,v,(yY yA h3).2 hy,by rw[<-pc];exact hk⟩
  .simp only[ky,fP]at h ⊢;by_cases Lt:kind P y.op=1
   .simp only[Lt,gB]at h ⊢;obtain⟨u,hu,hk⟩:=h;exact⟨u,(Bj AQ h1).1 hu,v,(yY yA h3).2 hy,by rw[<-pc];exact hk⟩
   .simp only[Lt,fP]at h ⊢;rw[wanted_put y a x.dst v h1]at h;split
    .rename_i hw;simp only[hw,gB]at h;rw[OR AQ h1 h2]at h;refine Oper.wp_mono (fun a1 w1 hk=> ?_) (Oq h);exact⟨v,(MK yA h3 hk.1).2 hy,hk.2⟩
    .rename_i hw;simp only[hw,fP,eY]at h;exact⟨v,(yY yA h3).2 hy,by rw[<-pc];exact h⟩
 .simp only[kx,fP]at h ⊢;by_cases Qh:kind P x.op=1
  .simp only[Qh,gB]at h ⊢;obtain⟨v,hy,h⟩:=h;by_cases ky:kind P y.op=0
   .simp only[ky,gB]at h ⊢;obtain⟨u,hu,hk⟩:=h;exact⟨u,(yY AQ h1).1 hu,v,(Bj yA h3).2 hy,by rw[<-pc];exact hk⟩
   .have Lt:kind P y.op=1:=by
     rcases Vv with (hk|hk)|hk
     .exact absurd hk kx
     .exact absurd hk ky
     .exact hk.2
    simp only[ky,fP,Lt,gB]at h ⊢;obtain⟨u,hu,hk⟩:=h;exact⟨u,(Bj AQ h1).1 hu,v,(Bj yA h3).2 hy,by rw[<-pc];exact hk⟩
  .have ky:kind P y.op=0:=by
    rcases Vv with (hk|hk)|hk
    .exact absurd hk kx
    .exact hk
    .exact absurd hk.1 Qh
   simp only[Qh,fP,ky,gB]at h ⊢;split at h
   .rename_i hw;obtain⟨a1,w1,hf,v,hv,_⟩:=af6 (fun _ _ _ h=>h) Sl (Oq h);have Lu:=(MK AQ h1 hf).1 hv;refine⟨v,Lu,?_⟩;rw[wanted_put x a y.dst v h3,av hw,OR yA h3 g2];refine Oper.wp_mono (fun a2 w2 hk=> ?_) (Oq h);obtain⟨Qi,u,hu,hk⟩:=hk;have:=aak w2 ((MK AQ h1 Qi).1 hu) Lu;subst this;exact hk
   .rename_i hw;obtain⟨v,hv,hk⟩:=h;refine⟨v,(yY AQ h1).1 hv,?_⟩;rw[wanted_put x a y.dst v h3,ak hw,<-pc];exact hk
end
end
end Go.Lx
namespace Go.Lx
section
variable {P:Program} {ops:Array Oper}
def T (P:Program) (ops:Array Oper) (Q:Exit->Act->World->Prop):List Nat->Act->World->Prop
 |[]=>fun a w=>Q .normal a w
 |i::l=>step P ops i (T P ops Q l)
theorem pull {Q:Exit->Act->World->Prop} (qe: ∀ (j:Nat) (o:Oper),ops[j]? =some o->uP o) {i:Nat} {oi:Oper} (hi:ops[i]? =some oi) (post:List Nat):
  ∀ (pre:List Nat),(∀ x∈pre,∃ ox,ops[x]? =some ox/\comm P ops ox oi=true)-> ∀ (a:Act) (w:World),T P ops Q (pre++i::post) a w->step P ops i (T P ops Q (pre++post)) a w
 |[],_,a,w,h=>h
 |x::pre,hc,a,w,h=>by
  obtain⟨ox,hx,qs⟩:=hc x (by simp);have h':step P ops x (step P ops i (T P ops Q (pre++post))) a w:=
   vI (fun a w hk=>pull qe hi post pre (fun y hy=>hc y (by simp[hy])) a w hk) h
  exact swap hx hi (qe _ _ hx) (qe _ _ hi) qs h'
def bits:List (Nat×Nat)->Nat->Nat
 |[],_=>0
 |(i,m)::l,j=>match Nat.beq j i with
  |true=>m
  |false=>bits l j
def DR (acc:List (Nat×Nat)):List Edge->Nat
 |[]=>0
 |e::l=>match Region.binds .any e with
  |true=>(2 ^ e.on ||| bits acc e.on) ||| DR acc l
  |false=>DR acc l
def tV (ops:Array Oper):List Nat->List (Nat×Nat)->List (Nat×Nat)
 |[],acc=>acc
 |j::l,acc=>match ops[j]? with
  |some o=>tV ops l ((j,DR acc o.after.toList)::acc)
  |none=>tV ops l acc
def Al (acc:List (Nat×Nat)) (y x:Nat):Bool:=(bits acc y).testBit x
theorem Nl {acc:List (Nat×Nat)} {x:Nat}: ∀ {l:List Edge},(DR acc l).testBit x=true-> ∃ e∈l,Region.binds .any e=true/\(e.on=x\/(bits acc e.on).testBit x=true)
 |[],h=>by simp[DR]at h
 |e::l,h=>by
  unfold DR at h;split at h
  .rename_i hb;rw[Nat.testBit_or,Nat.testBit_or,Nat.testBit_two_pow,dz,dz,aK]at h;rcases h with h|h
   .exact⟨e,by simp,hb,h⟩
   .obtain⟨e',h1,h2⟩:=Nl h;exact⟨e',by simp[h1],h2⟩
  .obtain⟨e',h1,h2⟩:=Nl h;exact⟨e',by simp[h1],h2⟩
def VU (ops:Array Oper) (L:Nat->Prop) (acc:List (Nat×Nat)):Prop:=∀ y x,(bits acc y).testBit x=true-> ∃ oy,ops[y]? =some oy/\((∀ e∈oy.after,Region.binds .any e=true->L e.on)->L x)
theorem NP {L:Nat->Prop} (cU: ∀ j oj,ops[j]? =some oj->L j-> ∀ e∈oj.after,Region.binds .any e=true->L e.on): ∀ (l:List Nat) (acc:List (Nat×Nat)),VU ops L acc->VU ops L (tV ops l acc)
 |[],acc,h=>h
 |j::l,acc,h=>by
  unfold tV;split
  .rename_i o ho;refine NP cU l _ fun y x hx=> ?_;unfold bits at hx;split at hx
   .rename_i hb;obtain rfl:=dW hb;refine⟨o,ho,fun hl=> ?_⟩;obtain⟨e,he,pG,h1⟩:=Nl hx;have sQ:e∈o.after:=by simpa using he
    rcases h1 with rfl|h1
    .exact hl e sQ pG
    .obtain⟨oe,hoe,h2⟩:=h _ _ h1;exact h2 (cU _ _ hoe (hl e sQ pG))
   .exact h _ _ hx
  .exact NP cU l _ h
theorem ML {listed:Array Bool} (cU: ∀ j oj,ops[j]? =some oj->listed.getD j false=true-> ∀ e∈oj.after,Region.binds .any e=true->listed.getD e.on false=true)
  (l:List Nat) (y x:Nat) (oy:Oper) (hy:ops[y]? =some oy) (hl: ∀ e∈oy.after,Region.binds .any e=true->listed.getD e.on false=true) (h:Al (tV ops l []) y x=true):listed.getD x false=true:=by
 obtain⟨oy',h1,h2⟩:=NP (L:=fun i=>listed.getD i false=true) cU l [] (fun y x h=>by simp[bits]at h) y x h;rw[hy]at h1;cases h1;exact h2 hl
structure Inv (ops:Array Oper) (l:List Nat) (listed:Array Bool):Prop where
 sorted:l.Pairwise (· < ·)
 inside: ∀ j∈l,j<ops.size
 mem: ∀ j,j<ops.size->(listed.getD j true=false↔j∈l)
 size:listed.size=ops.size
 closed: ∀ j oj,ops[j]? =some oj->listed.getD j false=true-> ∀ e∈oj.after,Region.binds .any e=true->listed.getD e.on false=true
def needs:Op->Bool
 | .binOp _ _ _ _ _| .nilCheck _| .convert _ _ _| .call _=>true
 |_=>false
def KD (P:Program) (ops:Array Oper):Bool:=
 Region.noSelect ops&&
 (List.range ops.size).all fun y=>match ops[y]? with
  |none=>false
  |some oy=>
   oy.after.all (fun e=> !Region.binds .any e || decide (e.on<y))&&
   ((List.range y).all fun x=>match ops[x]? with
    |none=>false
    |some ox=>comm P ops ox oy || Al (tV ops (List.range ops.size) []) y x)&&
   (!needs oy.op || (List.range ops.size).all fun j=>decide (j<y) || match ops[j]? with
    |none=>true
    |some oj=>match oj.dst with
     |none=>true
     |some d=> !(oy.looksAt ops).contains d)
theorem abp (h:KD P ops=true):Region.noSelect ops=true/\ ∀ y oy,ops[y]? =some oy->
  (∀ e∈oy.after,Region.binds .any e=true->e.on<y)/\(∀ x,x<y-> ∃ ox,ops[x]? =some ox/\(comm P ops ox oy=true\/Al (tV ops (List.range ops.size) []) y x=true))/\
  (needs oy.op=true-> ∀ j oj d,y<=j->ops[j]? =some oj->oj.dst=some d->d∉oy.looksAt ops):=by
 simp only[KD,bC,cB,fQ]at h;refine⟨h.1,fun y oy hy=> ?_⟩;have ct:y<ops.size:=(aP.1 hy).1;have h1:=h.2 y ct;simp only[hy,bC,cB,fQ,Array.all_eq_true_iff_forall_mem,dz]at h1;obtain⟨⟨ha,hb⟩,hc⟩:=h1;refine⟨fun e he pG=> ?_,fun x hx=> ?_,fun hn j oj d hj ho hd=> ?_⟩
 .have:=ha e he;simp[pG]at this;exact this
 .have:=hb x hx;cases jI:ops[x]? with
  |none=>simp[jI]at this
  |some ox=>simp only[jI,dz]at this;exact⟨ox,rfl,this⟩
 .rcases hc with hc|hc
  .simp[hn]at hc
  .have:=hc j (aP.1 ho).1;simp only[ho,hd,aK]at this;rcases this with h|h
   .omega
   .simpa using h
theorem abq {Q:Exit->Act->World->Prop} (hB:KD P ops=true): ∀ (n:Nat) (l:List Nat) (listed:Array Bool) (a:Act) (w:World),l.length=n->Inv ops l listed->T P ops Q l a w->
  wpAny P .any ops Q n listed a w:=by
 obtain⟨qe,uQ⟩:=abp hB;have Et: ∀ (j:Nat) (o:Oper),ops[j]? =some o->uP o:=fun j o ho cs b=>Region.noSelect_spec qe j o cs b ho;intro n;induction n with
 |zero=>
  intro l listed a w hn inv h;have:l=[]:=by simpa using hn
  subst this;refine⟨?_,h⟩;apply gu.2;intro j hj;obtain⟨Cp,o,ho,_⟩:=mem_ready.1 hj;have:=(inv.mem j (aP.1 ho).1).1 Cp;cases this
 |succ n ih=>
  intro l listed a w hn inv h;have NQ: ∀ j,listed.getD j true=false->listed.getD j false=true->False:=by
   intro j h1 h2;rcases bR j listed.size with h'|h'
   .simp[h']at h1 h2;rw[h1]at h2;cases h2
   .simp[bN h']at h1
  refine⟨fun hr=> ?_,fun i hi=> ?_⟩
  .exfalso
   match l,hn with
   |i0::l',_=>
    have ct:=inv.inside i0 (by simp);have:i0∈Region.ready .any ops listed:=by
     refine mem_ready.2 ⟨(inv.mem i0 ct).2 (by simp),ops[i0],by simp[ct],fun e he hb=> ?_⟩;have uV:=(uQ i0 _ (by simp[ct])).1 e he hb;have Pv:e.on∉i0::l':=by
      intro hm;rcases aM.1 hm with h|h
      .omega
      .have:=(bI.1 inv.sorted).1 _ h;omega
     have ez:e.on<listed.size:=by rw[inv.size];omega
     have qt: ¬listed.getD e.on true=false:=fun hf=>Pv ((inv.mem _ (by omega)).1 hf);simp[ez]at qt ⊢;exact qt
    rw[hr]at this;cases this
  .obtain⟨Cp,oi,oD,ii⟩:=mem_ready.1 hi;have ct:=(aP.1 oD).1;have iW:=(inv.mem i ct).1 Cp;obtain⟨pre,post,rfl⟩:=List.append_of_mem iW;have hp:=inv.sorted;rw[gD]at hp;have ru: ∀ x∈pre,x<i:=fun x hx=>hp.2.2 x hx i (by simp);refine RH (vI (fun a' w' hk=>ih (pre++post) _ a' w' (by simp at hn ⊢;omega) ?_ hk) (pull Et oD post pre (fun x hx=> ?_) a w h))
   .refine⟨?_,fun j hj=>inv.inside j (by simp at hj ⊢;rcases hj with h|h<;>simp[h]),fun j hj=> ?_,by simp[inv.size],fun j oj tW hl e he hb=> ?_⟩
    .rw[gD];exact⟨hp.1,(bI.1 hp.2.1).2,fun x hx y hy=>hp.2.2 x hx y (by simp[hy])⟩
    .by_cases qu:i=j
     .subst qu;have nW:i∉pre++post:=by
       intro hm;rcases bZ.1 hm with h|h
       .have:=ru _ h;omega
       .have:=(bI.1 hp.2.1).1 _ h;omega
      have ez:i<listed.size:=by rw[inv.size];exact ct
      simp only[nW,iff_false];simp[ez]
     .rw[getD_set_ne true qu,inv.mem j hj];simp;constructor
      .rintro(h|h|h)
       .exact .inl h
       .exact absurd h.symm qu
       .exact .inr h
      .rintro(h|h)
       .exact .inl h
       .exact .inr (.inr h)
    .by_cases qu:i=j
     .subst qu;have:oj=oi:=bW (tW.symm.trans oD);subst this;exact getD_set_true (ii e he hb)
     .rw[getD_set_ne false qu]at hl;exact getD_set_true (inv.closed j oj tW hl e he hb)
   .have rG:=ru x hx;obtain⟨ox,jI,hc⟩:=(uQ i oi oD).2.1 x rG;refine⟨ox,jI,?_⟩;rcases hc with hc|hc
    .exact hc
    .exfalso
     have pH:=ML inv.closed _ i x oi oD ii hc;have hxu:=(inv.mem x (aP.1 jI).1).2 (by simp[hx]);exact NQ x hxu pH
theorem MD (m j:Nat):(Array.replicate m false).getD j false=false:=by
 rcases bR j m with h|h
 .simp[h]
 .simp[h]
end
end Go.Lx
