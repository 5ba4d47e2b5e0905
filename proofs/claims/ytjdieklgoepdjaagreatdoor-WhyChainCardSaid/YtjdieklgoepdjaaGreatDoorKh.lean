import Derived.Test.YtjdieklgoepdjaaGreatDoorKd
import Derived.Test.YtjdieklgoepdjaaGreatDoorKb
import Derived.Stop.Asserts
import Derived.Test.YtjdieklgoepdjaaGreatDoorKg
set_option linter.unusedVariables false
set_option linter.unusedSimpArgs false
set_option maxRecDepth 100000
/- errors.As at a conflict: what the model's entries for reflectlite say at this program's types; the searches' errors. -/
namespace Go.Vc
variable {P:Program} {H H':Heap}
theorem NextH.method {v:Value} {name:String} {vs:Array Value} {f:FuncId} {args:List Value} {K:Value→Heap→Prop} (hm: ∀ w,(callMethod v name vs).run P w=(callFunc f args.toArray).run P w) (h:CallH P f args H K):NextH P (callMethod v name vs) H K:=
 ⟨fun w hw=>by rw[hm];exact h.out w hw⟩
end Go.Vc
namespace Go.Proofs.YtjdieklgoepdjaaGreatDoor
open Go Go.Vc Go.RowKit Go.Extern Go.Extern.Stop Go.Stop
abbrev hT (t:Nat):Value:= .pointer (some ⟨5,t,none⟩)
abbrev tyV (t:Nat):Value:= .iface 245 (.agg #[hT t])
theorem SemH.run1 {P:Program} {H:Heap} {s:Sem Value} {v:Value} {K:Value→Heap→Prop} (h: ∀ w:World,w.heap=H→s.run P w= .ok v w) (hk:K v H):SemH P s H K:=⟨fun w hw=>⟨v,w,h w hw,Same.refl w,hw▸hk⟩⟩
theorem rlm (z:Sem Value) (f:TypeId→Addr→Nat→Nat→Sem Value) (v:Value):
  ReflectliteValue.method z f #[v]=(do match ←ReflectliteValue.parts v with|none=>z|some (t,a,fl)=>f t a fl (fl % 32)):=rfl
theorem rls (v x:Value):ReflectliteValue.set #[v,x]=(do
  let (some (dst,a,fl),some (src,b,_)):=(←ReflectliteValue.parts v,←ReflectliteValue.parts x)
   |unsupported (.noEntry "extern/(internal/reflectlite.Value).Set.zeroValue")
  if fl / ReflectliteValue.flagAddr % 2==0 then unsupported (.noEntry "extern/(internal/reflectlite.Value).Set.unaddressable")
  let val ←loadVar src b
  if ←Rtype.directlyAssignable dst src then storeVar dst a val
  else if ←Rtype.implements dst src then
   if(←Rtype.kind src)==20 then
    match val with
    | .nilIface=>unsupported (.noEntry "extern/reflectlite: a nil value of one interface type handed on as a value of another")
    |_=>storeVar dst a val
   else storeVar dst a (.iface src val)
  else panicString ("reflectlite.Set: value of type " ++(←Rtype.spelt src)++ " is not assignable to type " ++(←Rtype.spelt dst))
  pure (.tuple #[])):=rfl
theorem valueOf_c (t:Addr) (H:Heap):CallH Tryz.prog 163 [.iface 167 (.pointer (some t))] H fun v H'=>v= .agg #[hT 167,.pointer (some ⟨H.size,0,none⟩),.int .u64 150]∧Blk H' H.size #[.pointer (some t)] 167∧H'.size=H.size+1∧Ext H H':=by
 refine CallH.extern Tryz.func163 (by kernel_rfl) (by kernel_rfl) (by kernel_rfl) (by kernel_rfl) (e:=(fun args=>ReflectliteValue.unpack (args.getD 0 (.tuple #[])))) ⟨fun w hw=> ?_⟩
 have h:(ReflectliteValue.unpack (.iface 167 (.pointer (some t)))).run Tryz.prog w= .ok (.agg #[hT 167,.pointer (some ⟨w.heap.size,0,none⟩),.int .u64 150]) (w.alloc (.cells #[.pointer (some t)] 167)):=by kernel_rfl
 exact⟨_,_,h,⟨rfl,rfl,rfl⟩,by rw[hw],hw▸Blk.new (push_last _ _),by rw[←hw];simp,hw▸Only.push _ _ _⟩
theorem typeV_c (a:Addr) (H:Heap):CallH Tryz.prog 164 [.agg #[hT 167,.pointer (some a),.int .u64 150]] H fun v H'=>v=tyV 167∧H=H':=by
 refine CallH.extern Tryz.func164 (by kernel_rfl) (by kernel_rfl) (by kernel_rfl) (by kernel_rfl) (e:=ReflectliteValue.methodAny (ReflectliteValue.valueError "reflectlite.Value.Type" 0) (fun t _ _ _=>ReflectliteType.toType t)) (SemH.run1 (v:=tyV 167) (fun w _=>by kernel_rfl) ⟨rfl,rfl⟩)
theorem kind_c (H:Heap) {K:Value→Heap→Prop} (hk:K (.int .u8 22) H):NextH Tryz.prog (callMethod (tyV 167) "Kind" #[]) H K:=by
 refine NextH.method (f:=233) (args:=[hT 167]) (fun w=>by kernel_rfl) ?_
 refine CallH.extern Tryz.func233 (by kernel_rfl) (by kernel_rfl) (by kernel_rfl) (by kernel_rfl) (e:=ReflectliteType.abiMethod fun t=>do pure (.int .u8 (←Rtype.kind t))) (SemH.run1 (v:= .int .u8 22) (fun w _=>by kernel_rfl) hk)
theorem kindE_c (H:Heap) {K:Value→Heap→Prop} (hk:K (.int .u8 22) H):NextH Tryz.prog (callMethod (tyV 165) "Kind" #[]) H K:=by
 refine NextH.method (f:=233) (args:=[hT 165]) (fun w=>by kernel_rfl) ?_
 refine CallH.extern Tryz.func233 (by kernel_rfl) (by kernel_rfl) (by kernel_rfl) (by kernel_rfl) (e:=ReflectliteType.abiMethod fun t=>do pure (.int .u8 (←Rtype.kind t))) (SemH.run1 (v:= .int .u8 22) (fun w _=>by kernel_rfl) hk)
theorem elemT_c (H:Heap) {K:Value→Heap→Prop} (hk:K (tyV 165) H):NextH Tryz.prog (callMethod (tyV 167) "Elem" #[]) H K:=by
 refine NextH.method (f:=248) (args:=[.agg #[hT 167]]) (fun w=>by kernel_rfl) ?_
 refine CallH.extern Tryz.func248 (by kernel_rfl) (by kernel_rfl) (by kernel_rfl) (by kernel_rfl) (e:=ReflectliteType.method ReflectliteType.elem) (SemH.run1 (v:=tyV 165) (fun w _=>by kernel_rfl) hk)
theorem implements_c (H:Heap) {K:Value→Heap→Prop} (hk:K (.bool true) H):NextH Tryz.prog (callMethod (tyV 165) "Implements" #[tyV 118]) H K:=by
 refine NextH.method (f:=249) (args:=[.agg #[hT 165],tyV 118]) (fun w=>by kernel_rfl) ?_
 refine CallH.extern Tryz.func249 (by kernel_rfl) (by kernel_rfl) (by kernel_rfl) (by kernel_rfl) (e:=ReflectliteType.relation "Implements" ReflectliteType.implements_) (SemH.run1 (v:= .bool true) (fun w _=>by kernel_rfl) hk)
theorem partsT_c (a:Addr) (w:World):(ReflectliteValue.parts (.agg #[hT 167,.pointer (some a),.int .u64 150])).run Tryz.prog w= .ok (some (167,a,150)) w:=by kernel_rfl
theorem isNil_c (a p:Addr) (H:Heap) (ha:hcell H a=some (.pointer (some p))):CallH Tryz.prog 165 [.agg #[hT 167,.pointer (some a),.int .u64 150]] H fun v H'=>v= .bool false∧H=H':=by
 refine CallH.extern Tryz.func165 (by kernel_rfl) (by kernel_rfl) (by kernel_rfl) (by kernel_rfl) (e:=ReflectliteValue.method (ReflectliteValue.valueError "reflectlite.Value.IsNil" 0) ReflectliteValue.isNil) (SemH.run1 (v:= .bool false) (fun w hw=> ?_) ⟨rfl,rfl⟩)
 have ha:w.cell? a=some (.pointer (some p)):=by rw[cell_heap,hw];exact ha
 show(ReflectliteValue.method _ ReflectliteValue.isNil #[_]).run _ _=_
 rw[rlm]
 simp only[Sem.run_bind,partsT_c,Result.andThen]
 simp[ReflectliteValue.isNil,loadVar,isAgg,underlying,Tryz.underlying167,ha,Result.andThen]
theorem elemOf_c (w:World):(Rtype.elem? 167).run Tryz.prog w= .ok (some 165) w:=by kernel_rfl
theorem mkE_c (p:Addr) (w:World):(ReflectliteValue.mk 165 p ReflectliteValue.flagAddr).run Tryz.prog w= .ok (.agg #[hT 165,.pointer (some p),.int .u64 406]) w:=by kernel_rfl
theorem elemV_c (a p:Addr) (H:Heap) (ha:hcell H a=some (.pointer (some p))):CallH Tryz.prog 189 [.agg #[hT 167,.pointer (some a),.int .u64 150]] H fun v H'=>v= .agg #[hT 165,.pointer (some p),.int .u64 406]∧H=H':=by
 refine CallH.extern Tryz.func189 (by kernel_rfl) (by kernel_rfl) (by kernel_rfl) (by kernel_rfl) (e:=ReflectliteValue.method (ReflectliteValue.valueError "reflectlite.Value.Elem" 0) ReflectliteValue.elem) (SemH.run1 (fun w hw=> ?_) ⟨rfl,rfl⟩)
 have ha:w.cell? a=some (.pointer (some p)):=by rw[cell_heap,hw];exact ha
 show(ReflectliteValue.method _ ReflectliteValue.elem #[_]).run _ _=_
 rw[rlm]
 simp only[Sem.run_bind,partsT_c,Result.andThen]
 simp[ReflectliteValue.elem,loadVar,isAgg,underlying,Tryz.underlying167,ha,Result.andThen,elemOf_c,mkE_c]
theorem typeOf_c (p:Option Addr) (H:Heap):CallH Tryz.prog 188 [.iface 165 (.pointer p)] H fun v H'=>v=tyV 165∧H=H':=by
 refine CallH.extern Tryz.func188 (by kernel_rfl) (by kernel_rfl) (by kernel_rfl) (by kernel_rfl) (e:=ReflectliteType.typeOf) (SemH.run1 (v:=tyV 165) (fun w _=>by kernel_rfl) ⟨rfl,rfl⟩)
theorem valueOfE_c (p:Option Addr) (H:Heap):CallH Tryz.prog 163 [.iface 165 (.pointer p)] H fun v H'=>v= .agg #[hT 165,.pointer (some ⟨H.size,0,none⟩),.int .u64 150]∧Blk H' H.size #[.pointer p] 165∧H'.size=H.size+1∧Ext H H':=by
 refine CallH.extern Tryz.func163 (by kernel_rfl) (by kernel_rfl) (by kernel_rfl) (by kernel_rfl) (e:=(fun args=>ReflectliteValue.unpack (args.getD 0 (.tuple #[])))) ⟨fun w hw=> ?_⟩
 have h:(ReflectliteValue.unpack (.iface 165 (.pointer p))).run Tryz.prog w= .ok (.agg #[hT 165,.pointer (some ⟨w.heap.size,0,none⟩),.int .u64 150]) (w.alloc (.cells #[.pointer p] 165)):=by kernel_rfl
 exact⟨_,_,h,⟨rfl,rfl,rfl⟩,by rw[hw],hw▸Blk.new (push_last _ _),by rw[←hw];simp,hw▸Only.push _ _ _⟩
theorem partsA_c (a:Addr) (w:World):(ReflectliteValue.parts (.agg #[hT 165,.pointer (some a),.int .u64 406])).run Tryz.prog w= .ok (some (165,a,406)) w:=by kernel_rfl
theorem partsV_c (a:Addr) (w:World):(ReflectliteValue.parts (.agg #[hT 165,.pointer (some a),.int .u64 150])).run Tryz.prog w= .ok (some (165,a,150)) w:=by kernel_rfl
theorem direct_c (w:World):(Rtype.directlyAssignable 165 165).run Tryz.prog w= .ok true w:=by kernel_rfl
theorem set_c (p:Option Addr) (tb:Nat) (b:Addr) (old:Value) (H:Heap) (hb:hcell H b=some (.pointer p)) (ht:Blk H tb #[old] 165):CallH Tryz.prog 190 [.agg #[hT 165,.pointer (some ⟨tb,0,none⟩),.int .u64 406],.agg #[hT 165,.pointer (some b),.int .u64 150]] H fun v H'=>v= .tuple #[]∧H'.size=H.size∧Blk H' tb #[.pointer p] 165∧But tb H H':=by
 refine CallH.extern Tryz.func190 (by kernel_rfl) (by kernel_rfl) (by kernel_rfl) (by kernel_rfl) (e:=ReflectliteValue.set) ⟨fun w hw=> ?_⟩
 have hb:w.cell? b=some (.pointer p):=by rw[cell_heap,hw];exact hb
 have ht:Blk w.heap tb #[old] 165:=by rw[hw];exact ht
 obtain⟨fr,h1,h2⟩:=ht.out
 have hc:w.cell? ⟨tb,0,none⟩=some old:=by simp[World.cell?,h1]
 have hf:w.frozen? ⟨tb,0,none⟩=false:=by
  simp only[World.frozen?,h1]
  rcases h2 with h2|h2
  ·cases fr;simp at h2 ⊢;intro;omega
  ·cases fr;simp at h2 ⊢;intro;omega
 have hrun:(ReflectliteValue.set #[.agg #[hT 165,.pointer (some ⟨tb,0,none⟩),.int .u64 406],.agg #[hT 165,.pointer (some b),.int .u64 150]]).run Tryz.prog w= .ok (.tuple #[]) (w.setCell ⟨tb,0,none⟩ (.pointer p)):=by
  rw[rls]
  simp only[Sem.run_bind,partsA_c,partsV_c,Result.andThen]
  simp[ReflectliteValue.flagAddr,loadVar,isAgg,underlying,Tryz.underlying165,hb,Result.andThen,direct_c,storeVar,Value.cells,storeCells,Addr.add]
  rw[run_store Tryz.prog w ⟨tb,0,none⟩ _ _ (by rfl)]
  simp[hc,hf]
 obtain⟨k1,k2,k3⟩:=setCell_blk (i:=0) (v:= .pointer p) ht
 exact⟨_,_,hrun,k3,rfl,by rw[set_eq h1];simp[hw],k1,hw▸k2⟩
theorem assign_cc (H:Heap) {K:Value→Heap→Prop} (hk:K (.bool true) H):NextH Tryz.prog (callMethod (tyV 165) "AssignableTo" #[tyV 165]) H K:=by
 refine NextH.method (f:=246) (args:=[.agg #[hT 165],tyV 165]) (fun w=>by kernel_rfl) ?_
 refine CallH.extern Tryz.func246 (by kernel_rfl) (by kernel_rfl) (by kernel_rfl) (by kernel_rfl) (e:=ReflectliteType.relation "AssignableTo" ReflectliteType.assignableTo) (SemH.run1 (v:= .bool true) (fun w _=>by kernel_rfl) hk)
theorem assign_sc (H:Heap) {K:Value→Heap→Prop} (hk:K (.bool false) H):NextH Tryz.prog (callMethod (tyV 199) "AssignableTo" #[tyV 165]) H K:=by
 refine NextH.method (f:=246) (args:=[.agg #[hT 199],tyV 165]) (fun w=>by kernel_rfl) ?_
 refine CallH.extern Tryz.func246 (by kernel_rfl) (by kernel_rfl) (by kernel_rfl) (by kernel_rfl) (e:=ReflectliteType.relation "AssignableTo" ReflectliteType.assignableTo) (SemH.run1 (v:= .bool false) (fun w _=>by kernel_rfl) hk)
theorem assign_fc (H:Heap) {K:Value→Heap→Prop} (hk:K (.bool false) H):NextH Tryz.prog (callMethod (tyV 209) "AssignableTo" #[tyV 165]) H K:=by
 refine NextH.method (f:=246) (args:=[.agg #[hT 209],tyV 165]) (fun w=>by kernel_rfl) ?_
 refine CallH.extern Tryz.func246 (by kernel_rfl) (by kernel_rfl) (by kernel_rfl) (by kernel_rfl) (e:=ReflectliteType.relation "AssignableTo" ReflectliteType.assignableTo) (SemH.run1 (v:= .bool false) (fun w _=>by kernel_rfl) hk)
theorem typeOf_s (p:Option Addr) (H:Heap):CallH Tryz.prog 188 [.iface 199 (.pointer p)] H fun v H'=>v=tyV 199∧H=H':=by
 refine CallH.extern Tryz.func188 (by kernel_rfl) (by kernel_rfl) (by kernel_rfl) (by kernel_rfl) (e:=ReflectliteType.typeOf) (SemH.run1 (v:=tyV 199) (fun w _=>by kernel_rfl) ⟨rfl,rfl⟩)
theorem typeOf_f (p:Option Addr) (H:Heap):CallH Tryz.prog 188 [.iface 209 (.pointer p)] H fun v H'=>v=tyV 209∧H=H':=by
 refine CallH.extern Tryz.func188 (by kernel_rfl) (by kernel_rfl) (by kernel_rfl) (by kernel_rfl) (e:=ReflectliteType.typeOf) (SemH.run1 (v:=tyV 209) (fun w _=>by kernel_rfl) ⟨rfl,rfl⟩)
theorem ta_s_a {p:Option Addr} {K:Value→Prop} (hk:K (.tuple #[.nilIface,.bool false])):PureH Tryz.prog (Instr.typeAssert (.iface 199 (.pointer p)) 118 250 true) K:=⟨⟨_,fun w=>run_typeAssert_lacksB Tryz.underlying250 (by kernel_rfl) (by kernel_rfl) _ _ w,hk⟩⟩
theorem ta_s_u {p:Option Addr} {K:Value→Prop} (hk:K (.tuple #[.nilIface,.bool false])):PureH Tryz.prog (Instr.typeAssert (.iface 199 (.pointer p)) 118 253 true) K:=⟨⟨_,fun w=>run_typeAssert_lacksB Tryz.underlying253 (by kernel_rfl) (by kernel_rfl) _ _ w,hk⟩⟩
theorem ta_s_w {p:Option Addr} {K:Value→Prop} (hk:K (.tuple #[.nilIface,.bool false])):PureH Tryz.prog (Instr.typeAssert (.iface 199 (.pointer p)) 118 254 true) K:=⟨⟨_,fun w=>run_typeAssert_lacksB Tryz.underlying254 (by kernel_rfl) (by kernel_rfl) _ _ w,hk⟩⟩
theorem ta_f_a {p:Option Addr} {K:Value→Prop} (hk:K (.tuple #[.nilIface,.bool false])):PureH Tryz.prog (Instr.typeAssert (.iface 209 (.pointer p)) 118 250 true) K:=⟨⟨_,fun w=>run_typeAssert_lacksB Tryz.underlying250 (by kernel_rfl) (by kernel_rfl) _ _ w,hk⟩⟩
theorem ta_f_u {p:Option Addr} {K:Value→Prop} (hk:K (.tuple #[.iface 209 (.pointer p),.bool true])):PureH Tryz.prog (Instr.typeAssert (.iface 209 (.pointer p)) 118 253 true) K:=⟨⟨_,fun w=>by kernel_rfl,hk⟩⟩
theorem unwrap_f (p:Option Addr) (w:World):(callMethod (.iface 209 (.pointer p)) "Unwrap" #[]).run Tryz.prog w=(callFunc 241 [.pointer p].toArray).run Tryz.prog w:=by kernel_rfl
theorem unwrapF_any {H:Heap} {g:Nat} {op nm:ByteArray} {v:Value} (hb:Blk H g #[.string op,.string nm,v] 211):CallH Tryz.prog 241 [.pointer (some ⟨g,0,none⟩)] H fun u H'=>u=v∧H=H':=by
 refine Vc.CallH.body Tryz.func241 Tryz.call241 rfl (by decide+kernel) rfl ?_
 ((conv=>whnf);repeat(any_goals((first|refine Vc.stp ?_|refine Vc.spl ?_ ?_)<;>(intros;(conv=>whnf)))))
 exact⟨rfl,rfl⟩
structure Tgt (H:Heap) (tb:Nat) (vb:Addr) (old:Value):Prop where
 cell:hcell H vb=some (.pointer (some ⟨tb,0,none⟩))
 blk:Blk H tb #[old] 165
 ne:vb.block≠tb
theorem Tgt.ext {H H':Heap} {tb:Nat} {vb:Addr} {old:Value} (h:Tgt H tb vb old) (k:Ext H H'):Tgt H' tb vb old:=⟨hcell_keep h.cell k id,h.blk.ext k,h.ne⟩
def ConfV (v:Value):Prop:=∃ p:Addr,v= .iface 165 (.pointer (some p))
def SpntV (v:Value):Prop:=∃ p:Addr,v= .iface 199 (.pointer (some p))
def ErrB (b:Bool) (v:Value):Prop:=if b then ConfV v else SpntV v
def ErrW (H:Heap) (b:Bool) (v:Value):Prop:=∃ g op nm v',v= .iface 209 (.pointer (some ⟨g,0,none⟩))∧Blk H g #[.string op,.string nm,v'] 211∧ErrB b v'
def ErrA (H:Heap) (b:Bool) (v:Value):Prop:=ErrB b v∨ErrW H b v
theorem ErrA.ext {H H':Heap} {b:Bool} {v:Value} (h:ErrA H b v) (k:Ext H H'):ErrA H' b v:=h.imp_right fun⟨g,op,nm,v',e,hb,h⟩=>⟨g,op,nm,v',e,hb.ext k,h⟩
theorem ErrB.iface {b:Bool} {v:Value} (h:ErrB b v): ∃ t x,v= .iface t x:=by
 cases b with
 |true=>obtain⟨p,rfl⟩:=(h:ConfV v);exact⟨_,_,rfl⟩
 |false=>obtain⟨p,rfl⟩:=(h:SpntV v);exact⟨_,_,rfl⟩
theorem ErrA.iface {H:Heap} {b:Bool} {v:Value} (h:ErrA H b v): ∃ t x,v= .iface t x:=by
 rcases h with h|⟨g,op,nm,v',rfl,_⟩
 ·exact h.iface
 ·exact⟨_,_,rfl⟩
def AsR (H H':Heap) (tb:Nat) (b:Bool) (u:Value):Prop:=u= .bool b∧But tb H H'∧(b=true→ ∃ p:Addr,Blk H' tb #[.pointer (some p)] 165)
set_option maxHeartbeats 1000000 in
theorem asc_any (b:Bool) (H:Heap) (v:Value) (tb:Nat) (vb:Addr) (old:Value) (h:ErrA H b v) (ht:Tgt H tb vb old):CallH Tryz.prog 166 [v,.iface 167 (.pointer (some ⟨tb,0,none⟩)),.agg #[hT 167,.pointer (some vb),.int .u64 150],tyV 165] H fun u H'=>AsR H H' tb b u:=by
 refine Vc.CallH.body Tryz.func166 Tryz.call166 rfl (by decide+kernel) rfl ?_
 ((conv=>whnf);repeat(any_goals((first|refine Vc.stp ?_|refine Vc.spl ?_ ?_)<;>(intros;(conv=>whnf)))))
 rename_i H1 hs1 hb1 hx1
 have ht1:=ht.ext hx1
 have h1:=h.ext hx1
 obtain⟨i0,hi0⟩: ∃ i0:Nat,(i0=1∧ErrW H1 b v)∨(i0=0∧ErrB b v):=h1.elim (fun h=>⟨0,.inr ⟨rfl,h⟩⟩) (fun h=>⟨1,.inl ⟨rfl,h⟩⟩)
 refine LoopH.intro (fun(x:Nat×Value)=>[(0,x.2)]) (fun x H'=>H1=H'∧((x.1=1∧ErrW H1 b x.2)∨(x.1=0∧ErrB b x.2))) (fun x=>x.1) (i0,v) ⟨rfl,trivial⟩ ⟨rfl,hi0⟩ ?_
 rintro⟨i,v⟩ _ ⟨rfl,h⟩
 dsimp only at h ⊢
 rcases h with ⟨rfl,g,op,nm,v',rfl,hb,hv⟩|⟨rfl,hv⟩
 ·obtain⟨ty,pl,rfl⟩:=hv.iface
  ((conv=>whnf);repeat(any_goals((first|(refine(typeOf_f _ _).mono ?_;rintro _ _ ⟨rfl,rfl⟩)|(refine assign_fc _ ?_)|(with_reducible apply ta_s_a)|(with_reducible apply ta_s_u)|(with_reducible apply ta_s_w)|(with_reducible apply ta_f_a)|(with_reducible apply ta_f_u)|(with_reducible apply ta_f_w)|(refine NextH.method (unwrap_f _) ?_;refine(unwrapF_any hb).mono ?_;rintro _ _ ⟨rfl,rfl⟩)|refine Vc.stp ?_|refine Vc.spl ?_ ?_)<;>(intros;(conv=>whnf)))))
  exact⟨(0,.iface ty pl),⟨rfl,trivial⟩,⟨rfl,.inr ⟨rfl,hv⟩⟩,by show 0<1;omega⟩
 ·cases b with
  |false=>
   obtain⟨p,rfl⟩:=(hv:SpntV v)
   ((conv=>whnf);repeat(any_goals((first|(refine(typeOf_s _ _).mono ?_;rintro _ _ ⟨rfl,rfl⟩)|(refine assign_sc _ ?_)|(with_reducible apply ta_s_a)|(with_reducible apply ta_s_u)|(with_reducible apply ta_s_w)|(with_reducible apply ta_f_a)|(with_reducible apply ta_f_u)|(with_reducible apply ta_f_w)|refine Vc.stp ?_|refine Vc.spl ?_ ?_)<;>(intros;(conv=>whnf)))))
   exact⟨rfl,hx1.only,fun h=>by cases h⟩
  |true=>
   obtain⟨p,rfl⟩:=(hv:ConfV v)
   ((conv=>whnf);repeat(any_goals((first|(refine(typeOf_c _ _).mono ?_;rintro _ _ ⟨rfl,rfl⟩)|(refine assign_cc _ ?_)|(refine(elemV_c vb ⟨tb,0,none⟩ _ ht1.cell).mono ?_;rintro _ _ ⟨rfl,rfl⟩)|(refine(valueOfE_c (some p) _).mono ?_;rintro _ H2 ⟨rfl,hb2,hs2,hx2⟩;have hz2:=hx2.size)|refine Vc.stp ?_|refine Vc.spl ?_ ?_)<;>(intros;(conv=>whnf)))))
   have hc2:hcell H2 ⟨H1.size,0,none⟩=some (.pointer (some p)):=by rw[hb2.cell];rfl
   ((conv=>whnf);repeat(any_goals((first|(refine(set_c (some p) tb ⟨H1.size,0,none⟩ old _ hc2 (ht1.blk.ext hx2)).mono ?_;rintro _ H3 ⟨rfl,hs3,hb3,hx3⟩;have hz3:=hx3.size)|refine Vc.stp ?_|refine Vc.spl ?_ ?_)<;>(intros;(conv=>whnf)))))
   exact⟨rfl,Only.trans (hx1.trans hx2).only hx3 fun _ _ h=>h,fun _=>⟨p,hb3⟩⟩
set_option maxHeartbeats 1000000 in
theorem easc_any (b:Bool) {H:Heap} {v:Value} {tb:Nat} {old:Value} (hg:Glb H) (h:ErrA H b v) (ht:Blk H tb #[old] 165):CallH Tryz.prog 121 [v,.iface 167 (.pointer (some ⟨tb,0,none⟩))] H fun u H'=>AsR H H' tb b u:=by
 obtain⟨ty,pl,rfl⟩:=h.iface
 have hlt:=ht.lt
 have get:=hg.et
 refine Vc.CallH.body Tryz.func121 Tryz.call121 rfl (by decide+kernel) rfl ?_
 ((conv=>whnf);repeat(any_goals((first|(refine(valueOf_c ⟨tb,0,none⟩ _).mono ?_;rintro _ H1 ⟨rfl,hb1,hs1,hx1⟩;have hz1:=hx1.size)|(refine(typeV_c _ _).mono ?_;rintro _ _ ⟨rfl,rfl⟩)|(refine kind_c _ ?_)|(refine kindE_c _ ?_)|(refine elemT_c _ ?_)|(refine implements_c _ ?_)|(refine(isNil_c _ ⟨tb,0,none⟩ _ (Go.Vc.hcell_keep (show hcell H1 ⟨H.size,0,none⟩=some (.pointer (some ⟨tb,0,none⟩))by rw[hb1.cell];rfl) (show Ext H1 _ by exact Vc.xt) id)).mono ?_;rintro _ _ ⟨rfl,rfl⟩)|refine Vc.stp ?_|refine Vc.spl ?_ ?_)<;>(intros;(conv=>whnf)))))
 rename_i H2 hs2 hb2 hx2 H3 hs3 hb3 hx3
 have k13:Ext H1 H3:=by exact Vc.xt
 have k3:Ext H H3:=hx1.trans k13
 refine(asc_any b H3 _ tb ⟨H.size,0,none⟩ old (h.ext k3) ⟨hcell_keep (show hcell H1 ⟨H.size,0,none⟩=some (.pointer (some ⟨tb,0,none⟩))by rw[hb1.cell];rfl) k13 id,ht.ext k3,by show H.size≠tb;omega⟩).mono ?_
 rintro _ H4 ⟨rfl,hx4,hb4⟩
 ((conv=>whnf);repeat(any_goals((first|refine Vc.stp ?_|refine Vc.spl ?_ ?_)<;>(intros;(conv=>whnf)))))
 exact⟨rfl,Only.trans k3.only hx4 fun _ _ h=>h,hb4⟩
end Go.Proofs.YtjdieklgoepdjaaGreatDoor
namespace Go.Proofs.YtjdieklgoepdjaaGreatDoor
open Go Go.Vc Go.Scr Go.Slv
abbrev searchB (H:Heap) (x:SrC) (left:Int):Prop:=Blk H x.S #[.slice x.ra x.R.length x.rc,.slice x.na x.N.length x.nc,.map (some x.B),.map (some x.F),.map (some x.C),.map (some x.A),.int .i64 left,.bool x.free] 157
set_option maxHeartbeats 2000000 in
theorem fits1_any (x:SrC) (hB:SrB x) {H0 Hs H:Heap} {base:Nat} {f:Fix} {c:Cho} {g:Txt→List SpnP} {left:Int} (hS:SrO x H0 base Hs f c g left) (k:Ext Hs H) (i:Nat) (r:RowP) (hr:x.R[i]? =some r) (s:SpnP) (cs:List Value) (hc:spnE Hs s cs) (hsb:SpnB s) (g1 g2:Nat)
  (h1:Blk H g1 #[.pointer (some ⟨x.S,0,none⟩)] 115) (h2:Blk H g2 #[.int .i64 i] 3):
  CallH Tryz.prog 205 [.agg cs.toArray,.pointer (some ⟨g1,0,none⟩),.pointer (some ⟨g2,0,none⟩)] H fun v H'=>v= .bool (!hasP s r.v)∧Ext H H':=by
 obtain⟨sa,sc,rfl,hsl,hsr⟩:=hc
 have hblk:searchB H x left:=hS.blk.ext k
 have hk0:Ext H0 H:=hS.h0.trans k
 have hvb:=rows_ver hB.rows r (List.mem_of_getElem? hr)
 refine Vc.CallH.body Tryz.func205 Tryz.call205 rfl (by decide+kernel) rfl ?_
 ((conv=>whnf);repeat(any_goals((first|(refine IdxA.el row_ok (by decide) hS.rows rfl i r rfl hr ?_;intro b o c hcR hcl;obtain⟨pa,pc,na,nc,ec,h32,hpl,hpr,hnl2,hnr⟩:=(id hcR);have hcn:hcell H0 ⟨b,o+0,none⟩=some (Value.string (mkS r.name)):=hcl 0 _ (by rw[ec];rfl);have hcv:=(fun k u hu=>(by rw[Nat.add_assoc,Nat.add_comm 1 k];exact hcl (k+1) u (row_ver ec k u hu)): ∀ (k:Nat) (u:Value),([.int .i64 r.v.ma,.int .i64 r.v.mi,.int .i64 r.v.pa,.slice pa r.v.pre.length pc]:List Value)[k]? =some u→hcell H0 ⟨b,o+1+k,none⟩=some u))|((with_reducible apply SemH.load_ver);(exact hcv);(exact hk0.trans (by exact Vc.xt));(conv=>whnf))|(refine(has_any s r.v hsb hvb sa _ sc _ Hs _ (k.trans (by exact Vc.xt)) hsr rfl (verO_of hpl (hpr.ext (hk0.trans (by exact Vc.xt))))).mono ?_;rintro _ H4 ⟨rfl,hx4⟩;have hz4:=hx4.size)|refine Vc.stp ?_)<;>(intros;(conv=>whnf)))))
 exact⟨rfl,by exact Vc.xt⟩
theorem any_not_has (l:List SpnP) (v:VerP):l.any (fun s=> !hasP s v)= !(l.all fun s=>hasP s v):=by
 induction l with
 |nil=>rfl
 |cons b l ih=>rw[List.any_cons,List.all_cons,ih,Bool.not_and]
set_option maxHeartbeats 4000000 in
theorem fits_any (x:SrC) (hB:SrB x) {H0 H:Heap} {base:Nat} {f:Fix} {c:Cho} {g:Txt→List SpnP} {left:Int} (hS:SrO x H0 base H f c g left) (i:Nat) (r:RowP) (hr:x.R[i]? =some r):
  CallH Tryz.prog 199 [.pointer (some ⟨x.S,0,none⟩),.int .i64 i] H fun v H'=>v= .bool (fitsB x.R f g i)∧Ext H H':=by
 have hblk:searchB H x left:=hS.blk
 have hk0:Ext H0 H:=hS.h0
 have hil:i<x.R.length:=(List.getElem?_eq_some_iff.1 hr).1
 obtain⟨lf,hmf,hlf⟩:=hS.fix
 obtain⟨la,hA,hKa⟩:=hS.ask
 obtain⟨aa,ac,eA,hoA⟩:=hA.val r.name
 have hfb:fitsB x.R f g i=(okF f r.name i&&(g r.name).all fun s=>hasP s r.v):=by unfold fitsB;rw[nameR_at hr,verR_at hr]
 rw[hfb]
 have hlens:=hS.lens r.name
 have hrE:RowE spnE H aa (g r.name):=(hoA.unconst spn_okE hk0).row
 have hlfn:=hlf r.name
 refine Vc.CallH.body Tryz.func199 Tryz.call199 rfl (by decide+kernel) rfl ?_
 ((conv=>whnf);repeat(any_goals((first|refine Vc.stp ?_)<;>(intros;(conv=>whnf)))))
 rename_i H1 z1 b1 x1 H2 z2 b2 x2
 have b12:Blk H2 H.size #[.pointer (some ⟨x.S,0,none⟩)] 115:=b1.ext x2
 have b22:Blk H2 H1.size #[.int .i64 i] 3:=b2
 have hx02:=x1.trans x2
 have c1:=fun H' (k:Ext H2 H')=>cospan_any (g r.name) (fun s=> !hasP s r.v) 205 (.pointer (some ⟨H.size,0,none⟩)) (.pointer (some ⟨H1.size,0,none⟩)) aa _ ac H H' (hx02.trans k) hrE rfl (by omega) fun s cs H'' hs hc hk=>fits1_any x hB hS (hx02.trans (k.trans hk)) i r hr s cs hc (hS.spans _ s hs) H.size H1.size (b12.ext (k.trans hk)) (b22.ext (k.trans hk))
 rw[any_not_has]at c1
 obtain⟨Z,hZ⟩: ∃ Z,((g r.name).all fun s=>hasP s r.v)=Z:=⟨_,rfl⟩
 rw[hZ]at c1 ⊢
 cases hf:f r.name with
 |none=>
  have e1:mget lf r.name=none:=by rw[hlfn];unfold fixI;rw[hf];rfl
  have e2:okF f r.name i=true:=by unfold okF;rw[hf]
  rw[e2]
  ((conv=>whnf);repeat(any_goals((first|(refine IdxA.el row_ok (by decide) hS.rows rfl i r rfl hr ?_;intro b o c hcR hcl;obtain⟨pa,pc,na,nc,ec,h32,hpl,hpr,hnl2,hnr⟩:=(id hcR);have hcn:hcell H0 ⟨b,o+0,none⟩=some (Value.string (mkS r.name)):=hcl 0 _ (by rw[ec];rfl);have hcv:=(fun k u hu=>(by rw[Nat.add_assoc,Nat.add_comm 1 k];exact hcl (k+1) u (row_ver ec k u hu)): ∀ (k:Nat) (u:Value),([.int .i64 r.v.ma,.int .i64 r.v.mi,.int .i64 r.v.pa,.slice pa r.v.pre.length pc]:List Value)[k]? =some u→hcell H0 ⟨b,o+1+k,none⟩=some u))|((with_reducible apply SemH.lookNone);(exact hmf.ext (by exact Vc.xt));(exact e1);rfl;rfl;rfl;rfl;(conv=>whnf))|((with_reducible apply SemH.lookV);(exact hA.map.ext (by exact Vc.xt));rfl;rfl;rfl;rfl;(exact eA);(conv=>whnf))|(refine SemH.mkFunc ?_)|(refine(c1 _ (by exact Vc.xt)).mono ?_;rintro _ H4 ⟨rfl,hx4⟩;have hz4:=hx4.size)|(first|(with_reducible refine Vc.DrawH.lin (id:=4) mixed ?_)|(with_reducible refine Vc.DrawL.split (es:=[]) 12 13 (by decide) (by decide) (by decide) ?_ ?_)|(with_reducible refine Vc.DrawL.held (es:=[(12,13)]) [0,1,2,3,4,5,6,7,8,9,10,11,12,13,14,15,16] [] (by decide+kernel) ?_)|(with_reducible refine Vc.DrawL.held (es:=[(13,12)]) [0,1,2,3,4,5,6,7,8,9,10,11,13,12,14,15,16] [(13,[0,3,4,7,8,11])] (by decide+kernel) ?_))|refine Vc.stp ?_)<;>(intros;(conv=>whnf)))))
  all_goals exact⟨by cases Z<;>rfl,by exact Vc.xt⟩
 |some y=>
  have e1:mget lf r.name=some (.int .i64 (canI y)):=by rw[hlfn];unfold fixI;rw[hf];rfl
  by_cases hy:y=some i
  ·have e2:okF f r.name i=true:=by unfold okF;rw[hf];exact decide_eq_true hy
   rw[e2]
   have e3:canI y=i:=by rw[hy];rfl
   rw[e3]at e1
   ((conv=>whnf);repeat(any_goals((first|(refine IdxA.el row_ok (by decide) hS.rows rfl i r rfl hr ?_;intro b o c hcR hcl;obtain⟨pa,pc,na,nc,ec,h32,hpl,hpr,hnl2,hnr⟩:=(id hcR);have hcn:hcell H0 ⟨b,o+0,none⟩=some (Value.string (mkS r.name)):=hcl 0 _ (by rw[ec];rfl);have hcv:=(fun k u hu=>(by rw[Nat.add_assoc,Nat.add_comm 1 k];exact hcl (k+1) u (row_ver ec k u hu)): ∀ (k:Nat) (u:Value),([.int .i64 r.v.ma,.int .i64 r.v.mi,.int .i64 r.v.pa,.slice pa r.v.pre.length pc]:List Value)[k]? =some u→hcell H0 ⟨b,o+1+k,none⟩=some u))|((with_reducible apply SemH.lookSome);(exact hmf.ext (by exact Vc.xt));(exact e1);rfl;rfl;rfl;rfl;(conv=>whnf))|((with_reducible apply SemH.lookV);(exact hA.map.ext (by exact Vc.xt));rfl;rfl;rfl;rfl;(exact eA);(conv=>whnf))|(refine SemH.mkFunc ?_)|(refine(c1 _ (by exact Vc.xt)).mono ?_;rintro _ H4 ⟨rfl,hx4⟩;have hz4:=hx4.size)|(first|(with_reducible refine Vc.DrawH.lin (id:=4) mixed ?_)|(with_reducible refine Vc.DrawL.split (es:=[]) 12 13 (by decide) (by decide) (by decide) ?_ ?_)|(with_reducible refine Vc.DrawL.held (es:=[(12,13)]) [0,1,2,3,4,5,6,7,8,9,10,11,12,13,14,15,16] [] (by decide+kernel) ?_)|(with_reducible refine Vc.DrawL.held (es:=[(13,12)]) [0,1,2,3,4,5,6,7,8,9,10,11,13,12,14,15,16] [(13,[0,3,4,7,8,11])] (by decide+kernel) ?_))|refine Vc.stp ?_)<;>(intros;(conv=>whnf)))))
   all_goals exact⟨by cases Z<;>rfl,by exact Vc.xt⟩
  ·have e2:okF f r.name i=false:=by unfold okF;rw[hf];exact decide_eq_false hy
   rw[e2]
   have e3:canI y≠i:=by
    cases y with
    |none=>show(-1:Int)≠(i:Int);omega
    |some j=>intro e;exact hy (by have:(j:Int)=i:=e;congr 1;omega)
   obtain⟨q,hq⟩: ∃ q,canI y=q:=⟨_,rfl⟩
   rw[hq]at e1 e3
   ((conv=>whnf);repeat(any_goals((first|(refine IdxA.el row_ok (by decide) hS.rows rfl i r rfl hr ?_;intro b o c hcR hcl;obtain⟨pa,pc,na,nc,ec,h32,hpl,hpr,hnl2,hnr⟩:=(id hcR);have hcn:hcell H0 ⟨b,o+0,none⟩=some (Value.string (mkS r.name)):=hcl 0 _ (by rw[ec];rfl);have hcv:=(fun k u hu=>(by rw[Nat.add_assoc,Nat.add_comm 1 k];exact hcl (k+1) u (row_ver ec k u hu)): ∀ (k:Nat) (u:Value),([.int .i64 r.v.ma,.int .i64 r.v.mi,.int .i64 r.v.pa,.slice pa r.v.pre.length pc]:List Value)[k]? =some u→hcell H0 ⟨b,o+1+k,none⟩=some u))|((with_reducible apply SemH.lookSome);(exact hmf.ext (by exact Vc.xt));(exact e1);rfl;rfl;rfl;rfl;(conv=>whnf))|(first|(with_reducible refine Vc.DrawH.lin (id:=4) mixed ?_)|(with_reducible refine Vc.DrawL.split (es:=[]) 12 13 (by decide) (by decide) (by decide) ?_ ?_)|(with_reducible refine Vc.DrawL.held (es:=[(12,13)]) [0,1,2,3,4,5,6,7,8,9,10,11,12,13,14,15,16] [] (by decide+kernel) ?_)|(with_reducible refine Vc.DrawL.held (es:=[(13,12)]) [0,1,2,3,4,5,6,7,8,9,10,11,13,12,14,15,16] [(13,[0,3,4,7,8,11])] (by decide+kernel) ?_))|refine Vc.stp ?_)<;>(intros;(conv=>whnf)))))
   all_goals exact⟨rfl,by exact Vc.xt⟩
theorem filter_take {α:Type} {l:List α} {p:α→Bool} {i:Nat} {x:α} (h:l[i]? =some x):(l.take (i+1)).filter p=if p x=true then(l.take i).filter p++[x]else(l.take i).filter p:=by
 rw[List.take_add_one,h,List.filter_append]
 by_cases e:p x=true
 ·rw[if_pos e];simp[e]
 ·rw[if_neg e];simp[e]
theorem candsF_len (R:List RowP) (k:Bs) (n:Nat):(candsF R k n).length≤n:=by
 have:=versF_len R k n
 unfold versF at this
 rwa[List.length_map]at this
theorem nm_snoc {H:Heap} {b:Nat} {e:TypeId} {a:Option Addr} {n cap:Nat} {l:List Nat} {x:Nat} (h:Own H b e 1 a (n+1) cap (nmV l++[.int .i64 (x:Int)])):Own H b e 1 a (n+1) cap (nmV (l++[x])):=by
 unfold nmV at*
 rw[List.map_append];exact h
structure MyS where
 i:Nat
 a:Option Addr
 cap:Nat
set_option maxHeartbeats 4000000 in
theorem may_any (x:SrC) (hB:SrB x) {H0 H:Heap} {base:Nat} {f:Fix} {c:Cho} {g:Txt→List SpnP} {left:Int} (hS:SrO x H0 base H f c g left) (k:Bs):
  CallH Tryz.prog 187 [.pointer (some ⟨x.S,0,none⟩),.string (mkS k)] H fun v H'=>(∃ a cap,v= .slice a ((candsF x.R k x.R.length).filter (fitsB x.R f g)).length cap∧OwnE natE 1 H' H.size 3 a ((candsF x.R k x.R.length).filter (fitsB x.R f g)) cap)∧Ext H H':=by
 have hblk:searchB H x left:=hS.blk
 obtain⟨lb,hmb,hlb⟩:=hS.by_
 obtain⟨ba,bc,eB,hbc,hbr⟩:=hlb k
 have hcl:=candsF_len x.R k x.R.length
 have hln:=hB.len
 have hmem:=fun i=>cands_mem x.R k x.R.length i
 obtain⟨C,hC⟩: ∃ C,candsF x.R k x.R.length=C:=⟨_,rfl⟩
 rw[hC]at eB hbc hbr hcl hmem ⊢
 have hrE:RowE natE H ba C:=⟨_,hbr.row,lst_nats H C⟩
 refine Vc.CallH.body Tryz.func187 Tryz.call187 rfl (by decide+kernel) rfl ?_
 ((conv=>whnf);repeat(any_goals((first|((with_reducible apply SemH.lookV);(exact hmb.ext (by exact Vc.xt));rfl;rfl;rfl;rfl;(exact eB);(conv=>whnf))|refine Vc.stp ?_)<;>(intros;(conv=>whnf)))))
 refine LoopH.intro (fun(s:MyS)=>[(15,.int .i64 s.i),(5,.slice s.a ((C.take s.i).filter (fitsB x.R f g)).length s.cap)]) (fun s H'=>s.i≤C.length∧Own H' H.size 3 1 s.a ((C.take s.i).filter (fitsB x.R f g)).length s.cap (nmV ((C.take s.i).filter (fitsB x.R f g)))∧Ext H H') (fun s=>C.length-s.i) ⟨0,none,0⟩ ⟨rfl,rfl,trivial⟩ ⟨Nat.zero_le _,Own.nil _ _ _ _,Ext.refl _⟩ ?_
 rintro⟨i,oa,oc⟩ H1 ⟨hi,ho1,hx1⟩
 dsimp only at hi ho1 ⊢
 have hz1:=hx1.size
 have hfl:=List.length_filter_le (fitsB x.R f g) (C.take i)
 rw[List.length_take]at hfl
 by_cases hlt:i<C.length
 ·obtain⟨y,hy⟩: ∃ y,C[i]? =some y:=⟨_,List.getElem?_eq_getElem hlt⟩
  obtain⟨_,r,hr,hrk⟩:=(hmem y).1 (List.mem_of_getElem? hy)
  have hft:=filter_take (p:=fitsB x.R f g) hy
  have hfit:=fun H' (k':Ext H H')=>fits_any x hB (hS.ext k') y r hr
  obtain⟨l,hl⟩: ∃ l,(C.take i).filter (fitsB x.R f g)=l:=⟨_,rfl⟩
  rw[hl]at hft ho1 hfl ⊢
  cases hb:fitsB x.R f g y with
  |true=>
   rw[hb]at hfit hft
   rw[if_pos rfl]at hft
   ((conv=>whnf);repeat(any_goals((first|(refine IdxA.el nat_okT.ok (by decide) hrE rfl i y rfl hy ?_;intro b o cc hcc hcl2;have hc0:hcell H ⟨b,o,none⟩=some (Value.int .i64 (y:Int)):=(by have:=hcl2 0 _ (by rw[hcc];rfl);exact this))|(refine(hfit _ (hx1.trans (by exact Vc.xt))).mono ?_;rintro _ H2 ⟨rfl,hx2⟩;have hz2:=hx2.size)|((fail_if_success (have:=hw6));rename_i Hm zm bm xm;refine NextH.push1b bm (ho1.ext (by exact Vc.xt)) (by omega) (by omega) rfl ⟨_,rfl,fun _ h=>by cases h⟩ rfl rfl rfl rfl rfl rfl rfl ?_;intro a6 c6 H6 ho6 hz6 hw6)|refine Vc.stp ?_)<;>(intros;(conv=>whnf)))))
   have hln2:(l++[y]).length=l.length+1:=by simp
   exact⟨⟨i+1,a6,c6⟩,⟨rfl,by show Value.slice _ _ _=Value.slice _ (List.filter _ _).length _;rw[hft,hln2],trivial⟩,⟨hlt,by dsimp only;rw[hft,hln2];exact nm_snoc ho6,ext_wrO (hx1.trans (show Ext H1 Hm by exact Vc.xt)) (fun p hp=>ho1.block p hp) hw6⟩,by show C.length-(i+1)<C.length-i;omega⟩
  |false=>
   rw[hb]at hfit hft
   rw[if_neg (by simp)]at hft
   ((conv=>whnf);repeat(any_goals((first|(refine IdxA.el nat_okT.ok (by decide) hrE rfl i y rfl hy ?_;intro b o cc hcc hcl2;have hc0:hcell H ⟨b,o,none⟩=some (Value.int .i64 (y:Int)):=(by have:=hcl2 0 _ (by rw[hcc];rfl);exact this))|(refine(hfit _ (hx1.trans (by exact Vc.xt))).mono ?_;rintro _ H2 ⟨rfl,hx2⟩;have hz2:=hx2.size)|refine Vc.stp ?_)<;>(intros;(conv=>whnf)))))
   exact⟨⟨i+1,oa,oc⟩,⟨rfl,by show Value.slice _ _ _=Value.slice _ (List.filter _ _).length _;rw[hft],trivial⟩,⟨hlt,by dsimp only;rw[hft];exact ho1.ext hx2,hx1.trans hx2⟩,by show C.length-(i+1)<C.length-i;omega⟩
 ·obtain rfl:i=C.length:=by omega
  rw[List.take_length]at ho1 ⊢
  ((conv=>whnf);repeat(any_goals((first|refine Vc.stp ?_)<;>(intros;(conv=>whnf)))))
  exact⟨⟨oa,oc,rfl,Own.natE ho1 rfl⟩,hx1⟩
def NextR (x:SrC) (f:Fix) (c:Cho) (g:Txt→List SpnP) (H':Heap) (v:Value):Prop:=∃ nm rows a cap found,v= .tuple #[.string (mkS nm),.slice a rows.length cap,.bool found]∧RowL natE 3 H' a rows∧rows.length≤cap∧
 (found=true→c nm=none∧g nm≠ []∧rows=(candsF x.R nm x.R.length).filter (fitsB x.R f g))∧(found=false→ ∀ k,g k≠ []→c k≠none)
structure NxS where
 i:Nat
 nm:Bs
 rows:List Nat
 a:Option Addr
 cap:Nat
 found:Bool
set_option maxHeartbeats 4000000 in
theorem next_any (x:SrC) (hB:SrB x) {H0 H:Heap} {base:Nat} {f:Fix} {c:Cho} {g:Txt→List SpnP} {left:Int} (hS:SrO x H0 base H f c g left):
  CallH Tryz.prog 158 [.pointer (some ⟨x.S,0,none⟩)] H fun v H'=>NextR x f c g H' v∧Ext H H':=by
 have hblk:searchB H x left:=hS.blk
 obtain⟨la,hA,hKa⟩:=hS.ask
 have hll:la.length≤201000:=by
  have h1:=nodup_len hA.map.nodup hKa
  have h2:=allU_len hB.rows.needs hB.len hB.nlen (N:=x.N)
  rw[List.length_map]at h1
  omega
 obtain⟨lc,hmc,hlc⟩:=hS.cho
 refine Vc.CallH.body Tryz.func158 Tryz.call158 rfl (by decide+kernel) rfl ?_
 ((conv=>whnf);repeat(any_goals((first|(refine(keysA_any x.A _).mono ?_;rintro _ H1 ⟨rfl,hb1,hz1,hx1⟩)|(refine(sorted_any _ Tryz.call198 H.size x.A _ la (givesA _ _ _) (by omega) H1 hb1 (hA.map.ext hx1)).mono ?_;rintro _ H2 ⟨⟨ks,ka,kc,rfl,hks,hkm,hkl,hko⟩,hx2⟩;have hz2:=hx2.size)|refine Vc.stp ?_)<;>(intros;(conv=>whnf)))))
 have hx02:=hx1.trans hx2
 refine LoopH.intro (fun(s:NxS)=>[(20,.int .i64 s.i),(5,.string (mkS s.nm)),(6,.slice s.a s.rows.length s.cap),(7,.bool s.found)]) (fun s H'=>s.i≤ks.length∧RowL natE 3 H' s.a s.rows∧s.rows.length≤s.cap∧s.rows.length≤200∧(s.found=true→c s.nm=none∧g s.nm≠ []∧s.rows=(candsF x.R s.nm x.R.length).filter (fitsB x.R f g))∧(s.found=false→ ∀ j k,j<s.i→ks[j]? =some k→g k≠ []→c k≠none)∧Ext H2 H') (fun s=>ks.length-s.i) ⟨0,[],[],none,0,false⟩ ⟨rfl,rfl,rfl,rfl,trivial⟩ ⟨Nat.zero_le _,RowL.nil _ _ _ _,Nat.le_refl _,Nat.zero_le _,fun h=>(by cases h),fun _ j k h=>absurd h (Nat.not_lt_zero _),Ext.refl _⟩ ?_
 rintro⟨i,nm,rows,ra,rc,found⟩ H3 ⟨hi,hrw,hrc,hrl,hft,hff,hx3⟩
 dsimp only at hi hrw hrc hrl hft hff ⊢
 have hz3:=hx3.size
 by_cases hlt:i<ks.length
 ·obtain⟨k,hk⟩: ∃ k,ks[i]? =some k:=⟨_,List.getElem?_eq_getElem hlt⟩
  have hkr:Row H2 ka (strs ks):=hko.row
  obtain⟨aa,ac,eA,hoA⟩:=hA.val k
  have hck:=hlc k
  have hcl:=candsF_len x.R k x.R.length
  have hcf:=List.length_filter_le (fitsB x.R f g) (candsF x.R k x.R.length)
  have hBl:=hB.len
  have hnx: ∀ (h:g k≠ []→c k≠none),found=false→ ∀ j k',j<i+1→ks[j]? =some k'→g k'≠ []→c k'≠none:=fun h hf j k' hj hk'=>by
   by_cases e:j=i
   ·subst e;rw[hk]at hk';cases hk';exact h
   ·exact hff hf j k' (by omega) hk'
  have hmay:=fun H' (k':Ext H H')=>may_any x hB (hS.ext k') k
  have hx03:=And.intro trivial (hx02.trans hx3)
  have hlens:=hS.lens k
  cases hc:c k with
  |some j=>
   have e1:mget lc k=some (.int .i64 (j:Int)):=by rw[hck];unfold choI;rw[hc];rfl
   ((conv=>whnf);repeat(any_goals((first|(refine IdxA.strv hkr rfl i k rfl hk ?_;intro _ _ _ _ _)|((with_reducible apply SemH.lookSome);(focus((exact hmc.ext (hx03.2.trans (by exact Vc.xt)))));(exact e1);rfl;rfl;rfl;rfl;(conv=>whnf))|refine Vc.stp ?_)<;>(intros;(conv=>whnf)))))
   all_goals exact⟨⟨i+1,nm,rows,ra,rc,found⟩,⟨rfl,rfl,rfl,rfl,trivial⟩,⟨hlt,hrw,hrc,hrl,hft,hnx (fun _=>by rw[hc];simp),hx3⟩,by show ks.length-(i+1)<ks.length-i;omega⟩
  |none=>
   have e1:mget lc k=none:=by rw[hck];unfold choI;rw[hc];rfl
   by_cases hg0:g k=[]
   ·have hgl:(g k).length=0:=by rw[hg0];rfl
    ((conv=>whnf);repeat(any_goals((first|(refine IdxA.strv hkr rfl i k rfl hk ?_;intro _ _ _ _ _)|((with_reducible apply SemH.lookNone);(focus((exact hmc.ext (hx03.2.trans (by exact Vc.xt)))));(exact e1);rfl;rfl;rfl;rfl;(conv=>whnf))|((with_reducible apply SemH.lookV);(focus((exact hA.map.ext (hx03.2.trans (by exact Vc.xt)))));rfl;rfl;rfl;rfl;(exact eA);(conv=>whnf))|refine Vc.stp ?_)<;>(intros;(conv=>whnf)))))
    all_goals exact⟨⟨i+1,nm,rows,ra,rc,found⟩,⟨rfl,rfl,rfl,rfl,trivial⟩,⟨hlt,hrw,hrc,hrl,hft,hnx (fun h=>absurd hg0 h),hx3⟩,by show ks.length-(i+1)<ks.length-i;omega⟩
   ·have hgl:0<(g k).length:=List.length_pos_iff.2 hg0
    obtain⟨M,hM⟩: ∃ M,(candsF x.R k x.R.length).filter (fitsB x.R f g)=M:=⟨_,rfl⟩
    rw[hM]at hmay hcf
    by_cases htk:found=false∨M.length<rows.length
    ·cases found
     ·((conv=>whnf);repeat(any_goals((first|(refine IdxA.strv hkr rfl i k rfl hk ?_;intro _ _ _ _ _)|((with_reducible apply SemH.lookNone);(focus((exact hmc.ext (hx03.2.trans (by exact Vc.xt)))));(exact e1);rfl;rfl;rfl;rfl;(conv=>whnf))|((with_reducible apply SemH.lookV);(focus((exact hA.map.ext (hx03.2.trans (by exact Vc.xt)))));rfl;rfl;rfl;rfl;(exact eA);(conv=>whnf))|(refine(hmay _ (hx03.2.trans (by exact Vc.xt))).mono ?_;rintro _ H4 ⟨⟨ma,mc,rfl,hom⟩,hx4⟩;have hz4:=hx4.size)|refine Vc.stp ?_)<;>(intros;(conv=>whnf)))))
      all_goals exact⟨⟨i+1,k,M,ma,mc,true⟩,⟨rfl,rfl,rfl,rfl,trivial⟩,⟨hlt,RowL.ext nat_okT hom.rowL (by exact Vc.xt),hom.cap_le,by show M.length≤200;omega,fun _=>⟨hc,hg0,hM.symm⟩,fun h=>(by cases h),hx3.trans (by exact Vc.xt)⟩,by show ks.length-(i+1)<ks.length-i;omega⟩
     ·have hml:M.length<rows.length:=htk.resolve_left (by simp)
      ((conv=>whnf);repeat(any_goals((first|(refine IdxA.strv hkr rfl i k rfl hk ?_;intro _ _ _ _ _)|((with_reducible apply SemH.lookNone);(focus((exact hmc.ext (hx03.2.trans (by exact Vc.xt)))));(exact e1);rfl;rfl;rfl;rfl;(conv=>whnf))|((with_reducible apply SemH.lookV);(focus((exact hA.map.ext (hx03.2.trans (by exact Vc.xt)))));rfl;rfl;rfl;rfl;(exact eA);(conv=>whnf))|(refine(hmay _ (hx03.2.trans (by exact Vc.xt))).mono ?_;rintro _ H4 ⟨⟨ma,mc,rfl,hom⟩,hx4⟩;have hz4:=hx4.size)|refine Vc.stp ?_)<;>(intros;(conv=>whnf)))))
      all_goals exact⟨⟨i+1,k,M,ma,mc,true⟩,⟨rfl,rfl,rfl,rfl,trivial⟩,⟨hlt,RowL.ext nat_okT hom.rowL (by exact Vc.xt),hom.cap_le,by show M.length≤200;omega,fun _=>⟨hc,hg0,hM.symm⟩,fun h=>(by cases h),hx3.trans (by exact Vc.xt)⟩,by show ks.length-(i+1)<ks.length-i;omega⟩
    ·rw[not_or]at htk
     have hft':found=true:=by simpa using htk.1
     subst hft'
     have hml: ¬M.length<rows.length:=htk.2
     ((conv=>whnf);repeat(any_goals((first|(refine IdxA.strv hkr rfl i k rfl hk ?_;intro _ _ _ _ _)|((with_reducible apply SemH.lookNone);(focus((exact hmc.ext (hx03.2.trans (by exact Vc.xt)))));(exact e1);rfl;rfl;rfl;rfl;(conv=>whnf))|((with_reducible apply SemH.lookV);(focus((exact hA.map.ext (hx03.2.trans (by exact Vc.xt)))));rfl;rfl;rfl;rfl;(exact eA);(conv=>whnf))|(refine(hmay _ (hx03.2.trans (by exact Vc.xt))).mono ?_;rintro _ H4 ⟨⟨ma,mc,rfl,hom⟩,hx4⟩;have hz4:=hx4.size)|refine Vc.stp ?_)<;>(intros;(conv=>whnf)))))
     all_goals exact⟨⟨i+1,nm,rows,ra,rc,true⟩,⟨rfl,rfl,rfl,rfl,trivial⟩,⟨hlt,RowL.ext nat_okT hrw (by exact Vc.xt),hrc,hrl,hft,fun h=>(by cases h),hx3.trans (by exact Vc.xt)⟩,by show ks.length-(i+1)<ks.length-i;omega⟩
 ·obtain rfl:i=ks.length:=by omega
  ((conv=>whnf);repeat(any_goals((first|refine Vc.stp ?_)<;>(intros;(conv=>whnf)))))
  refine⟨⟨nm,rows,ra,rc,found,rfl,hrw,hrc,hft,fun hf k hk=> ?_⟩,hx02.trans hx3⟩
  have hks2:k∈ks:=(hkm k).2 (by
   obtain⟨aa,ac,eA,hoA⟩:=hA.val k
   cases e:mget la k with
   |some u=>exact⟨u,rfl⟩
   |none=>
    rw[e]at eA
    exfalso
    have e3:Value.slice none 0 0= .slice aa (g k).length ac:=eA
    injection e3 with _ e4 _
    exact hk (List.eq_nil_of_length_eq_zero e4.symm))
  obtain⟨j,hj⟩:=List.getElem?_of_mem hks2
  exact hff hf j k (List.getElem?_eq_some_iff.1 hj).1 hj hk
theorem SrO.writes {x:SrC} {H0 H:Heap} {base:Nat} {f:Fix} {c:Cho} {g:Txt→List SpnP} {left:Int} (h:SrO x H0 base H f c g left) {b:Nat} {cc:Array Value} {u:TypeId} (hb:b=x.S∨b=x.C∨b=x.A∨b=x.F) (hk:Blk H b cc u):u=157:=by
 rcases hb with rfl|rfl|rfl|rfl
 ·exact hk.typ h.blk
 ·obtain⟨l,hm,_⟩:=h.cho;exact absurd rfl (hm.ne hk)
 ·obtain⟨l,hm,_⟩:=h.ask;exact absurd rfl (hm.map.ne hk)
 ·obtain⟨l,hm,_⟩:=h.fix;exact absurd rfl (hm.ne hk)
theorem SrO.noS {x:SrC} {H0 H:Heap} {base:Nat} {f:Fix} {c:Cho} {g:Txt→List SpnP} {left:Int} (h:SrO x H0 base H f c g left):x.S≠x.C∧x.S≠x.A∧x.S≠x.F∧x.S≠x.B:=by
 obtain⟨l1,hm1,_⟩:=h.cho
 obtain⟨l2,hm2,_⟩:=h.ask
 obtain⟨l3,hm3,_⟩:=h.fix
 obtain⟨l4,hm4,_⟩:=h.by_
 exact⟨fun e=>hm1.ne h.blk e.symm,fun e=>hm2.map.ne h.blk e.symm,fun e=>hm3.ne h.blk e.symm,fun e=>hm4.ne h.blk e.symm⟩
theorem SrO.rest {x:SrC} {H0 H H':Heap} {base:Nat} {f:Fix} {c:Cho} {g:Txt→List SpnP} {left:Int} (h:SrO x H0 base H f c g left) {W:Nat→Prop} (hW: ∀ b,W b→b=x.S∨b=x.C∨b=x.A∨b=x.F) (k:Fr W base H H'):
  Ext H0 H'∧base≤H'.size∧ByO x.R H' x.B∧(¬W x.S→Blk H' x.S (srchC x left) 157)∧(¬W x.F→IntO H' x.F (fixI f))∧(¬W x.C→IntO H' x.C (choI c)):=by
 obtain⟨n1,n2,n3,n4,n5,n6⟩:=h.ne
 obtain⟨s1,s2,s3,s4⟩:=h.noS
 have hB: ¬W x.B:=fun e=>by
  rcases hW _ e with e|e|e|e
  ·exact s4 e.symm
  ·exact n1 e
  ·exact n2 e
  ·exact n6 e
 refine⟨k.old h.h0 (fun b hb=> ?_) h.sz,Nat.le_trans h.bs k.size,?_,fun hw=>k.blk h.blk hw (by decide),fun hw=> ?_,fun hw=> ?_⟩
 ·rcases hW b hb with rfl|rfl|rfl|rfl
  ·exact h.low.1
  ·exact h.low.2.1
  ·exact h.low.2.2.1
  ·exact h.low.2.2.2
 ·obtain⟨l,h1,h2⟩:=h.by_
  refine⟨l,k.map h1 hB,fun j=> ?_⟩
  obtain⟨a,cap,e,hc,r⟩:=h2 j
  refine⟨a,cap,e,hc,r.keep k fun b cc u hf hb=> ?_⟩
  rcases hf with hf|⟨_,c',hc'⟩
  ·rw[h.writes (hW b hf) hb];decide
  ·rw[hb.typ hc'];decide
 ·obtain⟨l,h1,h2⟩:=h.fix
  exact⟨l,k.map h1 hw,h2⟩
 ·obtain⟨l,h1,h2⟩:=h.cho
  exact⟨l,k.map h1 hw,h2⟩
theorem SrO.setAsk {x:SrC} {H0 H H':Heap} {base:Nat} {f:Fix} {c:Cho} {g g':Txt→List SpnP} {left:Int} (h:SrO x H0 base H f c g left) (k:Fr (fun b=>b=x.A) base H H') (ha:AskO (allU x.R x.N) H0 base H' x.A g') (hs: ∀ k,∀ s∈g' k,SpnB s) (hl: ∀ k,(g' k).length≤100000):SrO x H0 base H' f c g' left:=by
 obtain⟨n1,n2,n3,n4,n5,n6⟩:=h.ne
 obtain⟨s1,s2,s3,s4⟩:=h.noS
 obtain⟨r1,r2,r3,r4,r5,r6⟩:=h.rest (fun b hb=> .inr (.inr (.inl hb))) k
 exact⟨r1,h.glb,h.sz,r2,h.rows,h.needs,r4 s2,r3,r5 n4,r6 n5,ha,hs,hl,h.low,h.ne⟩
theorem AskO.but {K:List Txt} {H0 H H':Heap} {base A b:Nat} {g:Txt→List SpnP} (h:AskO K H0 base H A g) (k:But b H H') (hb:A≠b) (hn: ∀ c,¬Blk H b c 43):AskO K H0 base H' A g:=by
 obtain⟨l,h,hk⟩:=h
 exact⟨l,h.keep (const_ok spn_okE H0) k hb fun y c e _ hc=>hn c (by rw[←e];exact hc),hk⟩
theorem SrO.setCho {x:SrC} {H0 H H':Heap} {base:Nat} {f:Fix} {c c':Cho} {g:Txt→List SpnP} {left:Int} (h:SrO x H0 base H f c g left) (k:But x.C H H') (hc:IntO H' x.C (choI c')):SrO x H0 base H' f c' g left:=by
 obtain⟨n1,n2,n3,n4,n5,n6⟩:=h.ne
 obtain⟨s1,s2,s3,s4⟩:=h.noS
 obtain⟨r1,r2,r3,r4,r5,r6⟩:=h.rest (W:=fun b=>b=x.C) (fun b hb=> .inr (.inl hb)) (Fr.but k rfl)
 exact⟨r1,h.glb,h.sz,r2,h.rows,h.needs,r4 s1,r3,r5 n3,hc,h.ask.but k n5.symm (fun cc hcc=>by have:=h.writes (.inr (.inl rfl)) hcc;exact absurd this (by decide)),h.spans,h.lens,h.low,h.ne⟩
theorem SrO.setFix {x:SrC} {H0 H H':Heap} {base:Nat} {f f':Fix} {c:Cho} {g:Txt→List SpnP} {left:Int} (h:SrO x H0 base H f c g left) (k:But x.F H H') (hf:IntO H' x.F (fixI f')):SrO x H0 base H' f' c g left:=by
 obtain⟨n1,n2,n3,n4,n5,n6⟩:=h.ne
 obtain⟨s1,s2,s3,s4⟩:=h.noS
 obtain⟨r1,r2,r3,r4,r5,r6⟩:=h.rest (W:=fun b=>b=x.F) (fun b hb=> .inr (.inr (.inr hb))) (Fr.but k rfl)
 exact⟨r1,h.glb,h.sz,r2,h.rows,h.needs,r4 s3,r3,hf,r6 n3.symm,h.ask.but k n4.symm (fun cc hcc=>by have:=h.writes (.inr (.inr (.inr rfl))) hcc;exact absurd this (by decide)),h.spans,h.lens,h.low,h.ne⟩
theorem SrO.setLeft {x:SrC} {H0 H H':Heap} {base:Nat} {f:Fix} {c:Cho} {g:Txt→List SpnP} {left left':Int} (h:SrO x H0 base H f c g left) (k:But x.S H H') (hb:Blk H' x.S (srchC x left') 157):SrO x H0 base H' f c g left':=by
 obtain⟨n1,n2,n3,n4,n5,n6⟩:=h.ne
 obtain⟨s1,s2,s3,s4⟩:=h.noS
 obtain⟨r1,r2,r3,r4,r5,r6⟩:=h.rest (W:=fun b=>b=x.S) (fun b hb=> .inl hb) (Fr.but k rfl)
 exact⟨r1,h.glb,h.sz,r2,h.rows,h.needs,hb,r3,r5 s3.symm,r6 s1.symm,h.ask.but k s2.symm (fun cc hcc=>by have:=h.writes (.inl rfl) hcc;exact absurd this (by decide)),h.spans,h.lens,h.low,h.ne⟩
theorem keys_put {K:List Bs} {l:List (Bs×Value)} {k:Bs} {v:Value} (h: ∀ j∈l.map (·.1),j∈K) (hk:k∈K): ∀ j∈(mput l k v).map (·.1),j∈K:=by
 intro j hj
 rw[mput_keys]at hj
 split at hj
 ·rcases List.mem_append.1 hj with g|g
  ·exact h j g
  ·rw[List.mem_singleton]at g;subst g;exact hk
 ·exact h j hj
theorem asks_spans {L:List NeedP} (h: ∀ n∈L,SpnB n.span): ∀ k,∀ s∈asks L k,SpnB s:=fun k s hs=>by
 obtain⟨n,hn,_,rfl⟩:=asks_mem.1 hs
 exact h n hn
def AskR (x:SrC) (H0:Heap) (base:Nat) (f:Fix) (c:Cho) (left:Int) (L l:List NeedP) (n:Nat) (H':Heap) (v:Value):Prop:=∃ (m:Nat) (b:Bool),v= .tuple #[.int .i64 ((m:Nat):Int),.bool b]∧m≤n∧(b=true→m=n∧ ∀ nd∈l,meetsB x.R c nd=true)∧(b=false→ ∃ nd∈l.take m,meetsB x.R c nd=false)∧SrO x H0 base H' f c (asks (L++l.take m)) left
set_option maxHeartbeats 4000000 in
theorem ask_any (x:SrC) (hB:SrB x) {H0 H:Heap} {base:Nat} {f:Fix} {c:Cho} {left:Int} {L:List NeedP} (hS:SrO x H0 base H f c (asks L) left) (l:List NeedP) (a:Option Addr) (n cap:Nat) (hl:RowE needE H0 a l) (hn:l.length=n) (hnl:n≤1000) (hsp: ∀ nd∈l,SpnB nd.span) (hLs: ∀ nd∈L,SpnB nd.span) (hLn:L.length≤90000) (hcr: ∀ k i,c k=some i→ ∃ r,x.R[i]? =some r) (hlK: ∀ nd∈l,nd.name∈allU x.R x.N):
  CallH Tryz.prog 115 [.pointer (some ⟨x.S,0,none⟩),.slice a n cap] H fun v H'=>AskR x H0 base f c left L l n H' v∧Fr (fun b=>b=x.A) base H H':=by
 refine Vc.CallH.body Tryz.func115 Tryz.call115 rfl (by decide+kernel) rfl ?_
 ((conv=>whnf);repeat(any_goals((first|refine Vc.stp ?_)<;>(intros;(conv=>whnf)))))
 refine LoopH.intro (fun(i:Nat)=>[(12,.int .i64 i)]) (fun i H'=>i≤n∧SrO x H0 base H' f c (asks (L++l.take i)) left∧(∀ nd∈l.take i,meetsB x.R c nd=true)∧Fr (fun b=>b=x.A) base H H') (fun i=>n-i) 0 ⟨rfl,trivial⟩ ⟨Nat.zero_le _,by rw[List.take_zero,List.append_nil];exact hS,fun nd h=>(by rw[List.take_zero]at h;cases h),Fr.refl _ _ _⟩ ?_
 rintro i H1 ⟨hi,hS1,hmt,hf1⟩
 by_cases hlt:i<n
 ·obtain⟨nd,hnd⟩: ∃ nd,l[i]? =some nd:=⟨_,List.getElem?_eq_getElem (by omega)⟩
  have hndm:=List.mem_of_getElem? hnd
  have hblk:searchB H1 x left:=hS1.blk
  have hk1:Ext H0 H1:=hS1.h0
  obtain⟨la,hA,hKa⟩:=hS1.ask
  obtain⟨aa,ac,eA,hoA⟩:=hA.val nd.name
  obtain⟨lc,hmc,hlc⟩:=hS1.cho
  ((conv=>whnf);repeat(any_goals((first|(refine IdxA.el need_ok (by decide) hl hn i nd rfl hnd ?_;intro b o cc hcN hcl;obtain⟨sa,sc,ec,hsl,hsr⟩:=(id hcN);subst ec)|((with_reducible apply SemH.load_el);rfl;rfl;(show 4=_;exact(need_ok.len hcN).symm);(exact hcl);(exact hk1.trans (by exact Vc.xt));(conv=>whnf))|refine Vc.stp ?_)<;>(intros;(conv=>whnf)))))
  rename_i H2 z2 b2 x2 H3 z3 b3 k3
  have hx13:Ext H1 H3:=x2.but k3 (Nat.le_refl _)
  have hs3: ∀ (k:Nat) (u:Value),([.bool nd.span.any,.slice sa nd.span.or_.length sc]:List Value)[k]? =some u→hcell H3 ⟨H1.size,0+1+k,none⟩=some u:=fun k u hu=>by
   rw[b3.cell]
   match k,hu with
   |0,hu=>exact hu
   |1,hu=>exact hu
  have hln:=hS1.lens nd.name
  have hbs:=hS1.bs
  obtain⟨G,hG⟩: ∃ G,asks (L++l.take i)=G:=⟨_,rfl⟩
  rw[hG]at hA eA hoA hln hS1
  have okS:=const_ok spn_okE H0
  ((conv=>whnf);repeat(any_goals((first|((with_reducible apply SemH.lookV);(focus((exact hA.map.ext (hx13.trans (by exact Vc.xt)))));rfl;rfl;rfl;rfl;(exact eA);(conv=>whnf))|((with_reducible apply SemH.load_el);rfl;rfl;(show 2=List.length [Value.bool nd.span.any,Value.slice sa nd.span.or_.length sc];rfl);(exact hs3);(exact Vc.xt);(conv=>whnf))|((fail_if_success (have:=hw6));rename_i Hm zm bm xm;have hx1m:=hx13.trans (show Ext H3 Hm by exact Vc.xt);have hAm:=hA.ext okS hx1m;have hom:=hoA.ext okS.ok hx1m;refine NextH.appE (ws:=[.bool nd.span.any,.slice sa nd.span.or_.length sc]) (l2:=[nd.span]) okS rfl ⟨_,rfl,fun _ h=>by cases h⟩ rfl rfl rfl rfl (by decide) id hom rfl (Blk.row bm) (LstV.one ⟨sa,sc,rfl,hsl,hsr⟩) rfl (by omega) (by omega) ?_;intro a6 c6 H6 ho6 hw6 hf6;have hm6:MapO H6 x.A la:=hAm.map.keep hw6 fun⟨p,hp,e⟩=>(OwnE.not_map hom hAm.map) p hp e;have hblk6:searchB H6 x left:=(hblk.ext hx1m).keep hw6 (fun⟨p,hp,e⟩=>by obtain⟨c',hc'⟩:=hom.typ p hp;rw[e]at hc';exact absurd (hc'.typ (hblk.ext hx1m)) (by decide));have b6:=(b3.ext (show Ext H3 Hm by exact Vc.xt)).keep hw6 (fun⟨p,hp,e⟩=>by have:=(hoA.block p hp).2;omega))|(refine Vc.StillsH.load rfl rfl rfl rfl rfl rfl (SemH.load_el (c:=[.bool nd.span.any,.slice sa nd.span.or_.length sc]) rfl rfl rfl hs3 (by exact Vc.xt) rfl) ?_)|((fail_if_success (have:=hm7));refine DoH.mapPut hm6 rfl rfl ?_;intro H7 z7 hm7 k7)|(first|(with_reducible refine Vc.DrawH.lin (id:=4) mixed ?_)|(with_reducible refine Vc.DrawL.split (es:=[]) 12 15 (by decide) (by decide) (by decide) ?_ ?_)|(with_reducible refine Vc.DrawL.held (es:=[(12,15)]) [0,1,2,3,4,5,6,7,8,9,10,11,13,14,12,15,16,17] [(12,[3,5,14]),(15,[3,5]),(16,[3,5])] (by decide+kernel) ?_)|(with_reducible refine Vc.DrawL.held (es:=[(15,12)]) [0,1,2,3,4,5,6,7,8,9,10,11,13,14,15,12,16,17] [(15,[3,5,9,11]),(12,[3,5]),(16,[3,5])] (by decide+kernel) ?_))|refine Vc.stp ?_)<;>(intros;(conv=>whnf)))))
  all_goals
   have hL1:(G nd.name++[nd.span]).length=(G nd.name).length+1:=by simp
   rw[←hL1]at hm7
   have hA7:=SlcL.put okS hAm eA hw6 ho6 hf6 hm7 k7
   have hGs:putA G nd.name (G nd.name++[nd.span])=asks (L++l.take (i+1)):=by
    rw[List.take_add_one,hnd,←hG,←List.append_assoc]
    show _=asks ((L++l.take i)++[nd])
    rw[asks_snoc];rfl
   rw[hGs]at hA7
   have hLi:(L++l.take (i+1)).length≤100000:=by rw[List.length_append,List.length_take];omega
   have hfm6:Fr (fun b=>b=x.A) base Hm H6:=Fr.wr hw6 fun p hp=>⟨(hom.block p hp).1,hom.typ p hp⟩
   have hf17:Fr (fun b=>b=x.A) base H1 H7:=((Fr.of hx1m).trans hfm6).trans (Fr.but k7 rfl)
   have hS7:SrO x H0 base H7 f c (asks (L++l.take (i+1))) left:=hS1.setAsk hf17 ⟨_,hA7,keys_put hKa (hlK nd hndm)⟩ (asks_spans fun m hm=>by
    rcases List.mem_append.1 hm with h|h
    ·exact hLs m h
    ·exact hsp m (List.mem_of_mem_take h)) (fun k=>Nat.le_trans (asks_len _ k) hLi)
   have hAlt:=hA.map.lt
   have b7:=((b3.ext (show Ext H3 Hm by exact Vc.xt)).keep hw6 (fun⟨p,hp,e⟩=>by have:=(hoA.block p hp).2;omega)).but k7 (by omega)
   have hs7: ∀ (k:Nat) (u:Value),([.bool nd.span.any,.slice sa nd.span.or_.length sc]:List Value)[k]? =some u→hcell H7 ⟨H1.size,0+1+k,none⟩=some u:=fun k u hu=>by
    rw[b7.cell]
    match k,hu with
    |0,hu=>exact hu
    |1,hu=>exact hu
   have hblk7:searchB H7 x left:=hS7.blk
   have hk7:Ext H0 H7:=hS7.h0
   obtain⟨lc7,hmc7,hlc7⟩:=hS7.cho
   have hck:=hlc7 nd.name
   have hf7:=hf1.trans hf17
   have hmt2: ∀ {b},meetsB x.R c nd=b→b=true→ ∀ m∈l.take (i+1),meetsB x.R c m=true:=fun{b} h1 h2 m hm=>by
    rw[List.take_add_one,hnd]at hm
    rcases List.mem_append.1 hm with h|h
    ·exact hmt m h
    ·have:m=nd:=by simpa using h
     rw[this,h1,h2]
   have hndt:nd∈l.take (i+1):=by rw[List.take_add_one,hnd];exact List.mem_append_right _ (by simp)
   have hck:=hlc7 nd.name
   cases hc:c nd.name with
   |none=>
    have e1:mget lc7 nd.name=none:=by rw[hck];unfold choI;rw[hc];rfl
    have hme:meetsB x.R c nd=true:=by unfold meetsB;rw[hc]
    ((conv=>whnf);repeat(any_goals((first|((with_reducible apply SemH.lookNone);(exact hmc7.ext (by exact Vc.xt));(exact e1);rfl;rfl;rfl;rfl;(conv=>whnf))|(first|(with_reducible refine Vc.DrawH.lin (id:=4) mixed ?_)|(with_reducible refine Vc.DrawL.split (es:=[]) 12 15 (by decide) (by decide) (by decide) ?_ ?_)|(with_reducible refine Vc.DrawL.held (es:=[(12,15)]) [0,1,2,3,4,5,6,7,8,9,10,11,13,14,12,15,16,17] [(12,[3,5,14]),(15,[3,5]),(16,[3,5])] (by decide+kernel) ?_)|(with_reducible refine Vc.DrawL.held (es:=[(15,12)]) [0,1,2,3,4,5,6,7,8,9,10,11,13,14,15,12,16,17] [(15,[3,5,9,11]),(12,[3,5]),(16,[3,5])] (by decide+kernel) ?_))|refine Vc.stp ?_)<;>(intros;(conv=>whnf)))))
    all_goals exact⟨i+1,⟨rfl,trivial⟩,⟨hlt,hS7,hmt2 hme rfl,hf7⟩,by omega⟩
   |some j=>
    have e1:mget lc7 nd.name=some (.int .i64 (j:Int)):=by rw[hck];unfold choI;rw[hc];rfl
    obtain⟨r,hr⟩:=hcr _ _ hc
    have hvb:=rows_ver hB.rows r (List.mem_of_getElem? hr)
    have hme:meetsB x.R c nd=hasP nd.span r.v:=by unfold meetsB;rw[hc];dsimp only;rw[verR_at hr]
    have hS:=hS7
    have hjl:j<x.R.length:=(List.getElem?_eq_some_iff.1 hr).1
    cases hh:hasP nd.span r.v with
    |true=>
     rw[hh]at hme
     ((conv=>whnf);repeat(any_goals((first|((with_reducible apply SemH.lookSome);(exact hmc7.ext (by exact Vc.xt));(exact e1);rfl;rfl;rfl;rfl;(conv=>whnf))|((with_reducible apply SemH.load_el);rfl;rfl;(show 2=List.length [Value.bool nd.span.any,Value.slice sa nd.span.or_.length sc];rfl);(exact hs7);(exact Vc.xt);(conv=>whnf))|(refine IdxA.el row_ok (by decide) hS.rows rfl j r rfl hr ?_;intro b o c hcR hcl;obtain⟨pa,pc,na,nc,ec,h32,hpl,hpr,hnl2,hnr⟩:=(id hcR);have hcn:hcell H0 ⟨b,o+0,none⟩=some (Value.string (mkS r.name)):=hcl 0 _ (by rw[ec];rfl);have hcv:=(fun k u hu=>(by rw[Nat.add_assoc,Nat.add_comm 1 k];exact hcl (k+1) u (row_ver ec k u hu)): ∀ (k:Nat) (u:Value),([.int .i64 r.v.ma,.int .i64 r.v.mi,.int .i64 r.v.pa,.slice pa r.v.pre.length pc]:List Value)[k]? =some u→hcell H0 ⟨b,o+1+k,none⟩=some u))|((with_reducible apply SemH.load_ver);(exact hcv);(exact hk7.trans (by exact Vc.xt));(conv=>whnf))|(refine(has_any nd.span r.v (hsp nd hndm) hvb sa _ sc _ H0 _ (hk7.trans (by exact Vc.xt)) hsr rfl (verO_of hpl (hpr.ext (hk7.trans (by exact Vc.xt))))).mono ?_;rintro _ H8 ⟨rfl,hx8⟩;have hz8:=hx8.size;rw[hh])|(first|(with_reducible refine Vc.DrawH.lin (id:=4) mixed ?_)|(with_reducible refine Vc.DrawL.split (es:=[]) 12 15 (by decide) (by decide) (by decide) ?_ ?_)|(with_reducible refine Vc.DrawL.held (es:=[(12,15)]) [0,1,2,3,4,5,6,7,8,9,10,11,13,14,12,15,16,17] [(12,[3,5,14]),(15,[3,5]),(16,[3,5])] (by decide+kernel) ?_)|(with_reducible refine Vc.DrawL.held (es:=[(15,12)]) [0,1,2,3,4,5,6,7,8,9,10,11,13,14,15,12,16,17] [(15,[3,5,9,11]),(12,[3,5]),(16,[3,5])] (by decide+kernel) ?_))|refine Vc.stp ?_)<;>(intros;(conv=>whnf)))))
     all_goals exact⟨i+1,⟨rfl,trivial⟩,⟨hlt,hS7.ext hx8,hmt2 hme rfl,hf7.trans (Fr.of hx8)⟩,by omega⟩
    |false=>
     rw[hh]at hme
     ((conv=>whnf);repeat(any_goals((first|((with_reducible apply SemH.lookSome);(exact hmc7.ext (by exact Vc.xt));(exact e1);rfl;rfl;rfl;rfl;(conv=>whnf))|((with_reducible apply SemH.load_el);rfl;rfl;(show 2=List.length [Value.bool nd.span.any,Value.slice sa nd.span.or_.length sc];rfl);(exact hs7);(exact Vc.xt);(conv=>whnf))|(refine IdxA.el row_ok (by decide) hS.rows rfl j r rfl hr ?_;intro b o c hcR hcl;obtain⟨pa,pc,na,nc,ec,h32,hpl,hpr,hnl2,hnr⟩:=(id hcR);have hcn:hcell H0 ⟨b,o+0,none⟩=some (Value.string (mkS r.name)):=hcl 0 _ (by rw[ec];rfl);have hcv:=(fun k u hu=>(by rw[Nat.add_assoc,Nat.add_comm 1 k];exact hcl (k+1) u (row_ver ec k u hu)): ∀ (k:Nat) (u:Value),([.int .i64 r.v.ma,.int .i64 r.v.mi,.int .i64 r.v.pa,.slice pa r.v.pre.length pc]:List Value)[k]? =some u→hcell H0 ⟨b,o+1+k,none⟩=some u))|((with_reducible apply SemH.load_ver);(exact hcv);(exact hk7.trans (by exact Vc.xt));(conv=>whnf))|(refine(has_any nd.span r.v (hsp nd hndm) hvb sa _ sc _ H0 _ (hk7.trans (by exact Vc.xt)) hsr rfl (verO_of hpl (hpr.ext (hk7.trans (by exact Vc.xt))))).mono ?_;rintro _ H8 ⟨rfl,hx8⟩;have hz8:=hx8.size;rw[hh])|(first|(with_reducible refine Vc.DrawH.lin (id:=4) mixed ?_)|(with_reducible refine Vc.DrawL.split (es:=[]) 12 15 (by decide) (by decide) (by decide) ?_ ?_)|(with_reducible refine Vc.DrawL.held (es:=[(12,15)]) [0,1,2,3,4,5,6,7,8,9,10,11,13,14,12,15,16,17] [(12,[3,5,14]),(15,[3,5]),(16,[3,5])] (by decide+kernel) ?_)|(with_reducible refine Vc.DrawL.held (es:=[(15,12)]) [0,1,2,3,4,5,6,7,8,9,10,11,13,14,15,12,16,17] [(15,[3,5,9,11]),(12,[3,5]),(16,[3,5])] (by decide+kernel) ?_))|refine Vc.stp ?_)<;>(intros;(conv=>whnf)))))
     all_goals exact⟨⟨i+1,false,rfl,hlt,fun h=>(by cases h),fun _=>⟨nd,hndt,hme⟩,hS7.ext hx8⟩,hf7.trans (Fr.of hx8)⟩
 ·obtain rfl:i=n:=by omega
  rw[List.take_of_length_le (by omega)]at hmt
  ((conv=>whnf);repeat(any_goals((first|(first|(with_reducible refine Vc.DrawH.lin (id:=4) mixed ?_)|(with_reducible refine Vc.DrawL.split (es:=[]) 12 15 (by decide) (by decide) (by decide) ?_ ?_)|(with_reducible refine Vc.DrawL.held (es:=[(12,15)]) [0,1,2,3,4,5,6,7,8,9,10,11,13,14,12,15,16,17] [(12,[3,5,14]),(15,[3,5]),(16,[3,5])] (by decide+kernel) ?_)|(with_reducible refine Vc.DrawL.held (es:=[(15,12)]) [0,1,2,3,4,5,6,7,8,9,10,11,13,14,15,12,16,17] [(15,[3,5,9,11]),(12,[3,5]),(16,[3,5])] (by decide+kernel) ?_))|refine Vc.stp ?_)<;>(intros;(conv=>whnf)))))
  exact⟨⟨i,true,rfl,Nat.le_refl _,fun _=>⟨rfl,hmt⟩,fun h=>(by cases h),hS1⟩,hf1⟩
end Go.Proofs.YtjdieklgoepdjaaGreatDoor
namespace Go.Vc
theorem OwnE.cut {α:Type} {E:Heap→α→List Value→Prop} {s:Nat} (ok:EncOk E s) {H:Heap} {base:Nat} {e:TypeId} {a:Option Addr} {l:List α} {cap:Nat} (h:OwnE E s H base e a l cap) (k:Nat) (hk:k≤l.length):OwnE E s H base e a (l.take k) cap:=by
 obtain⟨vs,h1,h2⟩:=h.out
 exact⟨_,by rw[List.length_take,Nat.min_eq_left hk];exact h1.cut k hk,h2.take ok k⟩
end Go.Vc
namespace Go.Proofs.YtjdieklgoepdjaaGreatDoor
open Go Go.Vc Go.Scr Go.Slv
theorem backA_sub {L M:List NeedP} {i:Nat} {k:Txt} {s:SpnP} (h:s∈backA L M i k):s∈asks (L++M) k:=List.mem_of_mem_take h
theorem backA_le (L M:List NeedP) (i:Nat) (k:Txt):(backA L M i k).length≤(asks (L++M) k).length:=by
 unfold backA
 rw[List.length_take]
 exact Nat.min_le_right _ _
set_option maxHeartbeats 4000000 in
theorem back_any (x:SrC) {H0 H:Heap} {base:Nat} {f:Fix} {c:Cho} {left:Int} {L:List NeedP} (l:List NeedP) (hS:SrO x H0 base H f c (asks (L++l)) left) (a:Option Addr) (n cap:Nat) (hl:RowE needE H0 a l) (hn:l.length=n) (hnl:n≤1000) (hlK: ∀ nd∈l,nd.name∈allU x.R x.N):
  CallH Tryz.prog 159 [.pointer (some ⟨x.S,0,none⟩),.slice a n cap] H fun v H'=>SrO x H0 base H' f c (asks L) left∧Fr (fun b=>b=x.A) base H H':=by
 refine Vc.CallH.body Tryz.func159 Tryz.call159 rfl (by decide+kernel) rfl ?_
 ((conv=>whnf);repeat(any_goals((first|refine Vc.stp ?_)<;>(intros;(conv=>whnf)))))
 refine LoopH.intro (fun(i:Nat)=>[(8,.int .i64 i)]) (fun i H'=>i≤n∧SrO x H0 base H' f c (backA L l i) left∧Fr (fun b=>b=x.A) base H H') (fun i=>n-i) 0 ⟨rfl,trivial⟩ ⟨Nat.zero_le _,by rw[backA_zero];exact hS,Fr.refl _ _ _⟩ ?_
 rintro i H1 ⟨hi,hS1,hf1⟩
 by_cases hlt:i<n
 ·obtain⟨nd,hnd⟩: ∃ nd,l[i]? =some nd:=⟨_,List.getElem?_eq_getElem (by omega)⟩
  have hblk:searchB H1 x left:=hS1.blk
  have hk1:Ext H0 H1:=hS1.h0
  obtain⟨hpos,hstep⟩:=backA_step (L:=L) hnd
  have okS:=const_ok spn_okE H0
  have hln:=hS1.lens nd.name
  have hsp1: ∀ k,∀ s∈backA L l (i+1) k,SpnB s:=fun k s h=>hS.spans k s (backA_sub h)
  have hle1: ∀ k,(backA L l (i+1) k).length≤100000:=fun k=>Nat.le_trans (backA_le _ _ _ _) (hS.lens k)
  obtain⟨G,hG⟩: ∃ G,backA L l i=G:=⟨_,rfl⟩
  rw[hG]at hS1 hpos hstep hln
  obtain⟨la,hA,hKa⟩:=hS1.ask
  obtain⟨aa,ac,eA,hoA⟩:=hA.val nd.name
  have hcap:=hoA.cap_le
  ((conv=>whnf);repeat(any_goals((first|(refine IdxA.el need_ok (by decide) hl hn i nd rfl hnd ?_;intro b o cc hcN hcl;obtain⟨sa,sc,ec,hsl,hsr⟩:=(id hcN);subst ec)|((with_reducible apply SemH.load_el);rfl;rfl;(show 4=_;exact(need_ok.len hcN).symm);(exact hcl);(exact hk1.trans (by exact Vc.xt));(conv=>whnf))|refine Vc.stp ?_)<;>(intros;(conv=>whnf)))))
  rename_i H2 z2 b2 x2 H3 z3 b3 k3
  have hx13:Ext H1 H3:=x2.but k3 (Nat.le_refl _)
  have hA3:=hA.ext okS hx13
  have ho3:=(hoA.ext okS.ok hx13).cut okS.ok ((G nd.name).length-1) (by omega)
  have hl3:((G nd.name).take ((G nd.name).length-1)).length=(G nd.name).length-1:=by rw[List.length_take];omega
  ((conv=>whnf);repeat(any_goals((first|((with_reducible apply SemH.lookV);(focus((exact hA.map.ext (hx13.trans (by exact Vc.xt)))));rfl;rfl;rfl;rfl;(exact eA);(conv=>whnf))|(refine BndH.nat ((G nd.name).length-1) (by omega) (by omega) ?_)|((fail_if_success (have:=hm7));refine DoH.mapPut hA3.map rfl rfl ?_;intro H7 z7 hm7 k7)|(first|(with_reducible refine Vc.DrawH.lin (id:=3) mixed ?_)|(with_reducible refine Vc.DrawL.split (es:=[]) 12 19 (by decide) (by decide) (by decide) ?_ ?_)|(with_reducible refine Vc.DrawL.held (es:=[(12,19)]) [0,1,2,3,4,5,6,7,8,9,10,11,13,14,15,16,17,18,12,19,20,21,22,23] [(12,[3,5,16,18]),(19,[3,5])] (by decide+kernel) ?_)|(with_reducible refine Vc.DrawL.held (es:=[(19,12)]) [0,1,2,3,4,5,6,7,8,9,10,11,13,14,15,16,17,18,19,20,21,12,22,23] [(19,[3,5,9,11]),(12,[3,5])] (by decide+kernel) ?_))|refine Vc.stp ?_)<;>(intros;(conv=>whnf)))))
  all_goals
   rw[←hl3]at hm7
   have hA7:=SlcL.put okS hA3 eA (Only.refl _ _) ho3 (fun p hp=> .inl rfl) hm7 k7
   have hGs:putA G nd.name ((G nd.name).take ((G nd.name).length-1))=backA L l (i+1):=hstep.symm
   rw[hGs]at hA7
   have hf17:Fr (fun b=>b=x.A) base H1 H7:=(Fr.of hx13).trans (Fr.but k7 rfl)
   have hS7:SrO x H0 base H7 f c (backA L l (i+1)) left:=hS1.setAsk hf17 ⟨_,hA7,keys_put hKa (hlK nd (List.mem_of_getElem? hnd))⟩ hsp1 hle1
   exact⟨i+1,⟨rfl,trivial⟩,⟨hlt,hS7,hf1.trans hf17⟩,by omega⟩
 ·obtain rfl:i=n:=by omega
  rw[←hn,backA_all]at hS1
  ((conv=>whnf);repeat(any_goals((first|refine Vc.stp ?_)<;>(intros;(conv=>whnf)))))
  exact⟨hS1,hf1⟩
end Go.Proofs.YtjdieklgoepdjaaGreatDoor
namespace Go.Slv
open Go.Scr Go.Tre
theorem asked_len {R:List RowP} {N:List NeedP} {st:Stk} (h: ∀ r∈R,r.needs.length≤1000) (hN:N.length≤1000) (hst:st.length≤80):(askedL R N st).length≤81000:=by
 unfold askedL
 have:=flat_len (fun p:Txt×Nat=>needsR R p.2) 1000 st fun p _=>needsR_len h p.2
 rw[List.length_append]
 have:st.length*1000≤80*1000:=Nat.mul_le_mul_right _ hst
 omega
theorem nextF_len {R:List RowP} (h: ∀ r∈R,r.needs.length≤1000) (f:Fix) (st:Stk) (k:Txt) (m:Nat) (hm:(rowsF R st k).length≤m):(nextF R f st k).length≤m*1000:=by
 unfold nextF
 have:=flat_len (fun i=>(needsR R i).map (·.name)) 1000 ((rowsF R st k).filter (okF f k)) fun i _=>by rw[List.length_map];exact needsR_len h i
 have h2:=List.length_filter_le (okF f k) (rowsF R st k)
 exact Nat.le_trans this (Nat.mul_le_mul_right _ (by omega))
theorem FarI.start {R:List RowP} {N:List NeedP} {f:Fix} {st:Stk} {l:List Txt} (h1: ∀ k∈l,asks (askedL R N st) k≠ []) (h2: ∀ k,asks (askedL R N st) k≠ []→k∈l):FarI R N f st [] l:=
 ⟨fun k hk=>by
  obtain⟨n,hn,e⟩:=asks_ne.1 (h1 k (by simpa using hk))
  rw[←e];exact .base hn,fun n hn=>by
  have:=h2 n.name (asks_ne.2 ⟨n,hn,rfl⟩)
  simpa using this,fun k hk=>(by cases hk),List.nodup_nil⟩
theorem okF_false {f:Fix} {k:Txt} {i:Nat} (h:okF f k i=false): ∃ y,f k=some y∧y≠some i:=by
 unfold okF at h
 cases e:f k with
 |none=>rw[e]at h;cases h
 |some y=>rw[e]at h;exact⟨y,rfl,by simpa using h⟩
theorem okF_true {f:Fix} {k:Txt} {i:Nat} (h:okF f k i=true):f k=none∨f k=some (some i):=by
 cases e:f k with
 |none=>exact .inl rfl
 |some y=>exact .inr (by rw[(okF_iff.1 h) y e])
theorem pushes_step {R:List RowP} {f:Fix} {k:Txt} {L:List Nat} {j i:Nat} (h:L[j]? =some i):((L.take (j+1)).filter (okF f k)).flatMap (fun i=>(needsR R i).map (·.name))=((L.take j).filter (okF f k)).flatMap (fun i=>(needsR R i).map (·.name))++if okF f k i=true then(needsR R i).map (·.name)else []:=by
 rw[List.take_add_one,h,List.filter_append,List.flatMap_append]
 congr 1
 by_cases e:okF f k i=true
 ·rw[if_pos e];simp[e]
 ·rw[if_neg e];simp[e]
end Go.Slv
namespace Go.Proofs.YtjdieklgoepdjaaGreatDoor
open Go Go.Vc Go.Scr Go.Slv
theorem RowL.wrO {α:Type} {E:Heap→α→List Value→Prop} {sz s2:Nat} (ok:EncT E sz (fun _=>False)) {t e':TypeId} {H H':Heap} {a oa:Option Addr} {l:List α} {base n cap:Nat} {xs:List Value} (h:RowL E t H a l) (ho:Own H base e' s2 oa n cap xs) (hne:e'≠t) (k:Wr oa H H'):RowL E t H' a l:=
 h.keep ok k fun b c u ⟨q,hq,e⟩ hb hu=>by
  rcases ho.out with ⟨g1,_⟩|⟨g,cur,g1,_,hb2,_⟩
  ·rw[g1]at hq;cases hq
  ·rw[g1]at hq;cases hq
   rcases hu with hu|hu
   ·rw[←e]at hb
    exact hne ((hb2.typ hb).trans hu)
   ·exact hu
def SeenO (H:Heap) (b:Nat) (S:List Bs) (p:Nat):Prop:=∃ lm,MapO H b lm∧(∀ k,k∈S↔ ∃ u,mget lm k=some u)∧ ∀ k u,mget lm k=some u→ ∃ c:Nat,u= .int .i64 (c:Int)∧1≤c∧c≤p
theorem SeenO.keep {F:Nat→Prop} {H H':Heap} {b:Nat} {S:List Bs} {p:Nat} (h:SeenO H b S p) (k:Only F H H') (hb: ¬F b):SeenO H' b S p:=let ⟨l,h1,h2⟩:=h;⟨l,h1.keep k hb,h2⟩
theorem SeenO.wr {H H':Heap} {b base n cap sz:Nat} {e:TypeId} {a:Option Addr} {xs:List Value} {S:List Bs} {p:Nat} (h:SeenO H b S p) (ho:Own H base e sz a n cap xs) (k:Wr a H H'):SeenO H' b S p:=let ⟨l,h1,h2⟩:=h;⟨l,h1.wr ho k,h2⟩
theorem seen_put {H:Heap} {b:Nat} {S:List Bs} {p c:Nat} {lm:List (Bs×Value)} {k:Bs} (hm:MapO H b (mput lm k (.int .i64 (c:Int)))) (h1: ∀ j,j∈S↔ ∃ u,mget lm j=some u) (h2: ∀ j u,mget lm j=some u→ ∃ c:Nat,u= .int .i64 (c:Int)∧1≤c∧c≤p) (hc:1≤c∧c≤p+1) {S':List Bs} (hS: ∀ j,j∈S'↔j=k∨j∈S):SeenO H b S' (p+1):=by
 refine⟨_,hm,fun j=> ?_,fun j u hu=> ?_⟩
 ·rw[hS,mget_put]
  by_cases e:j=k
  ·simp[e]
  ·rw[if_neg e,h1];simp[e]
 ·rw[mget_put]at hu
  by_cases e:j=k
  ·rw[if_pos e]at hu
   cases hu
   exact⟨c,rfl,hc⟩
  ·rw[if_neg e]at hu
   obtain⟨c',e1,e2,e3⟩:=h2 j u hu
   exact⟨c',e1,e2,by omega⟩
def FarR (x:SrC) (f:Fix) (st:Stk) (v:Value):Prop:=∃ nm b,v= .tuple #[.string (mkS nm),.bool b]∧(b=true→ ∃ i,f nm=some (some i)∧ ¬Go.Slv.Far x.R x.N f st nm)∧(b=false→ ∀ k i,f k=some (some i)→Go.Slv.Far x.R x.N f st k)
structure F1 where
 vis:List Bs
 l:List Bs
 a:Option Addr
 cap:Nat
structure F2 where
 S:List Bs
 p:Nat
 l:List Bs
 a:Option Addr
 cap:Nat
structure F3 where
 j:Nat
 a:Option Addr
 cap:Nat
set_option maxHeartbeats 8000000 in
theorem far_any (x:SrC) (hB:SrB x) {H0 H:Heap} {base:Nat} {f:Fix} {st:Stk} {left:Int} (hS:SrO x H0 base H f (choS st) (asks (askedL x.R x.N st)) left) (hg:Go.Slv.Good x.R x.N f st) (hst:st.length≤80):
  CallH Tryz.prog 157 [.pointer (some ⟨x.S,0,none⟩)] H fun v H'=>FarR x f st v∧Ext H H':=by
 have hblk:searchB H x left:=hS.blk
 have hk0:Ext H0 H:=hS.h0
 obtain⟨la,hA,hKa⟩:=hS.ask
 obtain⟨lc,hmc,hlc⟩:=hS.cho
 obtain⟨lf,hmf,hlf⟩:=hS.fix
 obtain⟨lb,hmb,hlb⟩:=hS.by_
 have hal:=asked_len hB.rows.needs hB.nlen hst
 have hul:=allU_len hB.rows.needs hB.len hB.nlen (N:=x.N)
 refine Vc.CallH.body Tryz.func157 Tryz.call157 rfl (by decide+kernel) rfl ?_
 ((conv=>whnf);repeat(any_goals((first|(refine SemH.makeMap0 ?_;intro H1 hz1 hm1 hx1)|(refine SemH.rangeMap (hA.map.ext hx1) rfl ?_;intro H2 hz2 hi2 hx2)|refine Vc.stp ?_)<;>(intros;(conv=>whnf)))))
 have hx02:=hx1.trans hx2
 refine LoopH.intro (fun(s:F1)=>[(5,.slice s.a s.l.length s.cap)]) (fun s H'=>Own H' H.size 9 1 s.a s.l.length s.cap (strs s.l)∧IterO H' H1.size x.A la s.vis∧SeenO H' H.size [] 0∧(∀ k∈s.l,k∈s.vis∧asks (askedL x.R x.N st) k≠ [])∧(∀ k∈s.vis,asks (askedL x.R x.N st) k≠ []→k∈s.l)∧s.l.Nodup∧Ext H H') (fun s=>la.length-s.vis.length) ⟨[],[],none,0⟩ ⟨rfl,trivial⟩ ⟨Own.nil _ _ _ _,hi2,⟨[],hm1.ext hx2,fun k=>by simp[mget],fun k u h=>by cases h⟩,fun k h=>(by cases h),fun k h=>(by cases h),List.nodup_nil,hx02⟩ ?_
 rintro⟨vis,l,oa,oc⟩ H3 ⟨hown,hit,hsn,hl1,hl2,hnd,hx3⟩
 dsimp only at hown hit hsn hl1 hl2 hnd ⊢
 have hz3:=hx3.size
 have hlb2:l.length≤81000:=by
  have:=nodup_len hnd (l:=(askedL x.R x.N st).map (·.name)) fun k hk=>by
   obtain⟨n,hn,e⟩:=asks_ne.1 (hl1 k hk).2
   exact List.mem_map.2 ⟨n,hn,e⟩
  rw[List.length_map]at this
  omega
 ((conv=>whnf);repeat(any_goals((first|refine Vc.stp ?_)<;>(intros;(conv=>whnf)))))
 refine SemH.nextMap hit (fun hall=> ?_) (fun k v H4 hkv hnv hz4 hi4 hc4 hb4=> ?_)
 ·have hF0:FarI x.R x.N f st [] l:=FarI.start (fun k hk=>(hl1 k hk).2) fun k hk=>hl2 k (hall k (by
   obtain⟨aa,ac,eA,hoA⟩:=hA.val k
   cases e:mget la k with
   |some u=>exact List.mem_map.2 ⟨_,mget_mem e,rfl⟩
   |none=>
    rw[e]at eA
    exfalso
    have e3:Value.slice none 0 0= .slice aa (asks (askedL x.R x.N st) k).length ac:=eA
    injection e3 with _ e4 _
    exact hk (List.eq_nil_of_length_eq_zero e4.symm))) hk
  clear hl1 hl2 hnd hit hall
  ((conv=>whnf);repeat(any_goals((first|refine Vc.stp ?_)<;>(intros;(conv=>whnf)))))
  refine LoopH.intro (fun(s:F2)=>[(5,.slice s.a s.l.length s.cap)]) (fun s H'=>Own H' H.size 9 1 s.a s.l.length s.cap (strs s.l)∧SeenO H' H.size s.S s.p∧FarI x.R x.N f st s.S s.l∧s.p+((201000-s.S.length)*200001+s.l.length)≤50000000000∧Ext H H') (fun s=>(201000-s.S.length)*200001+s.l.length) ⟨[],0,l,oa,oc⟩ ⟨rfl,trivial⟩ ⟨hown,hsn,hF0,by show 0+((201000-0)*200001+l.length)≤50000000000;omega,hx3⟩ ?_
  clear hown hsn hF0 hz3 hx3 hlb2
  rintro⟨S,p,l,oa,oc⟩ H3 ⟨hown,hsn,hF,hpm,hx3⟩
  dsimp only at hown hsn hF hpm ⊢
  have hz3:=hx3.size
  have hSl:S.length≤201000:=by
   have:=nodup_len hF.nodup fun k hk=>far_all (hF.far k (List.mem_append_left _ hk))
   omega
  by_cases hl0:0<l.length
  ·obtain⟨l',k,rfl⟩: ∃ l' k,l=l'++[k]:=by
    rcases snoc_cases l with e|e
    ·rw[e]at hl0;simp at hl0
    ·exact e
   have hll:(l'++[k]).length=l'.length+1:=by simp
   have hkl:(l'++[k])[l'.length]? =some k:=by simp
   have hcut:=hown.cut l'.length (by omega)
   have hct:(strs (l'++[k])).take (l'.length*1)=strs l':=by rw[Nat.mul_one];simp[strs]
   rw[hct]at hcut
   have hrow:=hown.row
   have hocl:=hown.cap_le
   rw[hll]at hocl hpm
   obtain⟨lm,hmm,hm1',hm2'⟩:=hsn
   by_cases hkS:k∈S
   ·obtain⟨u,hu⟩:=(hm1' k).1 hkS
    obtain⟨cn,rfl,hc1,hcp⟩:=hm2' k u hu
    have e1:(mget lm k).getD (.int .i64 0)= .int .i64 (cn:Int):=by rw[hu];rfl
    ((conv=>whnf);repeat(any_goals((first|(refine IdxA.strv hrow rfl l'.length k (by simp) hkl ?_;intro _ _ _ _ _)|(refine BndH.nat l'.length (by simp) (by omega) ?_)|((fail_if_success (have:=hm7));refine SemH.lookV hmm rfl rfl rfl rfl e1 ?_)|(refine DoH.mapPut hmm rfl rfl ?_;intro H7 z7 hm7 k7;have e7:(mget (mput lm k (.int .i64 ((cn:Int)+1))) k).getD (.int .i64 0)= .int .i64 ((cn:Int)+1):=(by rw[mget_put,if_pos rfl];rfl))|(refine SemH.lookV hm7 rfl rfl rfl rfl e7 ?_)|refine Vc.stp ?_)<;>(intros;(conv=>whnf)))))
    have hs7:SeenO H7 H.size S (p+1):=seen_put (c:=cn+1) hm7 hm1' hm2' (by omega) fun j=>⟨fun h=> .inr h,fun h=>h.elim (fun e=>by rw[e];exact hkS) id⟩
    exact⟨⟨S,p+1,l',oa,oc⟩,⟨rfl,trivial⟩,⟨hcut.keep k7 (fun q hq e=>by have:=hown.row;obtain⟨c',hc'⟩: ∃ c',Blk H3 q.block c' 9:=(by rcases hown.out with ⟨g1,_⟩|⟨g,cur,g1,_,hb,_⟩<;>(rw[g1]at hq;cases hq);exact⟨_,hb⟩);exact hmm.ne hc' e.symm),hs7,hF.old hkS,by show p+1+((201000-S.length)*200001+l'.length)≤50000000000;omega,hx3.but k7 (Nat.le_refl _)⟩,by show(201000-S.length)*200001+l'.length<(201000-S.length)*200001+(l'++[k]).length;omega⟩
   ·have hu:mget lm k=none:=by
     cases e:mget lm k with
     |none=>rfl
     |some u=>exact absurd ((hm1' k).2 ⟨u,e⟩) hkS
    have e1:(mget lm k).getD (.int .i64 0)= .int .i64 0:=by rw[hu];rfl
    ((conv=>whnf);repeat(any_goals((first|(refine IdxA.strv hrow rfl l'.length k (by simp) hkl ?_;intro _ _ _ _ _)|(refine BndH.nat l'.length (by simp) (by omega) ?_)|((fail_if_success (have:=hm7));refine SemH.lookV hmm rfl rfl rfl rfl e1 ?_)|(refine DoH.mapPut hmm rfl rfl ?_;intro H7 z7 hm7 k7;have e7:(mget (mput lm k (.int .i64 1)) k).getD (.int .i64 0)= .int .i64 1:=(by rw[mget_put,if_pos rfl];rfl))|((fail_if_success (have:=e8));refine SemH.lookV hm7 rfl rfl rfl rfl e7 ?_;have e8:=e7)|refine Vc.stp ?_)<;>(intros;(conv=>whnf)))))
    have hs7:SeenO H7 H.size (S++[k]) (p+1):=seen_put (c:=1) hm7 hm1' hm2' (by omega) fun j=>by rw[List.mem_append,List.mem_singleton];exact or_comm
    have hx7:Ext H H7:=hx3.but k7 (Nat.le_refl _)
    have hcut7:=hcut.keep k7 (fun q hq e=>by obtain⟨c',hc'⟩: ∃ c',Blk H3 q.block c' 9:=(by rcases hown.out with ⟨g1,_⟩|⟨g,cur,g1,_,hb,_⟩<;>(rw[g1]at hq;cases hq);exact⟨_,hb⟩);exact hmm.ne hc' e.symm)
    have hF2:=hF.new hg hkS
    have hSl2:(S++[k]).length=S.length+1:=by simp
    have hS2:S.length+1≤201000:=by
     have:=nodup_len hF2.nodup fun k hk=>far_all (hF2.far k (List.mem_append_left _ hk))
     omega
    have hck:=hlc k
    have hcl:=candsF_len x.R k x.R.length
    have hBl:=hB.len
    have hrwl:(rowsF x.R st k).length≤200:=by
     unfold rowsF
     split
     ·simp
     ·omega
    have hnx:=nextF_len hB.rows.needs f st k 200 hrwl
    have hrrow:=fun i (h:i∈rowsF x.R st k)=>(rowsF_row hg h).1
    clear hown hrow hF hm1' hm2' hmm hcut hct
    obtain⟨ba,bc,eB,hbc,hbr⟩:=hlb k
    cases hc:choS st k
    case' none=>
     have e9:mget lc k=none:=by rw[hck];unfold choI;rw[hc];rfl
     have hCr:rowsF x.R st k=candsF x.R k x.R.length:=by unfold rowsF;rw[hc]
     obtain⟨C,hC⟩: ∃ C,candsF x.R k x.R.length=C:=⟨_,rfl⟩
     rw[hC]at eB hbc hbr hCr
     ((conv=>whnf);repeat(any_goals((first|((with_reducible apply SemH.lookV);(focus((exact hmb.ext (hx7.trans (by exact Vc.xt)))));rfl;rfl;rfl;rfl;(exact eB);(conv=>whnf))|((with_reducible apply SemH.lookNone);(focus((exact hmc.ext (hx7.trans (by exact Vc.xt)))));(exact e9);rfl;rfl;rfl;rfl;(conv=>whnf))|refine Vc.stp ?_)<;>(intros;(conv=>whnf)))))
     have hrL:RowL natE 3 H7 ba C:=⟨_,hbr.ext hx7,lst_nats _ C⟩
     have hCn:C.length=C.length:=rfl
     obtain⟨ca,hca⟩: ∃ ca:Option Addr,ca=ba:=⟨_,rfl⟩
     rw[←hca]at hrL ⊢
     obtain⟨H8,hH8⟩: ∃ H8,H8=H7:=⟨_,rfl⟩
     rw[←hH8]at hrL hs7 hcut7 hx7 ⊢
     clear hH8 k7 hm7 z7 hca
    case' some i0=>
     have e9:mget lc k=some (.int .i64 (i0:Int)):=by rw[hck];unfold choI;rw[hc];rfl
     obtain⟨C,hC⟩: ∃ C,C=[i0]:=⟨_,rfl⟩
     have hCr:rowsF x.R st k=C:=by unfold rowsF;rw[hc,hC]
     have hCn:C.length=1:=by rw[hC];rfl
     ((conv=>whnf);repeat(any_goals((first|((with_reducible apply SemH.lookV);(focus((exact hmb.ext (hx7.trans (by exact Vc.xt)))));rfl;rfl;rfl;rfl;(exact eB);(conv=>whnf))|((with_reducible apply SemH.lookSome);(focus((exact hmc.ext (hx7.trans (by exact Vc.xt)))));(exact e9);rfl;rfl;rfl;rfl;(conv=>whnf))|refine Vc.stp ?_)<;>(intros;(conv=>whnf)))))
     rename_i H8 z8 b8 x8
     have hrL:RowL natE 3 H8 (some ⟨H7.size,0,none⟩) C:=(own_litE (base:=H7.size) (l:=C) (xs:=[.int .i64 (i0:Int)]) nat_okT.ok b8 (by rw[hC];exact LstV.one rfl) (Nat.le_refl _) (by omega)).rowL
     have hcut7:=hcut7.ext x8
     have hs7:=hs7.keep x8 id
     have hx7:=hx7.trans x8
     obtain⟨ca,hca⟩: ∃ ca:Option Addr,ca=some ⟨H7.size,0,none⟩:=⟨_,rfl⟩
     rw[←hca]at hrL ⊢
     clear b8 hca
    all_goals
     have hnF:nextF x.R f st k=(C.filter (okF f k)).flatMap (fun i=>(needsR x.R i).map (·.name)):=by unfold nextF;rw[hCr]
     rw[hCr]at hrwl hrrow
     obtain⟨PP,hPP⟩: ∃ PP:Nat→List Bs,∀ j,PP j=((C.take j).filter (okF f k)).flatMap (fun i=>(needsR x.R i).map (·.name)):=⟨_,fun _=>rfl⟩
     have hP0:PP 0=[]:=by rw[hPP];rfl
     have hPC:PP C.length=nextF x.R f st k:=by rw[hPP,hnF,List.take_length]
     have hPs: ∀ j i,C[j]? =some i→PP (j+1)=PP j++if okF f k i=true then(needsR x.R i).map (·.name)else []:=fun j i h=>by rw[hPP,hPP];exact pushes_step h
     have hPl: ∀ j,(PP j).length≤200000:=fun j=>by
      rw[hPP]
      have h1:=flat_len (fun i=>(needsR x.R i).map (·.name)) 1000 ((C.take j).filter (okF f k)) fun i _=>by rw[List.length_map];exact needsR_len hB.rows.needs i
      have h2:=List.length_filter_le (okF f k) (C.take j)
      have h3:(C.take j).length≤200:=by rw[List.length_take];omega
      have h4:((C.take j).filter (okF f k)).length*1000≤200*1000:=Nat.mul_le_mul_right _ (by omega)
      omega
     clear hPP hnF hCr
     refine LoopH.intro (fun(s:F3)=>[(83,.int .i64 s.j),(5,.slice s.a (l'++PP s.j).length s.cap)]) (fun s H'=>s.j≤C.length∧Own H' H.size 9 1 s.a (l'++PP s.j).length s.cap (strs (l'++PP s.j))∧SeenO H' H.size (S++[k]) (p+1)∧RowL natE 3 H' ca C∧Ext H H') (fun s=>C.length-s.j) ⟨0,oa,oc⟩ ⟨rfl,by show Value.slice _ _ _=Value.slice _ (l'++PP 0).length _;rw[hP0,List.append_nil],trivial⟩ ⟨Nat.zero_le _,by dsimp only;rw[hP0,List.append_nil];exact hcut7,hs7,hrL,hx7⟩ ?_
     rintro⟨j,oa2,oc2⟩ H9 ⟨hj,hown2,hs9,hrL9,hx9⟩
     dsimp only at hj hown2 hs9 hrL9 ⊢
     have hz9:=hx9.size
     have hPj:=hPl j
     have hlj:(l'++PP j).length=l'.length+(PP j).length:=List.length_append
     by_cases hjl:j<C.length
     ·obtain⟨i,hi⟩: ∃ i,C[j]? =some i:=⟨_,List.getElem?_eq_getElem hjl⟩
      obtain⟨r,hr,hrk⟩:=hrrow i (List.mem_of_getElem? hi)
      have hil:i<x.R.length:=(List.getElem?_eq_some_iff.1 hr).1
      have hps:=hPs j i hi
      have hrE:=hrL9.to (fun _ _ h=>h)
      have hfk:=hlf k
      cases hok:okF f k i with
      |false=>
       obtain⟨y,hy,hyi⟩:=okF_false hok
       have e5:mget lf k=some (.int .i64 (canI y)):=by rw[hfk];unfold fixI;rw[hy];rfl
       have hqi:canI y≠i:=by
        cases y with
        |none=>show(-1:Int)≠(i:Int);omega
        |some m=>intro e;exact hyi (by have:(m:Int)=i:=e;congr 1;omega)
       obtain⟨q,hq⟩: ∃ q,canI y=q:=⟨_,rfl⟩
       rw[hq]at e5 hqi
       rw[hok,if_neg (by simp),List.append_nil]at hps
       ((conv=>whnf);repeat(any_goals((first|(refine IdxA.el nat_okT.ok (by decide) hrE (by first|rfl|exact hCn) j i rfl hi ?_;intro b o cc hcc hcl2;have hc0:hcell H9 ⟨b,o,none⟩=some (Value.int .i64 (i:Int)):=(by have:=hcl2 0 _ (by rw[hcc];rfl);exact this))|((with_reducible apply SemH.lookSome);(focus((exact hmf.ext (hx9.trans (by exact Vc.xt)))));(exact e5);rfl;rfl;rfl;rfl;(conv=>whnf))|refine Vc.stp ?_)<;>(intros;(conv=>whnf)))))
       exact⟨⟨j+1,oa2,oc2⟩,⟨rfl,by show Value.slice _ _ _=Value.slice _ (l'++PP (j+1)).length _;rw[hps],trivial⟩,⟨hjl,by dsimp only;rw[hps];exact hown2,hs9,hrL9,hx9⟩,by show C.length-(j+1)<C.length-j;omega⟩
      |true=>
       rw[hok,if_pos rfl,needsR_at hr]at hps
       rcases okF_true hok with hf|hf
       case' inl=>
        have e5:mget lf k=none:=by rw[hfk];unfold fixI;rw[hf];rfl
        ((conv=>whnf);repeat(any_goals((first|(refine IdxA.el nat_okT.ok (by decide) hrE (by first|rfl|exact hCn) j i rfl hi ?_;intro b o cc hcc hcl2;have hc0:hcell H9 ⟨b,o,none⟩=some (Value.int .i64 (i:Int)):=(by have:=hcl2 0 _ (by rw[hcc];rfl);exact this))|((with_reducible apply SemH.lookNone);(focus((exact hmf.ext (hx9.trans (by exact Vc.xt)))));(exact e5);rfl;rfl;rfl;rfl;(conv=>whnf))|(refine IdxA.el row_ok (by decide) hS.rows rfl i r rfl hr ?_;intro b o c hcR hcl;obtain⟨pa,pc,na,nc,ec,h32,hpl,hpr,hnl2,hnr⟩:=(id hcR);have hcn:hcell H0 ⟨b,o+0,none⟩=some (Value.string (mkS r.name)):=hcl 0 _ (by rw[ec];rfl);have hcv:=(fun k u hu=>(by rw[Nat.add_assoc,Nat.add_comm 1 k];exact hcl (k+1) u (row_ver ec k u hu)): ∀ (k:Nat) (u:Value),([.int .i64 r.v.ma,.int .i64 r.v.mi,.int .i64 r.v.pa,.slice pa r.v.pre.length pc]:List Value)[k]? =some u→hcell H0 ⟨b,o+1+k,none⟩=some u);have hcnd:hcell H0 ⟨b,o+38,none⟩=some (Value.slice na r.needs.length nc):=hcl 38 _ (row_last ec (by rw[strV_length];exact h32)).2)|refine Vc.stp ?_)<;>(intros;(conv=>whnf)))))
       case' inr=>
        have e5:mget lf k=some (.int .i64 (i:Int)):=by rw[hfk];unfold fixI;rw[hf];rfl
        ((conv=>whnf);repeat(any_goals((first|(refine IdxA.el nat_okT.ok (by decide) hrE (by first|rfl|exact hCn) j i rfl hi ?_;intro b o cc hcc hcl2;have hc0:hcell H9 ⟨b,o,none⟩=some (Value.int .i64 (i:Int)):=(by have:=hcl2 0 _ (by rw[hcc];rfl);exact this))|((with_reducible apply SemH.lookSome);(focus((exact hmf.ext (hx9.trans (by exact Vc.xt)))));(exact e5);rfl;rfl;rfl;rfl;(conv=>whnf))|(refine IdxA.el row_ok (by decide) hS.rows rfl i r rfl hr ?_;intro b o c hcR hcl;obtain⟨pa,pc,na,nc,ec,h32,hpl,hpr,hnl2,hnr⟩:=(id hcR);have hcn:hcell H0 ⟨b,o+0,none⟩=some (Value.string (mkS r.name)):=hcl 0 _ (by rw[ec];rfl);have hcv:=(fun k u hu=>(by rw[Nat.add_assoc,Nat.add_comm 1 k];exact hcl (k+1) u (row_ver ec k u hu)): ∀ (k:Nat) (u:Value),([.int .i64 r.v.ma,.int .i64 r.v.mi,.int .i64 r.v.pa,.slice pa r.v.pre.length pc]:List Value)[k]? =some u→hcell H0 ⟨b,o+1+k,none⟩=some u);have hcnd:hcell H0 ⟨b,o+38,none⟩=some (Value.slice na r.needs.length nc):=hcl 38 _ (row_last ec (by rw[strV_length];exact h32)).2)|refine Vc.stp ?_)<;>(intros;(conv=>whnf)))))
       all_goals
        have hrnl:=hB.rows.needs r (List.mem_of_getElem? hr)
        refine LoopH.intro (fun(s:F3)=>[(111,.int .i64 s.j),(5,.slice s.a ((l'++PP j)++(r.needs.take s.j).map (·.name)).length s.cap)]) (fun s H'=>s.j≤r.needs.length∧Own H' H.size 9 1 s.a ((l'++PP j)++(r.needs.take s.j).map (·.name)).length s.cap (strs ((l'++PP j)++(r.needs.take s.j).map (·.name)))∧SeenO H' H.size (S++[k]) (p+1)∧RowL natE 3 H' ca C∧Ext H H') (fun s=>r.needs.length-s.j) ⟨0,oa2,oc2⟩ ⟨rfl,by show Value.slice _ _ _=Value.slice _ ((l'++PP j)++(r.needs.take 0).map (·.name)).length _;rw[List.take_zero,List.map_nil,List.append_nil],trivial⟩ ⟨Nat.zero_le _,by dsimp only;rw[List.take_zero,List.map_nil,List.append_nil];exact hown2,hs9,hrL9,hx9⟩ ?_
        rintro⟨t,oa3,oc3⟩ H10 ⟨ht,hown,hs10,hrL10,hx10⟩
        dsimp only at ht hown hs10 hrL10 ⊢
        have hz10:=hx10.size
        by_cases htl:t<r.needs.length
        ·obtain⟨nd,hnd⟩: ∃ nd,r.needs[t]? =some nd:=⟨_,List.getElem?_eq_getElem htl⟩
         have htk:(l'++PP j)++(r.needs.take (t+1)).map (·.name)=((l'++PP j)++(r.needs.take t).map (·.name))++[nd.name]:=by rw[List.take_add_one,hnd,List.map_append,List.append_assoc,List.append_assoc,List.append_assoc];rfl
         have html:((r.needs.take t).map (·.name)).length≤1000:=by rw[List.length_map,List.length_take];omega
         have hGl:((l'++PP j)++(r.needs.take t).map (·.name)).length≤60000000000:=by rw[List.length_append];omega
         obtain⟨G,hG⟩: ∃ G,(l'++PP j)++(r.needs.take t).map (·.name)=G:=⟨_,rfl⟩
         rw[hG]at htk hown hGl ⊢
         have hk10:Ext H0 H10:=hk0.trans hx10
         have hownW:=And.intro trivial hown
         clear hown
         ((conv=>whnf);repeat(any_goals((first|(refine IdxA.el need_ok (by decide) hnr rfl t nd rfl hnd ?_;intro b o cc hcN hcl;obtain⟨sa,sc,ec,hsl,hsr⟩:=(id hcN);subst ec)|((with_reducible apply SemH.load_el);rfl;rfl;(show 4=_;exact(need_ok.len hcN).symm);(exact hcl);(exact hk10.trans (by exact Vc.xt));(conv=>whnf))|refine Vc.stp ?_)<;>(intros;(conv=>whnf)))))
         rename_i H12 z12 b12 x12 H13 z13 b13 k13 Hm zm bm xm
         have hx1013:Ext H10 H13:=x12.but k13 (Nat.le_refl _)
         have hz13:=hx1013.size
         have hown:=hownW.2.ext hx1013
         refine NextH.push1b bm (hown.ext xm) (by omega) (by omega) rfl ⟨_,rfl,fun _ h=>by cases h⟩ rfl rfl rfl rfl rfl rfl rfl ?_
         intro a6 c6 H6 ho6 hz6 hw6
         ((conv=>whnf);repeat(any_goals((first|refine Vc.stp ?_)<;>(intros;(conv=>whnf)))))
         have hln:(G++[nd.name]).length=G.length+1:=by simp
         have hx13m:Ext H13 Hm:=xm
         have hownm:=hown.ext hx13m
         have q1:Own H6 H.size 9 1 a6 (G++[nd.name]).length c6 (strs (G++[nd.name])):=own_snocS rfl ho6
         have q2:SeenO H6 H.size (S++[k]) (p+1):=((hs10.keep hx1013 id).keep hx13m id).wr hownm hw6
         have q3:RowL natE 3 H6 ca C:=RowL.wrO nat_okT (RowL.ext nat_okT (RowL.ext nat_okT hrL10 hx1013) hx13m) hownm (by decide) hw6
         have q4:Ext H H6:=ext_wrO ((hx10.trans hx1013).trans hx13m) (fun q hq=>hownm.block q hq) hw6
         refine⟨⟨t+1,a6,c6⟩,⟨rfl,?_,trivial⟩,⟨htl,?_,q2,q3,q4⟩,?_⟩
         ·show Value.slice _ _ _=Value.slice _ ((l'++PP j)++(r.needs.take (t+1)).map (·.name)).length _
          rw[htk,hln]
         ·dsimp only
          rw[htk]
          exact q1
         ·show r.needs.length-(t+1)<r.needs.length-t
          omega
        ·obtain rfl:t=r.needs.length:=by omega
         rw[List.take_length]at hown ⊢
         have hps2:l'++PP (j+1)=(l'++PP j)++r.needs.map (·.name):=by rw[hps,List.append_assoc]
         ((conv=>whnf);repeat(any_goals((first|refine Vc.stp ?_)<;>(intros;(conv=>whnf)))))
         exact⟨⟨j+1,oa3,oc3⟩,⟨rfl,by show Value.slice _ _ _=Value.slice _ (l'++PP (j+1)).length _;rw[hps2],trivial⟩,⟨hjl,by dsimp only;rw[hps2];exact hown,hs10,hrL10,hx10⟩,by show C.length-(j+1)<C.length-j;omega⟩
     ·obtain rfl:j=C.length:=by omega
      rw[hPC]at hown2 hlj ⊢
      ((conv=>whnf);repeat(any_goals((first|refine Vc.stp ?_)<;>(intros;(conv=>whnf)))))
      exact⟨⟨S++[k],p+1,l'++nextF x.R f st k,oa2,oc2⟩,⟨rfl,trivial⟩,⟨hown2,hs9,hF2,by show p+1+((201000-(S++[k]).length)*200001+(l'++nextF x.R f st k).length)≤50000000000;rw[hSl2,List.length_append];omega,hx9⟩,by show(201000-(S++[k]).length)*200001+(l'++nextF x.R f st k).length<(201000-S.length)*200001+(l'++[k]).length;rw[hSl2,hll,List.length_append];omega⟩
  ·have hl00:l=[]:=List.eq_nil_of_length_eq_zero (by omega)
   subst hl00
   have hFe:=hF.end
   obtain⟨lm,hmm,hm1',hm2'⟩:=hsn
   ((conv=>whnf);repeat(any_goals((first|((with_reducible apply SemH.rangeMap);(exact hmf.ext hx3);rfl;(intro H4 hz4 hi4 hx4;(conv=>whnf)))|refine Vc.stp ?_)<;>(intros;(conv=>whnf)))))
   refine LoopH.intro (fun(vis:List Bs)=>[]) (fun vis H'=>IterO H' H3.size x.F lf vis∧MapO H' H.size lm∧(∀ k∈vis,∀ i,f k=some (some i)→Go.Slv.Far x.R x.N f st k)∧Ext H H') (fun vis=>lf.length-vis.length) [] trivial ⟨hi4,hmm.ext hx4,fun k h=>(by cases h),hx3.trans hx4⟩ ?_
   rintro vis H5 ⟨hit,hmm5,hvs,hx5⟩
   have hz5:=hx5.size
   ((conv=>whnf);repeat(any_goals((first|refine Vc.stp ?_)<;>(intros;(conv=>whnf)))))
   refine SemH.nextMap hit (fun hall=> ?_) (fun k v H6 hkv hnv hz6 hi6 hc6 hb6=> ?_)
   ·((conv=>whnf);repeat(any_goals((first|refine Vc.stp ?_)<;>(intros;(conv=>whnf)))))
    refine⟨⟨[],false,rfl,fun h=>(by cases h),fun _ k i hki=> ?_⟩,hx5⟩
    refine hvs k (hall k ?_) i hki
    have:=hlf k
    unfold fixI at this
    rw[hki]at this
    exact List.mem_map.2 ⟨_,mget_mem this,rfl⟩
   ·have hx6:Ext H H6:=hx5.but hb6 (by omega)
    have hmm6:MapO H6 H.size lm:=hmm5.but hb6 (by have:=hmm.lt;omega)
    have hgk:=mget_of_mem hmf.nodup hkv
    have hfk:=hlf k
    rw[hgk]at hfk
    have hle:=nodup_len hi6.nodup hi6.sub
    rw[List.length_map,List.length_append,List.length_singleton]at hle
    have hvl:(vis++[k]).length=vis.length+1:=by simp
    cases hf:f k with
    |none=>unfold fixI at hfk;rw[hf]at hfk;cases hfk
    |some y=>
     have hv:v= .int .i64 (canI y):=by unfold fixI at hfk;rw[hf]at hfk;exact Option.some.inj hfk
     subst hv
     cases y with
     |none=>
      have e0:canI none= -1:=rfl
      rw[e0]at hc6 ⊢
      ((conv=>whnf);repeat(any_goals((first|((with_reducible apply SemH.entryMap);(exact hc6);(conv=>whnf))|refine Vc.stp ?_)<;>(intros;(conv=>whnf)))))
      exact⟨vis++[k],trivial,⟨hi6,hmm6,(fun j hj i hji=>by
       rcases List.mem_append.1 hj with h|h
       ·exact hvs j h i hji
       ·rw[List.mem_singleton]at h;subst h;rw[hf]at hji;cases hji),hx6⟩,by rw[hvl];omega⟩
     |some i=>
      have e0:canI (some i)=(i:Int):=rfl
      rw[e0]at hc6 ⊢
      by_cases hkS:k∈S
      ·obtain⟨u,hu⟩:=(hm1' k).1 hkS
       obtain⟨cn,rfl,hc1,hcp⟩:=hm2' k u hu
       have e1:(mget lm k).getD (.int .i64 0)= .int .i64 (cn:Int):=by rw[hu];rfl
       ((conv=>whnf);repeat(any_goals((first|((with_reducible apply SemH.entryMap);(exact hc6);(conv=>whnf))|((with_reducible apply SemH.lookV);(exact hmm6);rfl;rfl;rfl;rfl;(exact e1);(conv=>whnf))|refine Vc.stp ?_)<;>(intros;(conv=>whnf)))))
       exact⟨vis++[k],trivial,⟨hi6,hmm6,fun j hj i hji=>by
        rcases List.mem_append.1 hj with h|h
        ·exact hvs j h i hji
        ·rw[List.mem_singleton]at h;subst h;exact(hFe j).1 hkS,hx6⟩,by rw[hvl];omega⟩
      ·have hu:mget lm k=none:=by
        cases e:mget lm k with
        |none=>rfl
        |some u=>exact absurd ((hm1' k).2 ⟨u,e⟩) hkS
       have e1:(mget lm k).getD (.int .i64 0)= .int .i64 0:=by rw[hu];rfl
       ((conv=>whnf);repeat(any_goals((first|((with_reducible apply SemH.entryMap);(exact hc6);(conv=>whnf))|((with_reducible apply SemH.lookV);(exact hmm6);rfl;rfl;rfl;rfl;(exact e1);(conv=>whnf))|refine Vc.stp ?_)<;>(intros;(conv=>whnf)))))
       exact⟨⟨k,true,rfl,fun _=>⟨i,hf,fun h=>hkS ((hFe k).2 h)⟩,fun h=>(by cases h)⟩,hx6⟩
 ·have hx4:Ext H H4:=hx3.but hb4 (by omega)
  have hown4:=hown.keep hb4 (fun q hq e=>by
   obtain⟨c',hc'⟩: ∃ c',Blk H3 q.block c' 9:=(by rcases hown.out with ⟨g1,_⟩|⟨g,cur,g1,_,hb,_⟩<;>(rw[g1]at hq;cases hq);exact⟨_,hb⟩)
   exact hit.neB hc' e.symm)
  have hsn4:SeenO H4 H.size [] 0:=hsn.keep hb4 (by omega)
  obtain⟨aa,ac,eA,hoA⟩:=hA.val k
  have hle:=nodup_len hi4.nodup hi4.sub
  rw[List.length_map,List.length_append,List.length_singleton]at hle
  have hvl:(vis++[k]).length=vis.length+1:=by simp
  have hlens:=hS.lens k
  clear hown
  have hown:=hown4
  have hz4':=hx4.size
  by_cases hg0:asks (askedL x.R x.N st) k=[]
  ·have hgl:(asks (askedL x.R x.N st) k).length=0:=by rw[hg0];rfl
   ((conv=>whnf);repeat(any_goals((first|((with_reducible apply SemH.entryMap);(exact hc4);(conv=>whnf))|((with_reducible apply SemH.lookV);(focus((exact hA.map.ext (hx4.trans (by exact Vc.xt)))));rfl;rfl;rfl;rfl;(exact eA);(conv=>whnf))|refine Vc.stp ?_)<;>(intros;(conv=>whnf)))))
   exact⟨⟨vis++[k],l,oa,oc⟩,⟨rfl,trivial⟩,⟨hown,hi4,hsn4,fun j hj=>⟨List.mem_append_left _ (hl1 j hj).1,(hl1 j hj).2⟩,fun j hj hn=>by
    rcases List.mem_append.1 hj with h|h
    ·exact hl2 j h hn
    ·rw[List.mem_singleton]at h;subst h;exact absurd hg0 hn,hnd,hx4⟩,by show la.length-(vis++[k]).length<la.length-vis.length;rw[hvl];omega⟩
  ·have hgl:0<(asks (askedL x.R x.N st) k).length:=List.length_pos_iff.2 hg0
   ((conv=>whnf);repeat(any_goals((first|((with_reducible apply SemH.entryMap);(exact hc4);(conv=>whnf))|((with_reducible apply SemH.lookV);(focus((exact hA.map.ext (hx4.trans (by exact Vc.xt)))));rfl;rfl;rfl;rfl;(exact eA);(conv=>whnf))|((fail_if_success (have:=hw6));rename_i Hm zm bm xm;refine NextH.push1b bm (hown.ext (by exact Vc.xt)) (by omega) (by omega) rfl ⟨_,rfl,fun _ h=>by cases h⟩ rfl rfl rfl rfl rfl rfl rfl ?_;intro a6 c6 H6 ho6 hz6 hw6)|refine Vc.stp ?_)<;>(intros;(conv=>whnf)))))
   have hln:(l++[k]).length=l.length+1:=by simp
   have hxm:Ext H4 Hm:=by exact Vc.xt
   have hownm:=hown.ext hxm
   exact⟨⟨vis++[k],l++[k],a6,c6⟩,⟨by show Value.slice _ _ _=Value.slice _ (l++[k]).length _;rw[hln],trivial⟩,⟨own_snocS rfl ho6,(hi4.ext hxm).wr hownm hw6,(hsn4.keep hxm id).wr hownm hw6,fun j hj=>by
    rcases List.mem_append.1 hj with h|h
    ·exact⟨List.mem_append_left _ (hl1 j h).1,(hl1 j h).2⟩
    ·rw[List.mem_singleton]at h;subst h;exact⟨List.mem_append_right _ (List.mem_singleton.2 rfl),hg0⟩,fun j hj hn=>by
    rcases List.mem_append.1 hj with h|h
    ·exact List.mem_append_left _ (hl2 j h hn)
    ·exact List.mem_append_right _ h,by
    dsimp only
    rw[List.nodup_append]
    exact⟨hnd,by simp,fun a ha b hb e=>by rw[List.mem_singleton]at hb;subst hb;subst e;exact hnv (hl1 a ha).1⟩,ext_wrO (hx4.trans hxm) (fun q hq=>hownm.block q hq) hw6⟩,by show la.length-(vis++[k]).length<la.length-vis.length;rw[hvl];omega⟩
end Go.Proofs.YtjdieklgoepdjaaGreatDoor
