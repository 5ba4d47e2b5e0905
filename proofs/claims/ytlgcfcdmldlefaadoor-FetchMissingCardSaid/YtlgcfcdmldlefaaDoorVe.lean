import Derived.Test.YtlgcfcdmldlefaaDoorVd
import Derived.Test.YtlgcfcdmldlefaaDoorEx
set_option linter.unusedVariables false
set_option linter.unusedSimpArgs false
set_option maxRecDepth 100000
/- errors.As: what the model's entries for reflectlite say at this program's types. -/
namespace Go.Proofs.YtlgcfcdmldlefaaDoor
open Go Go.Vc Go.RowKit Go.Extern Go.Extern.Stop Go.Stop

abbrev hT (t : Nat) : Value := .pointer (some ⟨7, t, none⟩)
abbrev tyV (t : Nat) : Value := .iface 179 (.agg #[hT t])
theorem SemH.run1 {P : Program} {H : Heap} {s : Sem Value} {v : Value} {K : Value → Heap → Prop} (h : ∀ w : World, w.heap = H → s.run P w = .ok v w) (hk : K v H) : SemH P s H K := ⟨fun w hw => ⟨v, w, h w hw, Same.refl w, hw ▸ hk⟩⟩
theorem rlm (z : Sem Value) (f : TypeId → Addr → Nat → Nat → Sem Value) (v : Value) :
    ReflectliteValue.method z f #[v] = (do match ← ReflectliteValue.parts v with | none => z | some (t, a, fl) => f t a fl (fl % 32)) := rfl
theorem rls (v x : Value) : ReflectliteValue.set #[v, x] = (do
    let (some (dst, a, fl), some (src, b, _)) := (← ReflectliteValue.parts v, ← ReflectliteValue.parts x)
      | unsupported (.noEntry "extern/(internal/reflectlite.Value).Set.zeroValue")
    if fl / ReflectliteValue.flagAddr % 2 == 0 then unsupported (.noEntry "extern/(internal/reflectlite.Value).Set.unaddressable")
    let val ← loadVar src b
    if ← Rtype.directlyAssignable dst src then storeVar dst a val
    else if ← Rtype.implements dst src then
      if (← Rtype.kind src) == 20 then
        match val with
        | .nilIface => unsupported (.noEntry "extern/reflectlite: a nil value of one interface type handed on as a value of another")
        | _ => storeVar dst a val
      else storeVar dst a (.iface src val)
    else panicString ("reflectlite.Set: value of type " ++ (← Rtype.spelt src) ++ " is not assignable to type " ++ (← Rtype.spelt dst))
    pure (.tuple #[])) := rfl


theorem valueOf_n (t : Addr) (H : Heap) : CallH Tryd.prog 76 [.iface 136 (.pointer (some t))] H fun v H' => v = .agg #[hT 136, .pointer (some ⟨H.size, 0, none⟩), .int .u64 150] ∧ Blk H' H.size #[.pointer (some t)] 136 ∧ H'.size = H.size + 1 ∧ Ext H H' := by
  refine CallH.extern Tryd.func76 (by kernel_rfl) (by kernel_rfl) (by kernel_rfl) (by kernel_rfl) (e := (fun args => ReflectliteValue.unpack (args.getD 0 (.tuple #[])))) ⟨fun w hw => ?_⟩
  have h : (ReflectliteValue.unpack (.iface 136 (.pointer (some t)))).run Tryd.prog w = .ok (.agg #[hT 136, .pointer (some ⟨w.heap.size, 0, none⟩), .int .u64 150]) (w.alloc (.cells #[.pointer (some t)] 136)) := by kernel_rfl
  exact ⟨_, _, h, ⟨rfl, rfl, rfl⟩, by rw [hw], hw ▸ Blk.new (push_last _ _), by rw [← hw]; simp, hw ▸ Only.push _ _ _⟩
theorem typeV_n (a : Addr) (H : Heap) : CallH Tryd.prog 77 [.agg #[hT 136, .pointer (some a), .int .u64 150]] H fun v H' => v = tyV 136 ∧ H = H' := by
  refine CallH.extern Tryd.func77 (by kernel_rfl) (by kernel_rfl) (by kernel_rfl) (by kernel_rfl) (e := ReflectliteValue.methodAny (ReflectliteValue.valueError "reflectlite.Value.Type" 0) (fun t _ _ _ => ReflectliteType.toType t)) (SemH.run1 (v := tyV 136) (fun w _ => by kernel_rfl) ⟨rfl, rfl⟩)
theorem kind_n (H : Heap) {K : Value → Heap → Prop} (hk : K (.int .u8 22) H) : NextH Tryd.prog (callMethod (tyV 136) "Kind" #[]) H K := by
  refine NextH.method (f := 169) (args := [hT 136]) (fun w => by kernel_rfl) ?_
  refine CallH.extern Tryd.func169 (by kernel_rfl) (by kernel_rfl) (by kernel_rfl) (by kernel_rfl) (e := ReflectliteType.abiMethod fun t => do pure (.int .u8 (← Rtype.kind t))) (SemH.run1 (v := .int .u8 22) (fun w _ => by kernel_rfl) hk)
theorem kindE_n (H : Heap) {K : Value → Heap → Prop} (hk : K (.int .u8 2) H) : NextH Tryd.prog (callMethod (tyV 25) "Kind" #[]) H K := by
  refine NextH.method (f := 169) (args := [hT 25]) (fun w => by kernel_rfl) ?_
  refine CallH.extern Tryd.func169 (by kernel_rfl) (by kernel_rfl) (by kernel_rfl) (by kernel_rfl) (e := ReflectliteType.abiMethod fun t => do pure (.int .u8 (← Rtype.kind t))) (SemH.run1 (v := .int .u8 2) (fun w _ => by kernel_rfl) hk)
theorem elemT_n (H : Heap) {K : Value → Heap → Prop} (hk : K (tyV 25) H) : NextH Tryd.prog (callMethod (tyV 136) "Elem" #[]) H K := by
  refine NextH.method (f := 182) (args := [.agg #[hT 136]]) (fun w => by kernel_rfl) ?_
  refine CallH.extern Tryd.func182 (by kernel_rfl) (by kernel_rfl) (by kernel_rfl) (by kernel_rfl) (e := ReflectliteType.method ReflectliteType.elem) (SemH.run1 (v := tyV 25) (fun w _ => by kernel_rfl) hk)
theorem implements_n (H : Heap) {K : Value → Heap → Prop} (hk : K (.bool true) H) : NextH Tryd.prog (callMethod (tyV 25) "Implements" #[tyV 27]) H K := by
  refine NextH.method (f := 183) (args := [.agg #[hT 25], tyV 27]) (fun w => by kernel_rfl) ?_
  refine CallH.extern Tryd.func183 (by kernel_rfl) (by kernel_rfl) (by kernel_rfl) (by kernel_rfl) (e := ReflectliteType.relation "Implements" ReflectliteType.implements_) (SemH.run1 (v := .bool true) (fun w _ => by kernel_rfl) hk)
theorem partsT_n (a : Addr) (w : World) : (ReflectliteValue.parts (.agg #[hT 136, .pointer (some a), .int .u64 150])).run Tryd.prog w = .ok (some (136, a, 150)) w := by kernel_rfl
theorem isNil_n (a p : Addr) (H : Heap) (ha : hcell H a = some (.pointer (some p))) : CallH Tryd.prog 78 [.agg #[hT 136, .pointer (some a), .int .u64 150]] H fun v H' => v = .bool false ∧ H = H' := by
  refine CallH.extern Tryd.func78 (by kernel_rfl) (by kernel_rfl) (by kernel_rfl) (by kernel_rfl) (e := ReflectliteValue.method (ReflectliteValue.valueError "reflectlite.Value.IsNil" 0) ReflectliteValue.isNil) (SemH.run1 (v := .bool false) (fun w hw => ?_) ⟨rfl, rfl⟩)
  have ha : w.cell? a = some (.pointer (some p)) := by rw [cell_heap, hw]; exact ha
  show (ReflectliteValue.method _ ReflectliteValue.isNil #[_]).run _ _ = _
  rw [rlm]
  simp only [Sem.run_bind, partsT_n, Result.andThen]
  simp [ReflectliteValue.isNil, loadVar, isAgg, underlying, Tryd.underlying136, ha, Result.andThen]
theorem elemOf_n (w : World) : (Rtype.elem? 136).run Tryd.prog w = .ok (some 25) w := by kernel_rfl
theorem mkE_n (p : Addr) (w : World) : (ReflectliteValue.mk 25 p ReflectliteValue.flagAddr).run Tryd.prog w = .ok (.agg #[hT 25, .pointer (some p), .int .u64 386]) w := by kernel_rfl
theorem elemV_n (a p : Addr) (H : Heap) (ha : hcell H a = some (.pointer (some p))) : CallH Tryd.prog 107 [.agg #[hT 136, .pointer (some a), .int .u64 150]] H fun v H' => v = .agg #[hT 25, .pointer (some p), .int .u64 386] ∧ H = H' := by
  refine CallH.extern Tryd.func107 (by kernel_rfl) (by kernel_rfl) (by kernel_rfl) (by kernel_rfl) (e := ReflectliteValue.method (ReflectliteValue.valueError "reflectlite.Value.Elem" 0) ReflectliteValue.elem) (SemH.run1 (fun w hw => ?_) ⟨rfl, rfl⟩)
  have ha : w.cell? a = some (.pointer (some p)) := by rw [cell_heap, hw]; exact ha
  show (ReflectliteValue.method _ ReflectliteValue.elem #[_]).run _ _ = _
  rw [rlm]
  simp only [Sem.run_bind, partsT_n, Result.andThen]
  simp [ReflectliteValue.elem, loadVar, isAgg, underlying, Tryd.underlying136, ha, Result.andThen, elemOf_n, mkE_n]
theorem typeOf_n (n : Int) (H : Heap) : CallH Tryd.prog 71 [.iface 25 (.int .i64 n)] H fun v H' => v = tyV 25 ∧ H = H' := by
  refine CallH.extern Tryd.func71 (by kernel_rfl) (by kernel_rfl) (by kernel_rfl) (by kernel_rfl) (e := ReflectliteType.typeOf) (SemH.run1 (v := tyV 25) (fun w _ => by kernel_rfl) ⟨rfl, rfl⟩)
theorem valueOfE_n (n : Int) (H : Heap) : CallH Tryd.prog 76 [.iface 25 (.int .i64 n)] H fun v H' => v = .agg #[hT 25, .pointer (some ⟨H.size, 0, none⟩), .int .u64 130] ∧ Blk H' H.size #[.int .i64 n] 25 ∧ H'.size = H.size + 1 ∧ Ext H H' := by
  refine CallH.extern Tryd.func76 (by kernel_rfl) (by kernel_rfl) (by kernel_rfl) (by kernel_rfl) (e := (fun args => ReflectliteValue.unpack (args.getD 0 (.tuple #[])))) ⟨fun w hw => ?_⟩
  have h : (ReflectliteValue.unpack (.iface 25 (.int .i64 n))).run Tryd.prog w = .ok (.agg #[hT 25, .pointer (some ⟨w.heap.size, 0, none⟩), .int .u64 130]) (w.alloc (.cells #[.int .i64 n] 25)) := by kernel_rfl
  exact ⟨_, _, h, ⟨rfl, rfl, rfl⟩, by rw [hw], hw ▸ Blk.new (push_last _ _), by rw [← hw]; simp, hw ▸ Only.push _ _ _⟩
theorem partsA_n (a : Addr) (w : World) : (ReflectliteValue.parts (.agg #[hT 25, .pointer (some a), .int .u64 386])).run Tryd.prog w = .ok (some (25, a, 386)) w := by kernel_rfl
theorem partsV_n (a : Addr) (w : World) : (ReflectliteValue.parts (.agg #[hT 25, .pointer (some a), .int .u64 130])).run Tryd.prog w = .ok (some (25, a, 130)) w := by kernel_rfl
theorem direct_n (w : World) : (Rtype.directlyAssignable 25 25).run Tryd.prog w = .ok true w := by kernel_rfl
theorem set_n (n : Int) (tb : Nat) (b : Addr) (old : Value) (H : Heap) (hb : hcell H b = some (.int .i64 n)) (ht : Blk H tb #[old] 25) : CallH Tryd.prog 108 [.agg #[hT 25, .pointer (some ⟨tb, 0, none⟩), .int .u64 386], .agg #[hT 25, .pointer (some b), .int .u64 130]] H fun v H' => v = .tuple #[] ∧ H'.size = H.size ∧ Blk H' tb #[.int .i64 n] 25 ∧ But tb H H' := by
  refine CallH.extern Tryd.func108 (by kernel_rfl) (by kernel_rfl) (by kernel_rfl) (by kernel_rfl) (e := ReflectliteValue.set) ⟨fun w hw => ?_⟩
  have hb : w.cell? b = some (.int .i64 n) := by rw [cell_heap, hw]; exact hb
  have ht : Blk w.heap tb #[old] 25 := by rw [hw]; exact ht
  obtain ⟨fr, h1, h2⟩ := ht.out
  have hc : w.cell? ⟨tb, 0, none⟩ = some old := by simp [World.cell?, h1]
  have hf : w.frozen? ⟨tb, 0, none⟩ = false := by
    simp only [World.frozen?, h1]
    rcases h2 with h2 | h2
    · cases fr; simp at h2 ⊢; intro; omega
    · cases fr; simp at h2 ⊢; intro; omega
  have hrun : (ReflectliteValue.set #[.agg #[hT 25, .pointer (some ⟨tb, 0, none⟩), .int .u64 386], .agg #[hT 25, .pointer (some b), .int .u64 130]]).run Tryd.prog w = .ok (.tuple #[]) (w.setCell ⟨tb, 0, none⟩ (.int .i64 n)) := by
    rw [rls]
    simp only [Sem.run_bind, partsA_n, partsV_n, Result.andThen]
    simp [ReflectliteValue.flagAddr, loadVar, isAgg, underlying, Tryd.underlying25, hb, Result.andThen, direct_n, storeVar, Value.cells, storeCells, Addr.add]
    rw [run_store Tryd.prog w ⟨tb, 0, none⟩ _ _ (by rfl)]
    simp [hc, hf]
  obtain ⟨k1, k2, k3⟩ := setCell_blk (i := 0) (v := .int .i64 n) ht
  exact ⟨_, _, hrun, k3, rfl, by rw [set_eq h1]; simp [hw], k1, hw ▸ k2⟩


theorem valueOf_f (t : Addr) (H : Heap) : CallH Tryd.prog 76 [.iface 98 (.pointer (some t))] H fun v H' => v = .agg #[hT 98, .pointer (some ⟨H.size, 0, none⟩), .int .u64 150] ∧ Blk H' H.size #[.pointer (some t)] 98 ∧ H'.size = H.size + 1 ∧ Ext H H' := by
  refine CallH.extern Tryd.func76 (by kernel_rfl) (by kernel_rfl) (by kernel_rfl) (by kernel_rfl) (e := (fun args => ReflectliteValue.unpack (args.getD 0 (.tuple #[])))) ⟨fun w hw => ?_⟩
  have h : (ReflectliteValue.unpack (.iface 98 (.pointer (some t)))).run Tryd.prog w = .ok (.agg #[hT 98, .pointer (some ⟨w.heap.size, 0, none⟩), .int .u64 150]) (w.alloc (.cells #[.pointer (some t)] 98)) := by kernel_rfl
  exact ⟨_, _, h, ⟨rfl, rfl, rfl⟩, by rw [hw], hw ▸ Blk.new (push_last _ _), by rw [← hw]; simp, hw ▸ Only.push _ _ _⟩
theorem typeV_f (a : Addr) (H : Heap) : CallH Tryd.prog 77 [.agg #[hT 98, .pointer (some a), .int .u64 150]] H fun v H' => v = tyV 98 ∧ H = H' := by
  refine CallH.extern Tryd.func77 (by kernel_rfl) (by kernel_rfl) (by kernel_rfl) (by kernel_rfl) (e := ReflectliteValue.methodAny (ReflectliteValue.valueError "reflectlite.Value.Type" 0) (fun t _ _ _ => ReflectliteType.toType t)) (SemH.run1 (v := tyV 98) (fun w _ => by kernel_rfl) ⟨rfl, rfl⟩)
theorem kind_f (H : Heap) {K : Value → Heap → Prop} (hk : K (.int .u8 22) H) : NextH Tryd.prog (callMethod (tyV 98) "Kind" #[]) H K := by
  refine NextH.method (f := 169) (args := [hT 98]) (fun w => by kernel_rfl) ?_
  refine CallH.extern Tryd.func169 (by kernel_rfl) (by kernel_rfl) (by kernel_rfl) (by kernel_rfl) (e := ReflectliteType.abiMethod fun t => do pure (.int .u8 (← Rtype.kind t))) (SemH.run1 (v := .int .u8 22) (fun w _ => by kernel_rfl) hk)
theorem kindE_f (H : Heap) {K : Value → Heap → Prop} (hk : K (.int .u8 22) H) : NextH Tryd.prog (callMethod (tyV 39) "Kind" #[]) H K := by
  refine NextH.method (f := 169) (args := [hT 39]) (fun w => by kernel_rfl) ?_
  refine CallH.extern Tryd.func169 (by kernel_rfl) (by kernel_rfl) (by kernel_rfl) (by kernel_rfl) (e := ReflectliteType.abiMethod fun t => do pure (.int .u8 (← Rtype.kind t))) (SemH.run1 (v := .int .u8 22) (fun w _ => by kernel_rfl) hk)
theorem elemT_f (H : Heap) {K : Value → Heap → Prop} (hk : K (tyV 39) H) : NextH Tryd.prog (callMethod (tyV 98) "Elem" #[]) H K := by
  refine NextH.method (f := 182) (args := [.agg #[hT 98]]) (fun w => by kernel_rfl) ?_
  refine CallH.extern Tryd.func182 (by kernel_rfl) (by kernel_rfl) (by kernel_rfl) (by kernel_rfl) (e := ReflectliteType.method ReflectliteType.elem) (SemH.run1 (v := tyV 39) (fun w _ => by kernel_rfl) hk)
theorem implements_f (H : Heap) {K : Value → Heap → Prop} (hk : K (.bool true) H) : NextH Tryd.prog (callMethod (tyV 39) "Implements" #[tyV 27]) H K := by
  refine NextH.method (f := 183) (args := [.agg #[hT 39], tyV 27]) (fun w => by kernel_rfl) ?_
  refine CallH.extern Tryd.func183 (by kernel_rfl) (by kernel_rfl) (by kernel_rfl) (by kernel_rfl) (e := ReflectliteType.relation "Implements" ReflectliteType.implements_) (SemH.run1 (v := .bool true) (fun w _ => by kernel_rfl) hk)
theorem partsT_f (a : Addr) (w : World) : (ReflectliteValue.parts (.agg #[hT 98, .pointer (some a), .int .u64 150])).run Tryd.prog w = .ok (some (98, a, 150)) w := by kernel_rfl
theorem isNil_f (a p : Addr) (H : Heap) (ha : hcell H a = some (.pointer (some p))) : CallH Tryd.prog 78 [.agg #[hT 98, .pointer (some a), .int .u64 150]] H fun v H' => v = .bool false ∧ H = H' := by
  refine CallH.extern Tryd.func78 (by kernel_rfl) (by kernel_rfl) (by kernel_rfl) (by kernel_rfl) (e := ReflectliteValue.method (ReflectliteValue.valueError "reflectlite.Value.IsNil" 0) ReflectliteValue.isNil) (SemH.run1 (v := .bool false) (fun w hw => ?_) ⟨rfl, rfl⟩)
  have ha : w.cell? a = some (.pointer (some p)) := by rw [cell_heap, hw]; exact ha
  show (ReflectliteValue.method _ ReflectliteValue.isNil #[_]).run _ _ = _
  rw [rlm]
  simp only [Sem.run_bind, partsT_f, Result.andThen]
  simp [ReflectliteValue.isNil, loadVar, isAgg, underlying, Tryd.underlying98, ha, Result.andThen]
theorem elemOf_f (w : World) : (Rtype.elem? 98).run Tryd.prog w = .ok (some 39) w := by kernel_rfl
theorem mkE_f (p : Addr) (w : World) : (ReflectliteValue.mk 39 p ReflectliteValue.flagAddr).run Tryd.prog w = .ok (.agg #[hT 39, .pointer (some p), .int .u64 406]) w := by kernel_rfl
theorem elemV_f (a p : Addr) (H : Heap) (ha : hcell H a = some (.pointer (some p))) : CallH Tryd.prog 107 [.agg #[hT 98, .pointer (some a), .int .u64 150]] H fun v H' => v = .agg #[hT 39, .pointer (some p), .int .u64 406] ∧ H = H' := by
  refine CallH.extern Tryd.func107 (by kernel_rfl) (by kernel_rfl) (by kernel_rfl) (by kernel_rfl) (e := ReflectliteValue.method (ReflectliteValue.valueError "reflectlite.Value.Elem" 0) ReflectliteValue.elem) (SemH.run1 (fun w hw => ?_) ⟨rfl, rfl⟩)
  have ha : w.cell? a = some (.pointer (some p)) := by rw [cell_heap, hw]; exact ha
  show (ReflectliteValue.method _ ReflectliteValue.elem #[_]).run _ _ = _
  rw [rlm]
  simp only [Sem.run_bind, partsT_f, Result.andThen]
  simp [ReflectliteValue.elem, loadVar, isAgg, underlying, Tryd.underlying98, ha, Result.andThen, elemOf_f, mkE_f]
theorem typeOf_f (p : Option Addr) (H : Heap) : CallH Tryd.prog 71 [.iface 39 (.pointer p)] H fun v H' => v = tyV 39 ∧ H = H' := by
  refine CallH.extern Tryd.func71 (by kernel_rfl) (by kernel_rfl) (by kernel_rfl) (by kernel_rfl) (e := ReflectliteType.typeOf) (SemH.run1 (v := tyV 39) (fun w _ => by kernel_rfl) ⟨rfl, rfl⟩)
theorem valueOfE_f (p : Option Addr) (H : Heap) : CallH Tryd.prog 76 [.iface 39 (.pointer p)] H fun v H' => v = .agg #[hT 39, .pointer (some ⟨H.size, 0, none⟩), .int .u64 150] ∧ Blk H' H.size #[.pointer p] 39 ∧ H'.size = H.size + 1 ∧ Ext H H' := by
  refine CallH.extern Tryd.func76 (by kernel_rfl) (by kernel_rfl) (by kernel_rfl) (by kernel_rfl) (e := (fun args => ReflectliteValue.unpack (args.getD 0 (.tuple #[])))) ⟨fun w hw => ?_⟩
  have h : (ReflectliteValue.unpack (.iface 39 (.pointer p))).run Tryd.prog w = .ok (.agg #[hT 39, .pointer (some ⟨w.heap.size, 0, none⟩), .int .u64 150]) (w.alloc (.cells #[.pointer p] 39)) := by kernel_rfl
  exact ⟨_, _, h, ⟨rfl, rfl, rfl⟩, by rw [hw], hw ▸ Blk.new (push_last _ _), by rw [← hw]; simp, hw ▸ Only.push _ _ _⟩
theorem partsA_f (a : Addr) (w : World) : (ReflectliteValue.parts (.agg #[hT 39, .pointer (some a), .int .u64 406])).run Tryd.prog w = .ok (some (39, a, 406)) w := by kernel_rfl
theorem partsV_f (a : Addr) (w : World) : (ReflectliteValue.parts (.agg #[hT 39, .pointer (some a), .int .u64 150])).run Tryd.prog w = .ok (some (39, a, 150)) w := by kernel_rfl
theorem direct_f (w : World) : (Rtype.directlyAssignable 39 39).run Tryd.prog w = .ok true w := by kernel_rfl
theorem set_f (p : Option Addr) (tb : Nat) (b : Addr) (old : Value) (H : Heap) (hb : hcell H b = some (.pointer p)) (ht : Blk H tb #[old] 39) : CallH Tryd.prog 108 [.agg #[hT 39, .pointer (some ⟨tb, 0, none⟩), .int .u64 406], .agg #[hT 39, .pointer (some b), .int .u64 150]] H fun v H' => v = .tuple #[] ∧ H'.size = H.size ∧ Blk H' tb #[.pointer p] 39 ∧ But tb H H' := by
  refine CallH.extern Tryd.func108 (by kernel_rfl) (by kernel_rfl) (by kernel_rfl) (by kernel_rfl) (e := ReflectliteValue.set) ⟨fun w hw => ?_⟩
  have hb : w.cell? b = some (.pointer p) := by rw [cell_heap, hw]; exact hb
  have ht : Blk w.heap tb #[old] 39 := by rw [hw]; exact ht
  obtain ⟨fr, h1, h2⟩ := ht.out
  have hc : w.cell? ⟨tb, 0, none⟩ = some old := by simp [World.cell?, h1]
  have hf : w.frozen? ⟨tb, 0, none⟩ = false := by
    simp only [World.frozen?, h1]
    rcases h2 with h2 | h2
    · cases fr; simp at h2 ⊢; intro; omega
    · cases fr; simp at h2 ⊢; intro; omega
  have hrun : (ReflectliteValue.set #[.agg #[hT 39, .pointer (some ⟨tb, 0, none⟩), .int .u64 406], .agg #[hT 39, .pointer (some b), .int .u64 150]]).run Tryd.prog w = .ok (.tuple #[]) (w.setCell ⟨tb, 0, none⟩ (.pointer p)) := by
    rw [rls]
    simp only [Sem.run_bind, partsA_f, partsV_f, Result.andThen]
    simp [ReflectliteValue.flagAddr, loadVar, isAgg, underlying, Tryd.underlying39, hb, Result.andThen, direct_f, storeVar, Value.cells, storeCells, Addr.add]
    rw [run_store Tryd.prog w ⟨tb, 0, none⟩ _ _ (by rfl)]
    simp [hc, hf]
  obtain ⟨k1, k2, k3⟩ := setCell_blk (i := 0) (v := .pointer p) ht
  exact ⟨_, _, hrun, k3, rfl, by rw [set_eq h1]; simp [hw], k1, hw ▸ k2⟩

theorem assign_nn (H : Heap) {K : Value → Heap → Prop} (hk : K (.bool true) H) : NextH Tryd.prog (callMethod (tyV 25) "AssignableTo" #[tyV 25]) H K := by
  refine NextH.method (f := 180) (args := [.agg #[hT 25], tyV 25]) (fun w => by kernel_rfl) ?_
  refine CallH.extern Tryd.func180 (by kernel_rfl) (by kernel_rfl) (by kernel_rfl) (by kernel_rfl) (e := ReflectliteType.relation "AssignableTo" ReflectliteType.assignableTo) (SemH.run1 (v := .bool true) (fun w _ => by kernel_rfl) hk)
theorem assign_fn (H : Heap) {K : Value → Heap → Prop} (hk : K (.bool false) H) : NextH Tryd.prog (callMethod (tyV 39) "AssignableTo" #[tyV 25]) H K := by
  refine NextH.method (f := 180) (args := [.agg #[hT 39], tyV 25]) (fun w => by kernel_rfl) ?_
  refine CallH.extern Tryd.func180 (by kernel_rfl) (by kernel_rfl) (by kernel_rfl) (by kernel_rfl) (e := ReflectliteType.relation "AssignableTo" ReflectliteType.assignableTo) (SemH.run1 (v := .bool false) (fun w _ => by kernel_rfl) hk)
theorem assign_jn (H : Heap) {K : Value → Heap → Prop} (hk : K (.bool false) H) : NextH Tryd.prog (callMethod (tyV 99) "AssignableTo" #[tyV 25]) H K := by
  refine NextH.method (f := 180) (args := [.agg #[hT 99], tyV 25]) (fun w => by kernel_rfl) ?_
  refine CallH.extern Tryd.func180 (by kernel_rfl) (by kernel_rfl) (by kernel_rfl) (by kernel_rfl) (e := ReflectliteType.relation "AssignableTo" ReflectliteType.assignableTo) (SemH.run1 (v := .bool false) (fun w _ => by kernel_rfl) hk)
theorem assign_ff (H : Heap) {K : Value → Heap → Prop} (hk : K (.bool true) H) : NextH Tryd.prog (callMethod (tyV 39) "AssignableTo" #[tyV 39]) H K := by
  refine NextH.method (f := 180) (args := [.agg #[hT 39], tyV 39]) (fun w => by kernel_rfl) ?_
  refine CallH.extern Tryd.func180 (by kernel_rfl) (by kernel_rfl) (by kernel_rfl) (by kernel_rfl) (e := ReflectliteType.relation "AssignableTo" ReflectliteType.assignableTo) (SemH.run1 (v := .bool true) (fun w _ => by kernel_rfl) hk)
theorem assign_nf (H : Heap) {K : Value → Heap → Prop} (hk : K (.bool false) H) : NextH Tryd.prog (callMethod (tyV 25) "AssignableTo" #[tyV 39]) H K := by
  refine NextH.method (f := 180) (args := [.agg #[hT 25], tyV 39]) (fun w => by kernel_rfl) ?_
  refine CallH.extern Tryd.func180 (by kernel_rfl) (by kernel_rfl) (by kernel_rfl) (by kernel_rfl) (e := ReflectliteType.relation "AssignableTo" ReflectliteType.assignableTo) (SemH.run1 (v := .bool false) (fun w _ => by kernel_rfl) hk)
theorem typeOf_j (p : Option Addr) (H : Heap) : CallH Tryd.prog 71 [.iface 99 (.pointer p)] H fun v H' => v = tyV 99 ∧ H = H' := by
  refine CallH.extern Tryd.func71 (by kernel_rfl) (by kernel_rfl) (by kernel_rfl) (by kernel_rfl) (e := ReflectliteType.typeOf) (SemH.run1 (v := tyV 99) (fun w _ => by kernel_rfl) ⟨rfl, rfl⟩)
theorem comparable_n (H : Heap) {K : Value → Heap → Prop} (hk : K (.bool true) H) : NextH Tryd.prog (callMethod (tyV 25) "Comparable" #[]) H K := by
  refine NextH.method (f := 181) (args := [.agg #[hT 25]]) (fun w => by kernel_rfl) ?_
  refine CallH.extern Tryd.func181 (by kernel_rfl) (by kernel_rfl) (by kernel_rfl) (by kernel_rfl) (e := ReflectliteType.method fun t => do Rtype.noPackHeld "Comparable" t; pure (.bool (← typeInfo t).comparable)) (SemH.run1 (v := .bool true) (fun w _ => by kernel_rfl) hk)
end Go.Proofs.YtlgcfcdmldlefaaDoor
