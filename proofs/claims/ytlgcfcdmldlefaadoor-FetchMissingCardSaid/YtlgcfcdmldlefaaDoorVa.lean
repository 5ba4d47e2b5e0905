import Derived.Test.YtlgcfcdmldlefaaDoorTs
import Derived.Test.YtlgcfcdmldlefaaDoorLia
import Derived.Stop.Asserts
set_option linter.unusedVariables false
set_option linter.unusedSimpArgs false
set_option maxRecDepth 100000
/- Errors: numbers, what wraps them, several joined. -/
namespace Go.Vc
variable {P : Program} {H H' : Heap}
theorem NextH.method {v : Value} {name : String} {vs : Array Value} {f : FuncId} {args : List Value} {K : Value → Heap → Prop} (hm : ∀ w, (callMethod v name vs).run P w = (callFunc f args.toArray).run P w) (h : CallH P f args H K) : NextH P (callMethod v name vs) H K :=
  ⟨fun w hw => by rw [hm]; exact h.out w hw⟩
end Go.Vc
namespace Go.Proofs.YtlgcfcdmldlefaaDoor
open Go Go.Vc Go.RowKit
abbrev eT : TypeId := 25
abbrev fT : TypeId := 39
abbrev jT : TypeId := 99
theorem ta_e_f {n : Int} {K : Value → Prop} (hk : K (.tuple #[.pointer none, .bool false])) : PureH Tryd.prog (Instr.typeAssert (.iface 25 (.int .i64 n)) 27 39 true) K := ⟨⟨_, fun w => by kernel_rfl, hk⟩⟩
theorem ta_e_e {n : Int} {K : Value → Prop} (hk : K (.tuple #[.int .i64 n, .bool true])) : PureH Tryd.prog (Instr.typeAssert (.iface 25 (.int .i64 n)) 27 25 true) K := ⟨⟨_, fun w => by kernel_rfl, hk⟩⟩
theorem ta_e_j {n : Int} {K : Value → Prop} (hk : K (.tuple #[.pointer none, .bool false])) : PureH Tryd.prog (Instr.typeAssert (.iface 25 (.int .i64 n)) 27 99 true) K := ⟨⟨_, fun w => by kernel_rfl, hk⟩⟩
theorem ta_e_i {n : Int} {K : Value → Prop} (hk : K (.tuple #[.nilIface, .bool false])) : PureH Tryd.prog (Instr.typeAssert (.iface 25 (.int .i64 n)) 27 181 true) K := ⟨⟨_, fun w => run_typeAssert_lacksB Tryd.underlying181 (by kernel_rfl) (by kernel_rfl) _ _ w, hk⟩⟩
theorem ta_e_u {n : Int} {K : Value → Prop} (hk : K (.tuple #[.nilIface, .bool false])) : PureH Tryd.prog (Instr.typeAssert (.iface 25 (.int .i64 n)) 27 183 true) K := ⟨⟨_, fun w => run_typeAssert_lacksB Tryd.underlying183 (by kernel_rfl) (by kernel_rfl) _ _ w, hk⟩⟩
theorem ta_e_w {n : Int} {K : Value → Prop} (hk : K (.tuple #[.nilIface, .bool false])) : PureH Tryd.prog (Instr.typeAssert (.iface 25 (.int .i64 n)) 27 184 true) K := ⟨⟨_, fun w => run_typeAssert_lacksB Tryd.underlying184 (by kernel_rfl) (by kernel_rfl) _ _ w, hk⟩⟩
theorem ta_e_a {n : Int} {K : Value → Prop} (hk : K (.tuple #[.nilIface, .bool false])) : PureH Tryd.prog (Instr.typeAssert (.iface 25 (.int .i64 n)) 27 188 true) K := ⟨⟨_, fun w => run_typeAssert_lacksB Tryd.underlying188 (by kernel_rfl) (by kernel_rfl) _ _ w, hk⟩⟩
theorem ta_f_f {p : Option Addr} {K : Value → Prop} (hk : K (.tuple #[.pointer p, .bool true])) : PureH Tryd.prog (Instr.typeAssert (.iface 39 (.pointer p)) 27 39 true) K := ⟨⟨_, fun w => by kernel_rfl, hk⟩⟩
theorem ta_f_e {p : Option Addr} {K : Value → Prop} (hk : K (.tuple #[.int .i64 0, .bool false])) : PureH Tryd.prog (Instr.typeAssert (.iface 39 (.pointer p)) 27 25 true) K := ⟨⟨_, fun w => by kernel_rfl, hk⟩⟩
theorem ta_f_j {p : Option Addr} {K : Value → Prop} (hk : K (.tuple #[.pointer none, .bool false])) : PureH Tryd.prog (Instr.typeAssert (.iface 39 (.pointer p)) 27 99 true) K := ⟨⟨_, fun w => by kernel_rfl, hk⟩⟩
theorem ta_f_i {p : Option Addr} {K : Value → Prop} (hk : K (.tuple #[.nilIface, .bool false])) : PureH Tryd.prog (Instr.typeAssert (.iface 39 (.pointer p)) 27 181 true) K := ⟨⟨_, fun w => run_typeAssert_lacksB Tryd.underlying181 (by kernel_rfl) (by kernel_rfl) _ _ w, hk⟩⟩
theorem ta_f_u {p : Option Addr} {K : Value → Prop} (hk : K (.tuple #[.iface 39 (.pointer p), .bool true])) : PureH Tryd.prog (Instr.typeAssert (.iface 39 (.pointer p)) 27 183 true) K := ⟨⟨_, fun w => by kernel_rfl, hk⟩⟩
theorem ta_f_w {p : Option Addr} {K : Value → Prop} (hk : K (.tuple #[.nilIface, .bool false])) : PureH Tryd.prog (Instr.typeAssert (.iface 39 (.pointer p)) 27 184 true) K := ⟨⟨_, fun w => run_typeAssert_lacksB Tryd.underlying184 (by kernel_rfl) (by kernel_rfl) _ _ w, hk⟩⟩
theorem ta_f_a {p : Option Addr} {K : Value → Prop} (hk : K (.tuple #[.nilIface, .bool false])) : PureH Tryd.prog (Instr.typeAssert (.iface 39 (.pointer p)) 27 188 true) K := ⟨⟨_, fun w => run_typeAssert_lacksB Tryd.underlying188 (by kernel_rfl) (by kernel_rfl) _ _ w, hk⟩⟩
theorem ta_j_f {p : Option Addr} {K : Value → Prop} (hk : K (.tuple #[.pointer none, .bool false])) : PureH Tryd.prog (Instr.typeAssert (.iface 99 (.pointer p)) 27 39 true) K := ⟨⟨_, fun w => by kernel_rfl, hk⟩⟩
theorem ta_j_e {p : Option Addr} {K : Value → Prop} (hk : K (.tuple #[.int .i64 0, .bool false])) : PureH Tryd.prog (Instr.typeAssert (.iface 99 (.pointer p)) 27 25 true) K := ⟨⟨_, fun w => by kernel_rfl, hk⟩⟩
theorem ta_j_j {p : Option Addr} {K : Value → Prop} (hk : K (.tuple #[.pointer p, .bool true])) : PureH Tryd.prog (Instr.typeAssert (.iface 99 (.pointer p)) 27 99 true) K := ⟨⟨_, fun w => by kernel_rfl, hk⟩⟩
theorem ta_j_i {p : Option Addr} {K : Value → Prop} (hk : K (.tuple #[.nilIface, .bool false])) : PureH Tryd.prog (Instr.typeAssert (.iface 99 (.pointer p)) 27 181 true) K := ⟨⟨_, fun w => run_typeAssert_lacksB Tryd.underlying181 (by kernel_rfl) (by kernel_rfl) _ _ w, hk⟩⟩
theorem ta_j_u {p : Option Addr} {K : Value → Prop} (hk : K (.tuple #[.nilIface, .bool false])) : PureH Tryd.prog (Instr.typeAssert (.iface 99 (.pointer p)) 27 183 true) K := ⟨⟨_, fun w => run_typeAssert_lacksB Tryd.underlying183 (by kernel_rfl) (by kernel_rfl) _ _ w, hk⟩⟩
theorem ta_j_w {p : Option Addr} {K : Value → Prop} (hk : K (.tuple #[.iface 99 (.pointer p), .bool true])) : PureH Tryd.prog (Instr.typeAssert (.iface 99 (.pointer p)) 27 184 true) K := ⟨⟨_, fun w => by kernel_rfl, hk⟩⟩
theorem ta_j_a {p : Option Addr} {K : Value → Prop} (hk : K (.tuple #[.nilIface, .bool false])) : PureH Tryd.prog (Instr.typeAssert (.iface 99 (.pointer p)) 27 188 true) K := ⟨⟨_, fun w => run_typeAssert_lacksB Tryd.underlying188 (by kernel_rfl) (by kernel_rfl) _ _ w, hk⟩⟩
theorem unwrap_f (p : Option Addr) (w : World) : (callMethod (.iface 39 (.pointer p)) "Unwrap" #[]).run Tryd.prog w = (callFunc 24 [.pointer p].toArray).run Tryd.prog w := by kernel_rfl
theorem unwrap_j (p : Option Addr) (w : World) : (callMethod (.iface 99 (.pointer p)) "Unwrap" #[]).run Tryd.prog w = (callFunc 173 [.pointer p].toArray).run Tryd.prog w := by kernel_rfl
theorem eq_ee {n m : Int} {ox oy : Operand} {K : Value → Prop} (hk : K (.bool (n == m))) : PureH Tryd.prog (do eqGuard .eql 27 ox oy (.iface 25 (.int .i64 n)) (.iface 25 (.int .i64 m)); binOp .eql 27 (.iface 25 (.int .i64 n)) (.iface 25 (.int .i64 m))) K := ⟨⟨_, fun w => by kernel_rfl, hk⟩⟩
theorem eq_fe {p : Option Addr} {m : Int} {ox oy : Operand} {K : Value → Prop} (hk : K (.bool false)) : PureH Tryd.prog (do eqGuard .eql 27 ox oy (.iface 39 (.pointer p)) (.iface 25 (.int .i64 m)); binOp .eql 27 (.iface 39 (.pointer p)) (.iface 25 (.int .i64 m))) K := ⟨⟨_, fun w => by kernel_rfl, hk⟩⟩
theorem eq_je {p : Option Addr} {m : Int} {ox oy : Operand} {K : Value → Prop} (hk : K (.bool false)) : PureH Tryd.prog (do eqGuard .eql 27 ox oy (.iface 99 (.pointer p)) (.iface 25 (.int .i64 m)); binOp .eql 27 (.iface 99 (.pointer p)) (.iface 25 (.int .i64 m))) K := ⟨⟨_, fun w => by kernel_rfl, hk⟩⟩

abbrev Chain := List (Bs × Bs)
/-- wrapped so, about what P says -/
def WrV (H : Heap) : Chain → (Value → Prop) → Value → Prop
  | [], P, v => P v
  | x :: ws, P, v => ∃ g v', v = .iface 39 (.pointer (some ⟨g, 0, none⟩)) ∧ Blk H g #[.string (mkS x.1), .string (mkS x.2), v'] 43 ∧ WrV H ws P v'
def NumV (n : Int) (v : Value) : Prop := v = .iface 25 (.int .i64 n)
inductive Bas
  | num (n : Int)
  | join (l : List (Chain × Int))
def BasV (H : Heap) : Bas → Value → Prop
  | .num n, v => NumV n v
  | .join l, v => ∃ g a cap vs, v = .iface 99 (.pointer (some ⟨g, 0, none⟩)) ∧ Blk H g #[.slice a l.length cap] 101 ∧ l.length ≤ cap ∧ Row H a vs ∧ vs.length = l.length ∧ ∀ (i : Nat) c v, l[i]? = some c → vs[i]? = some v → WrV H c.1 (NumV c.2) v
theorem WrV.mono {H H' : Heap} {P P' : Value → Prop} (k : Ext H H') (hP : ∀ v, P v → P' v) : ∀ (ws : Chain) (v : Value), WrV H ws P v → WrV H' ws P' v
  | [], v, h => hP v h
  | x :: ws, v, ⟨g, v', h1, h2, h3⟩ => ⟨g, v', h1, h2.ext k, WrV.mono k hP ws v' h3⟩
theorem BasV.ext {H H' : Heap} (k : Ext H H') : ∀ (b : Bas) (v : Value), BasV H b v → BasV H' b v
  | .num n, v, h => h
  | .join l, v, ⟨g, a, cap, vs, h1, h2, h3, h4, h5, h6⟩ => ⟨g, a, cap, vs, h1, h2.ext k, h3, h4.ext k, h5, fun i c v hc hv => WrV.mono k (fun _ h => h) _ _ (h6 i c v hc hv)⟩
/-- an error: wrapped so, about this -/
abbrev ErV (H : Heap) (ws : Chain) (b : Bas) (v : Value) : Prop := WrV H ws (BasV H b) v
theorem ErV.ext {H H' : Heap} {ws : Chain} {b : Bas} {v : Value} (h : ErV H ws b v) (k : Ext H H') : ErV H' ws b v := WrV.mono k (BasV.ext k b) ws v h
theorem none_num (n : Int) (H : Heap) : CallH Tryd.prog 42 [.iface 25 (.int .i64 n)] H fun v H' => v = .bool (n == 0) ∧ H = H' := by
  refine Vc.CallH.body Tryd.func42 Tryd.call42 rfl (by decide +kernel) rfl ?_
  ((conv => whnf); repeat (any_goals (first | ((with_reducible apply ta_e_f); (conv => whnf)) | ((with_reducible apply ta_e_e); (conv => whnf)) | ((with_reducible apply ta_e_j); (conv => whnf)) | ((with_reducible apply ta_e_i); (conv => whnf)) | ((with_reducible apply ta_e_u); (conv => whnf)) | ((with_reducible apply ta_e_w); (conv => whnf)) | ((with_reducible apply ta_e_a); (conv => whnf)) | ((with_reducible apply ta_f_f); (conv => whnf)) | ((with_reducible apply ta_f_e); (conv => whnf)) | ((with_reducible apply ta_f_j); (conv => whnf)) | ((with_reducible apply ta_f_i); (conv => whnf)) | ((with_reducible apply ta_f_u); (conv => whnf)) | ((with_reducible apply ta_f_w); (conv => whnf)) | ((with_reducible apply ta_f_a); (conv => whnf)) | ((with_reducible apply ta_j_f); (conv => whnf)) | ((with_reducible apply ta_j_e); (conv => whnf)) | ((with_reducible apply ta_j_j); (conv => whnf)) | ((with_reducible apply ta_j_i); (conv => whnf)) | ((with_reducible apply ta_j_u); (conv => whnf)) | ((with_reducible apply ta_j_w); (conv => whnf)) | ((with_reducible apply ta_j_a); (conv => whnf)) | (refine Vc.stp ?_; intros; (conv => whnf)) | (refine Vc.spl ?_ ?_ <;> (intro _; (conv => whnf))))))
  exact ⟨rfl, rfl⟩
theorem none_nil (H : Heap) : CallH Tryd.prog 42 [.nilIface] H fun v H' => v = .bool true ∧ H = H' := by
  refine Vc.CallH.body Tryd.func42 Tryd.call42 rfl (by decide +kernel) rfl ?_
  ((conv => whnf); repeat (any_goals (first | ((with_reducible apply ta_e_f); (conv => whnf)) | ((with_reducible apply ta_e_e); (conv => whnf)) | ((with_reducible apply ta_e_j); (conv => whnf)) | ((with_reducible apply ta_e_i); (conv => whnf)) | ((with_reducible apply ta_e_u); (conv => whnf)) | ((with_reducible apply ta_e_w); (conv => whnf)) | ((with_reducible apply ta_e_a); (conv => whnf)) | ((with_reducible apply ta_f_f); (conv => whnf)) | ((with_reducible apply ta_f_e); (conv => whnf)) | ((with_reducible apply ta_f_j); (conv => whnf)) | ((with_reducible apply ta_f_i); (conv => whnf)) | ((with_reducible apply ta_f_u); (conv => whnf)) | ((with_reducible apply ta_f_w); (conv => whnf)) | ((with_reducible apply ta_f_a); (conv => whnf)) | ((with_reducible apply ta_j_f); (conv => whnf)) | ((with_reducible apply ta_j_e); (conv => whnf)) | ((with_reducible apply ta_j_j); (conv => whnf)) | ((with_reducible apply ta_j_i); (conv => whnf)) | ((with_reducible apply ta_j_u); (conv => whnf)) | ((with_reducible apply ta_j_w); (conv => whnf)) | ((with_reducible apply ta_j_a); (conv => whnf)) | (refine Vc.stp ?_; intros; (conv => whnf)) | (refine Vc.spl ?_ ?_ <;> (intro _; (conv => whnf))))))
  exact ⟨rfl, rfl⟩
theorem none_f (p : Option Addr) (H : Heap) : CallH Tryd.prog 42 [.iface 39 (.pointer p)] H fun v H' => v = .bool false ∧ H = H' := by
  refine Vc.CallH.body Tryd.func42 Tryd.call42 rfl (by decide +kernel) rfl ?_
  ((conv => whnf); repeat (any_goals (first | ((with_reducible apply ta_e_f); (conv => whnf)) | ((with_reducible apply ta_e_e); (conv => whnf)) | ((with_reducible apply ta_e_j); (conv => whnf)) | ((with_reducible apply ta_e_i); (conv => whnf)) | ((with_reducible apply ta_e_u); (conv => whnf)) | ((with_reducible apply ta_e_w); (conv => whnf)) | ((with_reducible apply ta_e_a); (conv => whnf)) | ((with_reducible apply ta_f_f); (conv => whnf)) | ((with_reducible apply ta_f_e); (conv => whnf)) | ((with_reducible apply ta_f_j); (conv => whnf)) | ((with_reducible apply ta_f_i); (conv => whnf)) | ((with_reducible apply ta_f_u); (conv => whnf)) | ((with_reducible apply ta_f_w); (conv => whnf)) | ((with_reducible apply ta_f_a); (conv => whnf)) | ((with_reducible apply ta_j_f); (conv => whnf)) | ((with_reducible apply ta_j_e); (conv => whnf)) | ((with_reducible apply ta_j_j); (conv => whnf)) | ((with_reducible apply ta_j_i); (conv => whnf)) | ((with_reducible apply ta_j_u); (conv => whnf)) | ((with_reducible apply ta_j_w); (conv => whnf)) | ((with_reducible apply ta_j_a); (conv => whnf)) | (refine Vc.stp ?_; intros; (conv => whnf)) | (refine Vc.spl ?_ ?_ <;> (intro _; (conv => whnf))))))
  exact ⟨rfl, rfl⟩
theorem none_j (p : Option Addr) (H : Heap) : CallH Tryd.prog 42 [.iface 99 (.pointer p)] H fun v H' => v = .bool false ∧ H = H' := by
  refine Vc.CallH.body Tryd.func42 Tryd.call42 rfl (by decide +kernel) rfl ?_
  ((conv => whnf); repeat (any_goals (first | ((with_reducible apply ta_e_f); (conv => whnf)) | ((with_reducible apply ta_e_e); (conv => whnf)) | ((with_reducible apply ta_e_j); (conv => whnf)) | ((with_reducible apply ta_e_i); (conv => whnf)) | ((with_reducible apply ta_e_u); (conv => whnf)) | ((with_reducible apply ta_e_w); (conv => whnf)) | ((with_reducible apply ta_e_a); (conv => whnf)) | ((with_reducible apply ta_f_f); (conv => whnf)) | ((with_reducible apply ta_f_e); (conv => whnf)) | ((with_reducible apply ta_f_j); (conv => whnf)) | ((with_reducible apply ta_f_i); (conv => whnf)) | ((with_reducible apply ta_f_u); (conv => whnf)) | ((with_reducible apply ta_f_w); (conv => whnf)) | ((with_reducible apply ta_f_a); (conv => whnf)) | ((with_reducible apply ta_j_f); (conv => whnf)) | ((with_reducible apply ta_j_e); (conv => whnf)) | ((with_reducible apply ta_j_j); (conv => whnf)) | ((with_reducible apply ta_j_i); (conv => whnf)) | ((with_reducible apply ta_j_u); (conv => whnf)) | ((with_reducible apply ta_j_w); (conv => whnf)) | ((with_reducible apply ta_j_a); (conv => whnf)) | (refine Vc.stp ?_; intros; (conv => whnf)) | (refine Vc.spl ?_ ?_ <;> (intro _; (conv => whnf))))))
  exact ⟨rfl, rfl⟩
/-- is it none -/
def noneB : Chain → Bas → Bool
  | [], .num n => n == 0
  | _, _ => false
theorem none_any {H : Heap} {ws : Chain} {b : Bas} {v : Value} (h : ErV H ws b v) : CallH Tryd.prog 42 [v] H fun u H' => u = .bool (noneB ws b) ∧ H = H' := by
  match ws, b, h with
  | [], .num n, h => obtain rfl := h; exact none_num n H
  | [], .join l, h => obtain ⟨g, a, cap, vs, rfl, _⟩ := h; exact none_j _ H
  | x :: ws, .num n, h => obtain ⟨g, v', rfl, _⟩ := h; exact none_f _ H
  | x :: ws, .join l, h => obtain ⟨g, v', rfl, _⟩ := h; exact none_f _ H
theorem wrap_nil (op nm : ByteArray) (H : Heap) : CallH Tryd.prog 16 [.string op, .string nm, .nilIface] H fun v H' => v = .nilIface ∧ H = H' := by
  refine Vc.CallH.body Tryd.func16 Tryd.call16 rfl (by decide +kernel) rfl ?_
  ((conv => whnf); repeat (any_goals (first | ((refine (none_nil _).mono ?_; rintro _ _ ⟨rfl, rfl⟩); (conv => whnf)) | (refine Vc.stp ?_; intros; (conv => whnf)) | (refine Vc.spl ?_ ?_ <;> (intro _; (conv => whnf))))))
  exact ⟨rfl, rfl⟩
theorem ErV.iface {H : Heap} {ws : Chain} {b : Bas} {v : Value} (h : ErV H ws b v) : ∃ t x, v = .iface t x := by
  match ws, b, h with
  | [], .num n, h => exact ⟨_, _, h⟩
  | [], .join l, h => obtain ⟨g, a, cap, vs, rfl, _⟩ := h; exact ⟨_, _, rfl⟩
  | x :: ws, _, h => obtain ⟨g, v', rfl, _⟩ := h; exact ⟨_, _, rfl⟩
theorem wrap_any (op nm : Bs) {H : Heap} {ws : Chain} {b : Bas} {v : Value} (h : ErV H ws b v) : CallH Tryd.prog 16 [.string (mkS op), .string (mkS nm), v] H fun u H' => (if noneB ws b then u = .nilIface else ErV H' ((op, nm) :: ws) b u) ∧ Ext H H' := by
  have hn := fun H' (k : Ext H H') => none_any (h.ext k)
  obtain ⟨ty, pl, rfl⟩ := h.iface
  cases hb : noneB ws b with
  | true =>
    rw [hb] at hn
    refine Vc.CallH.body Tryd.func16 Tryd.call16 rfl (by decide +kernel) rfl ?_
    ((conv => whnf); repeat (any_goals (first | ((refine (hn _ (by (repeat (first | assumption | exact Vc.Ext.refl _ | ((with_reducible apply Vc.Ext.trans); (case k => assumption)) | ((with_reducible apply Vc.Ext.but); (case k => assumption); (case hb => omega)))))).mono ?_; rintro _ _ ⟨rfl, rfl⟩); (conv => whnf)) | (refine Vc.stp ?_; intros; (conv => whnf)) | (refine Vc.spl ?_ ?_ <;> (intro _; (conv => whnf))))))
    exact ⟨rfl, Ext.refl _⟩
  | false =>
    rw [hb] at hn
    refine Vc.CallH.body Tryd.func16 Tryd.call16 rfl (by decide +kernel) rfl ?_
    ((conv => whnf); repeat (any_goals (first | ((refine (hn _ (by (repeat (first | assumption | exact Vc.Ext.refl _ | ((with_reducible apply Vc.Ext.trans); (case k => assumption)) | ((with_reducible apply Vc.Ext.but); (case k => assumption); (case hb => omega)))))).mono ?_; rintro _ _ ⟨rfl, rfl⟩); (conv => whnf)) | ((refine PureH.build #[.string (mkS op), .string (mkS nm), .iface ty pl] (by kernel_rfl) ?_); (conv => whnf)) | (refine Vc.stp ?_; intros; (conv => whnf)) | (refine Vc.spl ?_ ?_ <;> (intro _; (conv => whnf))))))
    rename_i H1 hs1 hb1 hx1
    exact ⟨⟨_, _, rfl, hb1, h.ext hx1⟩, hx1⟩
end Go.Proofs.YtlgcfcdmldlefaaDoor
