import Derived.Test.YtphkaogbcfdllaaGreatDoorKc
import Derived.Lib.Join
import Derived.Shelf.LaysM
import Derived.Shelf.Strconv.Itoa3
import Derived.Test.YtphkaogbcfdllaaGreatDoorProg
import Derived.Stop.Asserts
import Derived.Test.YtphkaogbcfdllaaGreatDoorKg
set_option linter.unusedVariables false
set_option linter.unusedSimpArgs false
set_option maxRecDepth 100000
/- Builders and joined texts, by the kit's contracts; rows of strings and of lines held against one another. -/
namespace Go.Proofs.YtphkaogbcfdllaaGreatDoor
open Go Go.Vc Go.Scr Go.RowKit

end Go.Proofs.YtphkaogbcfdllaaGreatDoor
/-
  DERIVED: THE SHELF's CONTRACTS AT THIS DUMP, IN PLAIN WORDS (tools/lay-plain.mjs out of 'TryzShelf.lean', which tools/lay-shelf.mjs wrote): THE SAME DECLARATIONS UNDER THE SAME NAMES: 'import', 'namespace', 'open', 'def', 'theorem' AND NOTHING ELSE: no command of the shelf's: FOR A HAND-IN. Each laying: the table of numbers ('.._ren') and one theorem, a field a fact of the dump's own or the kernel's comparison; each contract: ONE APPLICATION.
-/
namespace Go.Proofs
open Go.Shelf
def Tryz.laysM171_ren : Go.Shelf.Ren := ⟨fun | 171 => 63 | 243 => 118 | 246 => 169 | 283 => 208 | 284 => 209 | 285 => 210 | 286 => 211 | 129 => 191 | 317 => 245 | 318 => 246 | 319 => 247 | 320 => 248 | 337 => 271 | 338 => 272 | n => n, fun | 3 => 3 | 9 => 9 | 2 => 2 | 4 => 4 | 171 => 303 | 0 => 0 | 53 => 187 | 37 => 33 | 5 => 5 | 173 => 305 | 212 => 353 | 51 => 234 | 20 => 20 | 213 => 354 | 46 => 226 | 232 => 84 | 233 => 374 | n => n, fun | 17 => 1 | 18 => 3 | 19 => 4 | n => n⟩
theorem Tryz.laysM171 : Go.Proofs.LaysM.n171 Tryz.prog Tryz.laysM171_ren := {
  mixed := by kernel_rfl
  f129 := Tryz.func191.trans (congrArg some (by kernel_rfl))
  f171 := Tryz.func63.trans (congrArg some (by kernel_rfl))
  f243 := Tryz.func118.trans (congrArg some (by kernel_rfl))
  f246 := Tryz.func169.trans (congrArg some (by kernel_rfl))
  f283 := Tryz.func208.trans (congrArg some (by kernel_rfl))
  f284 := Tryz.func209.trans (congrArg some (by kernel_rfl))
  f285 := Tryz.func210.trans (congrArg some (by kernel_rfl))
  f286 := Tryz.func211.trans (congrArg some (by kernel_rfl))
  f317 := Tryz.func245.trans (congrArg some (by kernel_rfl))
  f318 := Tryz.func246.trans (congrArg some (by kernel_rfl))
  f319 := Tryz.func247.trans (congrArg some (by kernel_rfl))
  f320 := Tryz.func248.trans (congrArg some (by kernel_rfl))
  f337 := Tryz.func271.trans (congrArg some (by kernel_rfl))
  f338 := Tryz.func272.trans (congrArg some (by kernel_rfl))
  t0 := Tryz.underlying0
  a0 := Tryz.isAgg0
  z0 := Tryz.sizeOf0
  v0 := Tryz.zeroValue0
  t2 := Tryz.underlying2
  a2 := Tryz.isAgg2
  z2 := Tryz.sizeOf2
  v2 := Tryz.zeroValue2
  t3 := Tryz.underlying3
  a3 := Tryz.isAgg3
  z3 := Tryz.sizeOf3
  v3 := Tryz.zeroValue3
  t4 := Tryz.underlying4
  a4 := Tryz.isAgg4
  z4 := Tryz.sizeOf4
  v4 := Tryz.zeroValue4
  t5 := Tryz.underlying5
  a5 := Tryz.isAgg5
  z5 := Tryz.sizeOf5
  v5 := Tryz.zeroValue5
  t9 := Tryz.underlying9
  a9 := Tryz.isAgg9
  z9 := Tryz.sizeOf9
  v9 := Tryz.zeroValue9
  t20 := Tryz.underlying20
  a20 := Tryz.isAgg20
  z20 := Tryz.sizeOf20
  v20 := Tryz.zeroValue20
  t37 := Tryz.underlying33
  a37 := Tryz.isAgg33
  z37 := Tryz.sizeOf33
  v37 := Tryz.zeroValue33
  t46 := Tryz.underlying226
  a46 := Tryz.isAgg226
  z46 := Tryz.sizeOf226
  v46 := Tryz.zeroValue226
  t51 := Tryz.underlying234
  a51 := Tryz.isAgg234
  z51 := Tryz.sizeOf234
  v51 := Tryz.zeroValue234
  t53 := Tryz.underlying187
  a53 := Tryz.isAgg187
  z53 := Tryz.sizeOf187
  v53 := Tryz.zeroValue187
  t171 := Tryz.underlying303
  a171 := Tryz.isAgg303
  z171 := Tryz.sizeOf303
  v171 := Tryz.zeroValue303
  t173 := Tryz.underlying305
  a173 := Tryz.isAgg305
  z173 := Tryz.sizeOf305
  v173 := Tryz.zeroValue305
  t212 := Tryz.underlying353
  a212 := Tryz.isAgg353
  z212 := Tryz.sizeOf353
  v212 := Tryz.zeroValue353
  t213 := Tryz.underlying354
  a213 := Tryz.isAgg354
  z213 := Tryz.sizeOf354
  t232 := Tryz.underlying84
  a232 := Tryz.isAgg84
  z232 := Tryz.sizeOf84
  v232 := Tryz.zeroValue84
  t233 := Tryz.underlying374
  a233 := Tryz.isAgg374
  z233 := Tryz.sizeOf374
  v233 := Tryz.zeroValue374
  g17 := by kernel_rfl
  g18 := by kernel_rfl
  g19 := by kernel_rfl
  i0 := by kernel_rfl
  i2 := by kernel_rfl
  i3 := by kernel_rfl
  i4 := by kernel_rfl
  i5 := by kernel_rfl
  i9 := by kernel_rfl
  i20 := by kernel_rfl
  i37 := by kernel_rfl
  i46 := by kernel_rfl
  i51 := by kernel_rfl
  i53 := by kernel_rfl
  i171 := by kernel_rfl
  i173 := by kernel_rfl
  i212 := by kernel_rfl
  i232 := by kernel_rfl
  i233 := by kernel_rfl
  m17 := by kernel_rfl
  m18 := by kernel_rfl
  m19 := by kernel_rfl }
open Go.RowKit Go.Sort Go.Lib in
/-- strconv.Itoa: "Itoa is equivalent to FormatInt(int64(i), 10).": i's DECIMAL NUMERAL ('Lib.itoa': a '-' where i is negative, then the digits), FOR EVERY int. The world behind the call: the world before it, new blocks behind the heap (the library's 'var a [24]byte'), draws. (LAID: no walk: one application.) -/
theorem Tryz.strconv_Itoa (n : Int) (h0 : -9223372036854775808 ≤ n) (h1 : n ≤ 9223372036854775807) (w : World) (htab : Lib.TabIs Tryz.prog w "internal/strconv.uint64pow10" .u64 Lib.pow10Tab) :
    Calls Tryz.prog 63 #[.int .i64 n] w fun e w' => e = .returned (.string ⟨(Lib.itoa n).toArray⟩) ∧ ∃ k os, w' = grow (w.drewN k) os := Any.strconv_Itoa Tryz.laysM171 n h0 h1 w htab
end Go.Proofs
/- Errors: numbers, what wraps them, several joined. -/
namespace Go.Vc
variable {P : Program} {H H' : Heap}
theorem NextH.method {v : Value} {name : String} {vs : Array Value} {f : FuncId} {args : List Value} {K : Value → Heap → Prop} (hm : ∀ w, (callMethod v name vs).run P w = (callFunc f args.toArray).run P w) (h : CallH P f args H K) : NextH P (callMethod v name vs) H K :=
  ⟨fun w hw => by rw [hm]; exact h.out w hw⟩
end Go.Vc
namespace Go.Proofs.YtphkaogbcfdllaaGreatDoor
open Go Go.Vc Go.RowKit
theorem ta_e_f {n : Int} {K : Value → Prop} (hk : K (.tuple #[.pointer none, .bool false])) : PureH Tryz.prog (Instr.typeAssert (.iface 34 (.int .i64 n)) 30 208 true) K := ⟨⟨_, fun w => by kernel_rfl, hk⟩⟩
theorem ta_e_e {n : Int} {K : Value → Prop} (hk : K (.tuple #[.int .i64 n, .bool true])) : PureH Tryz.prog (Instr.typeAssert (.iface 34 (.int .i64 n)) 30 34 true) K := ⟨⟨_, fun w => by kernel_rfl, hk⟩⟩
theorem ta_e_j {n : Int} {K : Value → Prop} (hk : K (.tuple #[.pointer none, .bool false])) : PureH Tryz.prog (Instr.typeAssert (.iface 34 (.int .i64 n)) 30 220 true) K := ⟨⟨_, fun w => by kernel_rfl, hk⟩⟩
theorem ta_e_u {n : Int} {K : Value → Prop} (hk : K (.tuple #[.nilIface, .bool false])) : PureH Tryz.prog (Instr.typeAssert (.iface 34 (.int .i64 n)) 30 326 true) K := ⟨⟨_, fun w => run_typeAssert_lacksB Tryz.underlying326 (by kernel_rfl) (by kernel_rfl) _ _ w, hk⟩⟩
theorem ta_e_w {n : Int} {K : Value → Prop} (hk : K (.tuple #[.nilIface, .bool false])) : PureH Tryz.prog (Instr.typeAssert (.iface 34 (.int .i64 n)) 30 328 true) K := ⟨⟨_, fun w => run_typeAssert_lacksB Tryz.underlying328 (by kernel_rfl) (by kernel_rfl) _ _ w, hk⟩⟩
theorem ta_e_a {n : Int} {K : Value → Prop} (hk : K (.tuple #[.nilIface, .bool false])) : PureH Tryz.prog (Instr.typeAssert (.iface 34 (.int .i64 n)) 30 323 true) K := ⟨⟨_, fun w => run_typeAssert_lacksB Tryz.underlying323 (by kernel_rfl) (by kernel_rfl) _ _ w, hk⟩⟩
theorem ta_f_f {p : Option Addr} {K : Value → Prop} (hk : K (.tuple #[.pointer p, .bool true])) : PureH Tryz.prog (Instr.typeAssert (.iface 208 (.pointer p)) 30 208 true) K := ⟨⟨_, fun w => by kernel_rfl, hk⟩⟩
theorem ta_f_e {p : Option Addr} {K : Value → Prop} (hk : K (.tuple #[.int .i64 0, .bool false])) : PureH Tryz.prog (Instr.typeAssert (.iface 208 (.pointer p)) 30 34 true) K := ⟨⟨_, fun w => by kernel_rfl, hk⟩⟩
theorem ta_f_j {p : Option Addr} {K : Value → Prop} (hk : K (.tuple #[.pointer none, .bool false])) : PureH Tryz.prog (Instr.typeAssert (.iface 208 (.pointer p)) 30 220 true) K := ⟨⟨_, fun w => by kernel_rfl, hk⟩⟩
theorem ta_f_u {p : Option Addr} {K : Value → Prop} (hk : K (.tuple #[.iface 208 (.pointer p), .bool true])) : PureH Tryz.prog (Instr.typeAssert (.iface 208 (.pointer p)) 30 326 true) K := ⟨⟨_, fun w => by kernel_rfl, hk⟩⟩
theorem ta_f_w {p : Option Addr} {K : Value → Prop} (hk : K (.tuple #[.nilIface, .bool false])) : PureH Tryz.prog (Instr.typeAssert (.iface 208 (.pointer p)) 30 328 true) K := ⟨⟨_, fun w => run_typeAssert_lacksB Tryz.underlying328 (by kernel_rfl) (by kernel_rfl) _ _ w, hk⟩⟩
theorem ta_f_a {p : Option Addr} {K : Value → Prop} (hk : K (.tuple #[.nilIface, .bool false])) : PureH Tryz.prog (Instr.typeAssert (.iface 208 (.pointer p)) 30 323 true) K := ⟨⟨_, fun w => run_typeAssert_lacksB Tryz.underlying323 (by kernel_rfl) (by kernel_rfl) _ _ w, hk⟩⟩
theorem ta_j_f {p : Option Addr} {K : Value → Prop} (hk : K (.tuple #[.pointer none, .bool false])) : PureH Tryz.prog (Instr.typeAssert (.iface 220 (.pointer p)) 30 208 true) K := ⟨⟨_, fun w => by kernel_rfl, hk⟩⟩
theorem ta_j_e {p : Option Addr} {K : Value → Prop} (hk : K (.tuple #[.int .i64 0, .bool false])) : PureH Tryz.prog (Instr.typeAssert (.iface 220 (.pointer p)) 30 34 true) K := ⟨⟨_, fun w => by kernel_rfl, hk⟩⟩
theorem ta_j_j {p : Option Addr} {K : Value → Prop} (hk : K (.tuple #[.pointer p, .bool true])) : PureH Tryz.prog (Instr.typeAssert (.iface 220 (.pointer p)) 30 220 true) K := ⟨⟨_, fun w => by kernel_rfl, hk⟩⟩
theorem ta_j_u {p : Option Addr} {K : Value → Prop} (hk : K (.tuple #[.nilIface, .bool false])) : PureH Tryz.prog (Instr.typeAssert (.iface 220 (.pointer p)) 30 326 true) K := ⟨⟨_, fun w => run_typeAssert_lacksB Tryz.underlying326 (by kernel_rfl) (by kernel_rfl) _ _ w, hk⟩⟩
theorem ta_j_w {p : Option Addr} {K : Value → Prop} (hk : K (.tuple #[.iface 220 (.pointer p), .bool true])) : PureH Tryz.prog (Instr.typeAssert (.iface 220 (.pointer p)) 30 328 true) K := ⟨⟨_, fun w => by kernel_rfl, hk⟩⟩
theorem ta_j_a {p : Option Addr} {K : Value → Prop} (hk : K (.tuple #[.nilIface, .bool false])) : PureH Tryz.prog (Instr.typeAssert (.iface 220 (.pointer p)) 30 323 true) K := ⟨⟨_, fun w => run_typeAssert_lacksB Tryz.underlying323 (by kernel_rfl) (by kernel_rfl) _ _ w, hk⟩⟩
theorem unwrap_f (p : Option Addr) (w : World) : (callMethod (.iface 208 (.pointer p)) "Unwrap" #[]).run Tryz.prog w = (callFunc 311 [.pointer p].toArray).run Tryz.prog w := by kernel_rfl
theorem unwrap_j (p : Option Addr) (w : World) : (callMethod (.iface 220 (.pointer p)) "Unwrap" #[]).run Tryz.prog w = (callFunc 312 [.pointer p].toArray).run Tryz.prog w := by kernel_rfl
theorem eq_ee {n m : Int} {ox oy : Operand} {K : Value → Prop} (hk : K (.bool (n == m))) : PureH Tryz.prog (do eqGuard .eql 30 ox oy (.iface 34 (.int .i64 n)) (.iface 34 (.int .i64 m)); binOp .eql 30 (.iface 34 (.int .i64 n)) (.iface 34 (.int .i64 m))) K := ⟨⟨_, fun w => by kernel_rfl, hk⟩⟩
theorem eq_fe {p : Option Addr} {m : Int} {ox oy : Operand} {K : Value → Prop} (hk : K (.bool false)) : PureH Tryz.prog (do eqGuard .eql 30 ox oy (.iface 208 (.pointer p)) (.iface 34 (.int .i64 m)); binOp .eql 30 (.iface 208 (.pointer p)) (.iface 34 (.int .i64 m))) K := ⟨⟨_, fun w => by kernel_rfl, hk⟩⟩
theorem eq_je {p : Option Addr} {m : Int} {ox oy : Operand} {K : Value → Prop} (hk : K (.bool false)) : PureH Tryz.prog (do eqGuard .eql 30 ox oy (.iface 220 (.pointer p)) (.iface 34 (.int .i64 m)); binOp .eql 30 (.iface 220 (.pointer p)) (.iface 34 (.int .i64 m))) K := ⟨⟨_, fun w => by kernel_rfl, hk⟩⟩

abbrev Chain := List (Bs × Bs)
/-- wrapped so, about what P says -/
def WrV (H : Heap) : Chain → (Value → Prop) → Value → Prop
  | [], P, v => P v
  | x :: ws, P, v => ∃ g v', v = .iface 208 (.pointer (some ⟨g, 0, none⟩)) ∧ Blk H g #[.string (mkS x.1), .string (mkS x.2), v'] 210 ∧ WrV H ws P v'
def NumV (n : Int) (v : Value) : Prop := v = .iface 34 (.int .i64 n)
inductive Bas
  | num (n : Int)
  | join (l : List (Chain × Int))
def BasV (H : Heap) : Bas → Value → Prop
  | .num n, v => NumV n v
  | .join l, v => ∃ g a cap vs, v = .iface 220 (.pointer (some ⟨g, 0, none⟩)) ∧ Blk H g #[.slice a l.length cap] 223 ∧ l.length ≤ cap ∧ Row H a vs ∧ vs.length = l.length ∧ ∀ (i : Nat) c v, l[i]? = some c → vs[i]? = some v → WrV H c.1 (NumV c.2) v
theorem WrV.mono {H H' : Heap} {P P' : Value → Prop} (k : Ext H H') (hP : ∀ v, P v → P' v) : ∀ (ws : Chain) (v : Value), WrV H ws P v → WrV H' ws P' v
  | [], v, h => hP v h
  | x :: ws, v, ⟨g, v', h1, h2, h3⟩ => ⟨g, v', h1, h2.ext k, WrV.mono k hP ws v' h3⟩
theorem BasV.ext {H H' : Heap} (k : Ext H H') : ∀ (b : Bas) (v : Value), BasV H b v → BasV H' b v
  | .num n, v, h => h
  | .join l, v, ⟨g, a, cap, vs, h1, h2, h3, h4, h5, h6⟩ => ⟨g, a, cap, vs, h1, h2.ext k, h3, h4.ext k, h5, fun i c v hc hv => WrV.mono k (fun _ h => h) _ _ (h6 i c v hc hv)⟩
/-- an error: wrapped so, about this -/
abbrev ErV (H : Heap) (ws : Chain) (b : Bas) (v : Value) : Prop := WrV H ws (BasV H b) v
theorem ErV.ext {H H' : Heap} {ws : Chain} {b : Bas} {v : Value} (h : ErV H ws b v) (k : Ext H H') : ErV H' ws b v := WrV.mono k (BasV.ext k b) ws v h
theorem none_num (n : Int) (H : Heap) : CallH Tryz.prog 117 [.iface 34 (.int .i64 n)] H fun v H' => v = .bool (n == 0) ∧ H = H' := by
  refine Vc.CallH.body Tryz.func117 Tryz.call117 rfl (by decide +kernel) rfl ?_
  ((conv => whnf); repeat (any_goals (first | ((with_reducible apply ta_e_f); (conv => whnf)) | ((with_reducible apply ta_e_e); (conv => whnf)) | ((with_reducible apply ta_e_j); (conv => whnf)) | ((with_reducible apply ta_e_i); (conv => whnf)) | ((with_reducible apply ta_e_u); (conv => whnf)) | ((with_reducible apply ta_e_w); (conv => whnf)) | ((with_reducible apply ta_e_a); (conv => whnf)) | ((with_reducible apply ta_f_f); (conv => whnf)) | ((with_reducible apply ta_f_e); (conv => whnf)) | ((with_reducible apply ta_f_j); (conv => whnf)) | ((with_reducible apply ta_f_i); (conv => whnf)) | ((with_reducible apply ta_f_u); (conv => whnf)) | ((with_reducible apply ta_f_w); (conv => whnf)) | ((with_reducible apply ta_f_a); (conv => whnf)) | ((with_reducible apply ta_j_f); (conv => whnf)) | ((with_reducible apply ta_j_e); (conv => whnf)) | ((with_reducible apply ta_j_j); (conv => whnf)) | ((with_reducible apply ta_j_i); (conv => whnf)) | ((with_reducible apply ta_j_u); (conv => whnf)) | ((with_reducible apply ta_j_w); (conv => whnf)) | ((with_reducible apply ta_j_a); (conv => whnf)) | (refine Vc.stp ?_; intros; (conv => whnf)) | (refine Vc.spl ?_ ?_ <;> (intro _; (conv => whnf))))))
  exact ⟨rfl, rfl⟩
theorem none_f (p : Option Addr) (H : Heap) : CallH Tryz.prog 117 [.iface 208 (.pointer p)] H fun v H' => v = .bool false ∧ H = H' := by
  refine Vc.CallH.body Tryz.func117 Tryz.call117 rfl (by decide +kernel) rfl ?_
  ((conv => whnf); repeat (any_goals (first | ((with_reducible apply ta_e_f); (conv => whnf)) | ((with_reducible apply ta_e_e); (conv => whnf)) | ((with_reducible apply ta_e_j); (conv => whnf)) | ((with_reducible apply ta_e_i); (conv => whnf)) | ((with_reducible apply ta_e_u); (conv => whnf)) | ((with_reducible apply ta_e_w); (conv => whnf)) | ((with_reducible apply ta_e_a); (conv => whnf)) | ((with_reducible apply ta_f_f); (conv => whnf)) | ((with_reducible apply ta_f_e); (conv => whnf)) | ((with_reducible apply ta_f_j); (conv => whnf)) | ((with_reducible apply ta_f_i); (conv => whnf)) | ((with_reducible apply ta_f_u); (conv => whnf)) | ((with_reducible apply ta_f_w); (conv => whnf)) | ((with_reducible apply ta_f_a); (conv => whnf)) | ((with_reducible apply ta_j_f); (conv => whnf)) | ((with_reducible apply ta_j_e); (conv => whnf)) | ((with_reducible apply ta_j_j); (conv => whnf)) | ((with_reducible apply ta_j_i); (conv => whnf)) | ((with_reducible apply ta_j_u); (conv => whnf)) | ((with_reducible apply ta_j_w); (conv => whnf)) | ((with_reducible apply ta_j_a); (conv => whnf)) | (refine Vc.stp ?_; intros; (conv => whnf)) | (refine Vc.spl ?_ ?_ <;> (intro _; (conv => whnf))))))
  exact ⟨rfl, rfl⟩
theorem none_j (p : Option Addr) (H : Heap) : CallH Tryz.prog 117 [.iface 220 (.pointer p)] H fun v H' => v = .bool false ∧ H = H' := by
  refine Vc.CallH.body Tryz.func117 Tryz.call117 rfl (by decide +kernel) rfl ?_
  ((conv => whnf); repeat (any_goals (first | ((with_reducible apply ta_e_f); (conv => whnf)) | ((with_reducible apply ta_e_e); (conv => whnf)) | ((with_reducible apply ta_e_j); (conv => whnf)) | ((with_reducible apply ta_e_i); (conv => whnf)) | ((with_reducible apply ta_e_u); (conv => whnf)) | ((with_reducible apply ta_e_w); (conv => whnf)) | ((with_reducible apply ta_e_a); (conv => whnf)) | ((with_reducible apply ta_f_f); (conv => whnf)) | ((with_reducible apply ta_f_e); (conv => whnf)) | ((with_reducible apply ta_f_j); (conv => whnf)) | ((with_reducible apply ta_f_i); (conv => whnf)) | ((with_reducible apply ta_f_u); (conv => whnf)) | ((with_reducible apply ta_f_w); (conv => whnf)) | ((with_reducible apply ta_f_a); (conv => whnf)) | ((with_reducible apply ta_j_f); (conv => whnf)) | ((with_reducible apply ta_j_e); (conv => whnf)) | ((with_reducible apply ta_j_j); (conv => whnf)) | ((with_reducible apply ta_j_i); (conv => whnf)) | ((with_reducible apply ta_j_u); (conv => whnf)) | ((with_reducible apply ta_j_w); (conv => whnf)) | ((with_reducible apply ta_j_a); (conv => whnf)) | (refine Vc.stp ?_; intros; (conv => whnf)) | (refine Vc.spl ?_ ?_ <;> (intro _; (conv => whnf))))))
  exact ⟨rfl, rfl⟩
/-- is it none -/
def noneB : Chain → Bas → Bool
  | [], .num n => n == 0
  | _, _ => false
theorem none_any {H : Heap} {ws : Chain} {b : Bas} {v : Value} (h : ErV H ws b v) : CallH Tryz.prog 117 [v] H fun u H' => u = .bool (noneB ws b) ∧ H = H' := by
  match ws, b, h with
  | [], .num n, h => obtain rfl := h; exact none_num n H
  | [], .join l, h => obtain ⟨g, a, cap, vs, rfl, _⟩ := h; exact none_j _ H
  | x :: ws, .num n, h => obtain ⟨g, v', rfl, _⟩ := h; exact none_f _ H
  | x :: ws, .join l, h => obtain ⟨g, v', rfl, _⟩ := h; exact none_f _ H
theorem ErV.iface {H : Heap} {ws : Chain} {b : Bas} {v : Value} (h : ErV H ws b v) : ∃ t x, v = .iface t x := by
  match ws, b, h with
  | [], .num n, h => exact ⟨_, _, h⟩
  | [], .join l, h => obtain ⟨g, a, cap, vs, rfl, _⟩ := h; exact ⟨_, _, rfl⟩
  | x :: ws, _, h => obtain ⟨g, v', rfl, _⟩ := h; exact ⟨_, _, rfl⟩
theorem wrap_any (op nm : Bs) {H : Heap} {ws : Chain} {b : Bas} {v : Value} (h : ErV H ws b v) : CallH Tryz.prog 62 [.string (mkS op), .string (mkS nm), v] H fun u H' => (if noneB ws b then u = .nilIface else ErV H' ((op, nm) :: ws) b u) ∧ Ext H H' := by
  have hn := fun H' (k : Ext H H') => none_any (h.ext k)
  obtain ⟨ty, pl, rfl⟩ := h.iface
  cases hb : noneB ws b with
  | true =>
    rw [hb] at hn
    refine Vc.CallH.body Tryz.func62 Tryz.call62 rfl (by decide +kernel) rfl ?_
    ((conv => whnf); repeat (any_goals (first | ((refine (hn _ (by exact Vc.xt)).mono ?_; rintro _ _ ⟨rfl, rfl⟩); (conv => whnf)) | (refine Vc.stp ?_; intros; (conv => whnf)) | (refine Vc.spl ?_ ?_ <;> (intro _; (conv => whnf))))))
    exact ⟨rfl, Ext.refl _⟩
  | false =>
    rw [hb] at hn
    refine Vc.CallH.body Tryz.func62 Tryz.call62 rfl (by decide +kernel) rfl ?_
    ((conv => whnf); repeat (any_goals (first | ((refine (hn _ (by exact Vc.xt)).mono ?_; rintro _ _ ⟨rfl, rfl⟩); (conv => whnf)) | ((refine PureH.build #[.string (mkS op), .string (mkS nm), .iface ty pl] (by kernel_rfl) ?_); (conv => whnf)) | (refine Vc.stp ?_; intros; (conv => whnf)) | (refine Vc.spl ?_ ?_ <;> (intro _; (conv => whnf))))))
    rename_i H1 hs1 hb1 hx1
    exact ⟨⟨_, _, rfl, hb1, h.ext hx1⟩, hx1⟩
end Go.Proofs.YtphkaogbcfdllaaGreatDoor
/- Errors: their texts. -/
namespace Go.Proofs.YtphkaogbcfdllaaGreatDoor
open Go Go.Vc Go.RowKit Go.Sort
/-- what the package variables hold -/
structure Glb (H : Heap) : Prop where
  et : hcell H ⟨0, 0, none⟩ = some (.iface 318 (.agg #[.pointer (some ⟨7, 30, none⟩)]))
  tab : ∃ t fr, H[1]? = some (.cells (Lib.pow10Tab.map fun z => Value.int .u64 z).toArray t fr)
theorem Glb.ext {H H' : Heap} (h : Glb H) (k : Ext H H') : Glb H' := by
  refine ⟨hcell_keep h.et k id, ?_⟩
  obtain ⟨t, fr, h1⟩ := h.tab
  exact ⟨t, fr, by rw [k.same 1 (Array.getElem?_eq_some_iff.1 h1).1 id]; exact h1⟩
theorem grow_drewN (w : World) (k : Nat) (os : Array Obj) : Same w (grow (w.drewN k) os) ∧ Ext w.heap (grow (w.drewN k) os).heap := by
  have h : (w.drewN k).heap = w.heap ∧ (w.drewN k).os = w.os ∧ (w.drewN k).tape = w.tape ∧ (w.drewN k).output = w.output := ⟨rfl, rfl, rfl, rfl⟩
  obtain ⟨h1, h2, h3, h4⟩ := h
  refine ⟨⟨h2, h3, h4⟩, ?_, fun b hb _ => ?_⟩
  · show w.heap.size ≤ ((w.drewN k).heap ++ os).size
    rw [h1, Array.size_append]; omega
  · show ((w.drewN k).heap ++ os)[b]? = _
    rw [h1, Array.getElem?_append_left hb]
theorem itoa_any {H : Heap} (hg : Glb H) (n : Int) (h0 : -9223372036854775808 ≤ n) (h1 : n ≤ 9223372036854775807) : CallH Tryz.prog 63 [.int .i64 n] H fun v H' => v = .string (mkS (Lib.itoa n)) ∧ Ext H H' := by
  refine CallH.calls Tryz.call63 fun w hw => ?_
  obtain ⟨t, fr, ht⟩ := hg.tab
  refine Calls.mono (Any.strconv_Itoa Tryz.laysM171 n h0 h1 w ?_) ?_
  · show (Option.bind (some _) _) = _
    rw [hw]
    simp [ht]
  · rintro e w' ⟨h1, k, os, rfl⟩
    obtain ⟨h2, h3⟩ := grow_drewN w k os
    exact ⟨_, h1, h2, rfl, hw ▸ h3⟩
def errS (n : Int) : Bs := [101, 114, 114, 32] ++ Lib.itoa n
/-- an error's text -/
def wrS : Chain → Bs → Bs
  | [], t => t
  | x :: ws, t => x.1 ++ 32 :: (x.2 ++ 58 :: 32 :: wrS ws t)
def I64 (n : Int) : Prop := -9223372036854775808 ≤ n ∧ n ≤ 9223372036854775807
theorem dd_len : ∀ (k u : Nat), u < 10 ^ (k + 1) → (Lib.decDigits u).length ≤ k + 1
  | k, u, h => by
    rw [Lib.decDigits]
    split
    · simp
    · cases k with
      | zero => omega
      | succ k =>
        have := dd_len k (u / 10) (by rw [Nat.pow_succ] at h; omega)
        simp; omega
theorem itoa_len (n : Int) (h : I64 n) : (Lib.itoa n).length ≤ 30 := by
  unfold I64 at h
  unfold Lib.itoa
  split
  · have := dd_len 18 n.natAbs (by show n.natAbs < 10 ^ 19; omega)
    simp; omega
  · have := dd_len 18 n.toNat (by show n.toNat < 10 ^ 19; omega)
    omega
theorem error_num {H : Heap} (hg : Glb H) (n : Int) (h : I64 n) : CallH Tryz.prog 138 [.int .i64 n] H fun v H' => v = .string (mkS (errS n)) ∧ Ext H H' := by
  have hl := itoa_len n h
  have h1 : (mkS (Lib.itoa n)).size = (Lib.itoa n).length := rfl
  have h2 : (⟨#[101, 114, 114, 32]⟩ : ByteArray).size = 4 := rfl
  refine Vc.CallH.body Tryz.func138 Tryz.call138 rfl (by decide +kernel) rfl ?_
  ((conv => whnf); repeat (any_goals (first | ((refine (itoa_any (hg.ext (by exact Vc.xt)) n h.1 h.2).mono ?_; rintro _ H1 ⟨rfl, hx1⟩; have hz1 := hx1.size); (conv => whnf)) | (refine Vc.stp ?_; intros; (conv => whnf)) | (refine Vc.spl ?_ ?_ <;> (intro _; (conv => whnf))))))
  exact ⟨congrArg Value.string (mkS_app [101, 114, 114, 32] _), hx1⟩
theorem said_num {H : Heap} (hg : Glb H) (n : Int) (h : I64 n) : CallH Tryz.prog 78 [.iface 34 (.int .i64 n)] H fun v H' => v = .string (mkS (errS n)) ∧ Ext H H' := by
  refine Vc.CallH.body Tryz.func78 Tryz.call78 rfl (by decide +kernel) rfl ?_
  ((conv => whnf); repeat (any_goals (first | ((with_reducible apply ta_e_f); (conv => whnf)) | ((with_reducible apply ta_e_e); (conv => whnf)) | ((with_reducible apply ta_e_j); (conv => whnf)) | ((with_reducible apply ta_e_i); (conv => whnf)) | ((with_reducible apply ta_e_u); (conv => whnf)) | ((with_reducible apply ta_e_w); (conv => whnf)) | ((with_reducible apply ta_e_a); (conv => whnf)) | ((with_reducible apply ta_f_f); (conv => whnf)) | ((with_reducible apply ta_f_e); (conv => whnf)) | ((with_reducible apply ta_f_j); (conv => whnf)) | ((with_reducible apply ta_f_i); (conv => whnf)) | ((with_reducible apply ta_f_u); (conv => whnf)) | ((with_reducible apply ta_f_w); (conv => whnf)) | ((with_reducible apply ta_f_a); (conv => whnf)) | ((with_reducible apply ta_j_f); (conv => whnf)) | ((with_reducible apply ta_j_e); (conv => whnf)) | ((with_reducible apply ta_j_j); (conv => whnf)) | ((with_reducible apply ta_j_i); (conv => whnf)) | ((with_reducible apply ta_j_u); (conv => whnf)) | ((with_reducible apply ta_j_w); (conv => whnf)) | ((with_reducible apply ta_j_a); (conv => whnf)) | ((refine (error_num (hg.ext (by exact Vc.xt)) n h).mono ?_; rintro _ H1 ⟨rfl, hx1⟩; have hz1 := hx1.size); (conv => whnf)) | (refine Vc.stp ?_; intros; (conv => whnf)) | (refine Vc.spl ?_ ?_ <;> (intro _; (conv => whnf))))))
  exact ⟨rfl, hx1⟩
/-- lengths of what wraps are small -/
def Small (ws : Chain) : Prop := ws.length ≤ 20 ∧ ∀ x ∈ ws, x.1.length ≤ 100 ∧ x.2.length ≤ 100
theorem Small.tail {x : Bs × Bs} {ws : Chain} (h : Small (x :: ws)) : Small ws := ⟨by have := h.1; simp only [List.length_cons] at this; omega, fun y hy => h.2 y (by simp [hy])⟩
theorem wrS_len : ∀ (ws : Chain) (t : Bs), Small ws → (wrS ws t).length ≤ 300 * ws.length + t.length
  | [], t, _ => by simp [wrS]
  | x :: ws, t, h => by
    have h1 := wrS_len ws t h.tail
    have h2 := h.2 x (by simp)
    simp only [wrS, List.length_append, List.length_cons]; omega
/-- what tells an error's text, told of what is wrapped -/
theorem said_wr {P : Heap → Value → Prop} {t : Bs} (ht : t.length ≤ 1000000) (hP : ∀ H H' v, P H v → Ext H H' → P H' v) (hi : ∀ H v, P H v → ∃ t x, v = .iface t x)
    (hs : ∀ H v, Glb H → P H v → CallH Tryz.prog 78 [v] H fun u H' => u = .string (mkS t) ∧ Ext H H') :
    ∀ (ws : Chain) (H : Heap) (v : Value), Small ws → Glb H → WrV H ws (P H) v → CallH Tryz.prog 78 [v] H fun u H' => u = .string (mkS (wrS ws t)) ∧ Ext H H'
  | [], H, v, _, hg, h => hs H v hg h
  | x :: ws, H, v, hsm, hg, ⟨g, v', hv, hb, hw⟩ => by
    subst hv
    have ih := fun H' (k : Ext H H') => said_wr ht hP hi hs ws H' v' hsm.tail (hg.ext k) (WrV.mono k (fun u hu => hP _ _ _ hu k) ws v' hw)
    obtain ⟨ty, pl, rfl⟩ : ∃ t x, v' = .iface t x := by
      cases ws with
      | nil => exact hi _ _ hw
      | cons y ws => obtain ⟨g2, v2, h2, _⟩ := hw; exact ⟨_, _, h2⟩
    have hxl := hsm.2 x (by simp)
    have hwl := wrS_len ws t hsm.tail
    have hwn := hsm.1
    simp only [List.length_cons] at hwn
    have htext : ∀ H' (k : Ext H H'), CallH Tryz.prog 31 [.iface ty pl] H' fun u H'' => u = .string (mkS (wrS ws t)) ∧ Ext H' H'' := by
      intro H1 k
      refine Vc.CallH.body Tryz.func31 Tryz.call31 rfl (by decide +kernel) rfl ?_
      ((conv => whnf); repeat (any_goals (first | ((refine (ih _ (k.trans (by exact Vc.xt))).mono ?_; rintro _ H2 ⟨rfl, hx2⟩; have hz2 := hx2.size); (conv => whnf)) | (refine Vc.stp ?_; intros; (conv => whnf)) | (refine Vc.spl ?_ ?_ <;> (intro _; (conv => whnf))))))
      exact ⟨rfl, hx2⟩
    have herr : CallH Tryz.prog 137 [.pointer (some ⟨g, 0, none⟩)] H fun u H' => u = .string (mkS (wrS (x :: ws) t)) ∧ Ext H H' := by
      have h1 : (mkS x.1).size = x.1.length := rfl
      have h2 : (mkS x.2).size = x.2.length := rfl
      have h3 : (mkS (wrS ws t)).size = (wrS ws t).length := rfl
      have h4 : (⟨#[32]⟩ : ByteArray).size = 1 := rfl
      have h5 : (⟨#[58, 32]⟩ : ByteArray).size = 2 := rfl
      refine Vc.CallH.body Tryz.func137 Tryz.call137 rfl (by decide +kernel) rfl ?_
      ((conv => whnf); repeat (any_goals (first | ((refine (htext _ (by exact Vc.xt)).mono ?_; rintro _ H1 ⟨rfl, hx1⟩; have hz1 := hx1.size); (conv => whnf)) | ((refine NeedH.mk ⟨by (simp only [ByteArray.size_append]; omega), ?_⟩); (conv => whnf)) | (refine Vc.stp ?_; intros; (conv => whnf)) | (refine Vc.spl ?_ ?_ <;> (intro _; (conv => whnf))))))
      all_goals exact ⟨by show Value.string ((((mkS x.1 ++ mkS [32]) ++ mkS x.2) ++ mkS [58, 32]) ++ mkS (wrS ws t)) = _; simp only [mkS_app, wrS, List.append_assoc]; rfl, by exact Vc.xt⟩
    refine Vc.CallH.body Tryz.func78 Tryz.call78 rfl (by decide +kernel) rfl ?_
    ((conv => whnf); repeat (any_goals (first | ((with_reducible apply ta_e_f); (conv => whnf)) | ((with_reducible apply ta_e_e); (conv => whnf)) | ((with_reducible apply ta_e_j); (conv => whnf)) | ((with_reducible apply ta_e_i); (conv => whnf)) | ((with_reducible apply ta_e_u); (conv => whnf)) | ((with_reducible apply ta_e_w); (conv => whnf)) | ((with_reducible apply ta_e_a); (conv => whnf)) | ((with_reducible apply ta_f_f); (conv => whnf)) | ((with_reducible apply ta_f_e); (conv => whnf)) | ((with_reducible apply ta_f_j); (conv => whnf)) | ((with_reducible apply ta_f_i); (conv => whnf)) | ((with_reducible apply ta_f_u); (conv => whnf)) | ((with_reducible apply ta_f_w); (conv => whnf)) | ((with_reducible apply ta_f_a); (conv => whnf)) | ((with_reducible apply ta_j_f); (conv => whnf)) | ((with_reducible apply ta_j_e); (conv => whnf)) | ((with_reducible apply ta_j_j); (conv => whnf)) | ((with_reducible apply ta_j_i); (conv => whnf)) | ((with_reducible apply ta_j_u); (conv => whnf)) | ((with_reducible apply ta_j_w); (conv => whnf)) | ((with_reducible apply ta_j_a); (conv => whnf)) | ((refine herr.mono ?_; rintro _ H1 ⟨rfl, hx1⟩; have hz1 := hx1.size); (conv => whnf)) | (refine Vc.stp ?_; intros; (conv => whnf)) | (refine Vc.spl ?_ ?_ <;> (intro _; (conv => whnf))))))
    exact ⟨rfl, hx1⟩
end Go.Proofs.YtphkaogbcfdllaaGreatDoor
/- Build scripts at work, the code: the tables of which lines belong together. -/
namespace Go.Proofs.YtphkaogbcfdllaaGreatDoor
open Go Go.Vc Go.Scr Go.Pth Go.Tre Go.Blk Go.Run
theorem jumpsB {K : Value → Prop} {o1 o2 : Operand} {a b : Option Addr} {n m c d : Nat} (h : K (.agg #[.slice a n c, .slice b m d])) : PureH Tryz.prog (Instr.build 136 ((List.map (fun x : Nat × Operand => x.1) (#[(0, o1), (1, o2)] : Array (Nat × Operand)).toList).zip [.slice a n c, .slice b m d]).toArray) K := PureH.build _ (by kernel_rfl) h
theorem Tab.ext {H H' : Heap} {B g n : Nat} {l : List Nat} (h : Tab H B g n l) (k : Ext H H') : Tab H' B g n l := Own.ext h k
theorem Tab.but {H H' : Heap} {B g b n : Nat} {l : List Nat} (h : Tab H B g n l) (k : But b H H') (hb : g ≠ b) : Tab H' B g n l := Own.keep h k fun p hp e => by cases hp; exact hb e
structure FdJ (H H1 H' : Heap) (n gj go gh : Nat) : Prop where
  blk : Blk H' gj #[.slice (some ⟨go, 0, none⟩) n n, .slice (some ⟨gh, 0, none⟩) n n] 136
  oth : Tab H' H.size go n (List.replicate n 0)
  hds : Tab H' H.size gh n (List.replicate n 0)
  ne : go ≠ gh
  low : H1.size ≤ gj
  lo : H1.size ≤ go
  lh : H1.size ≤ gh
  ext : Ext H1 H'
/-- what lies below the slices of what is open -/
structure FnB (H H2 H' : Heap) (n gj go gh : Nat) (O Hd : List Nat) : Prop where
  blk : Blk H' gj #[.slice (some ⟨go, 0, none⟩) n n, .slice (some ⟨gh, 0, none⟩) n n] 136
  res : Blk H' H.size #[Value.slice none 0 0, Value.slice none 0 0] 136
  oth : Tab H' H.size go n O
  hds : Tab H' H.size gh n Hd
  ext : Ext H H'
  lt : gj < H2.size ∧ go < H2.size ∧ gh < H2.size ∧ H.size < H2.size
  ne : go ≠ gh ∧ H.size ≠ gj ∧ H.size ≠ go ∧ H.size ≠ gh ∧ gj ≠ go ∧ gj ≠ gh
  low : H2.size ≤ H'.size
theorem FnB.up {H H2 H' H'' : Heap} {n gj go gh : Nat} {O Hd : List Nat} (h : FnB H H2 H' n gj go gh O Hd) (k : Only (fun x => H2.size ≤ x) H' H'') : FnB H H2 H'' n gj go gh O Hd := by
  have hl := h.lt
  have hc := h.res
  exact ⟨h.blk.keep k (by omega), hc.keep k (by omega), h.oth.keep k fun p hp => by cases hp; dsimp only; omega, h.hds.keep k fun p hp => by cases hp; dsimp only; omega, Only.trans h.ext k fun b hb e => by omega, h.lt, h.ne, Nat.le_trans h.low k.size⟩
theorem FnB.ext' {H H2 H' H'' : Heap} {n gj go gh : Nat} {O Hd : List Nat} (h : FnB H H2 H' n gj go gh O Hd) (k : Ext H' H'') : FnB H H2 H'' n gj go gh O Hd := h.up (k.mono fun _ e => e.elim)
theorem FnB.setO {H H2 H' H'' : Heap} {n gj go gh : Nat} {O O' Hd : List Nat} (h : FnB H H2 H' n gj go gh O Hd) (hO : Tab H'' H.size go n O') (k : But go H' H'') : FnB H H2 H'' n gj go gh O' Hd := by
  obtain ⟨n1, n2, n3, n4, n5, n6⟩ := h.ne
  have hc := h.res
  have hb := (h.oth.block _ rfl).1
  dsimp only at hb
  exact ⟨h.blk.but k n5, hc.but k n3, hO, Tab.but h.hds k n1.symm, h.ext.but k hb, h.lt, h.ne, Nat.le_trans h.low k.size⟩
theorem FnB.setH {H H2 H' H'' : Heap} {n gj go gh : Nat} {O Hd Hd' : List Nat} (h : FnB H H2 H' n gj go gh O Hd) (hO : Tab H'' H.size gh n Hd') (k : But gh H' H'') : FnB H H2 H'' n gj go gh O Hd' := by
  obtain ⟨n1, n2, n3, n4, n5, n6⟩ := h.ne
  have hc := h.res
  have hb := (h.hds.block _ rfl).1
  dsimp only at hb
  exact ⟨h.blk.but k n6, hc.but k n4, Tab.but h.oth k n1, hO, h.ext.but k hb, h.lt, h.ne, Nat.le_trans h.low k.size⟩
abbrev IntS (H' : Heap) (B : Nat) (a : Option Addr) (c : Nat) (l : List Nat) : Prop := Own H' B 3 1 a l.length c (natV l)
def opF (K : List Nat) (i : Nat) : List Nat := ((stF K i).map (·.2)).reverse
def hsF (K : List Nat) (i : Nat) : List Nat := ((stF K i).map (·.1)).reverse
theorem wr_low {B n cap : Nat} {a : Option Addr} {xs : List Value} {H H' : Heap} (ho : Own H B 3 1 a n cap xs) (hw : Wr a H H') : Only (fun x => B ≤ x) H H' := hw.mono fun b ⟨p, hp, e⟩ => by have := (ho.block p hp).1; omega
/-- a number behind a row of the call's own -/
theorem NextH.pushN {H : Heap} {u ty : TypeId} {a : Option Addr} {cap g base m : Nat} {l : List Nat} {cb : Array Bool} {K : Value → Heap → Prop}
    (hown : IntS H base a cap l) (hlit : Blk H g #[.int .i64 (m : Int)] 3) (hn : l.length ≤ 1000000) (hb : base ≤ H.size) (hu : ∃ d, Tryz.prog.underlying u = some d ∧ (∀ k, d ≠ .int k))
    (hk : ∀ a' cap' H', IntS H' base a' cap' (l ++ [m]) → Wr a H H' → (∀ p, a' = some p → a' = a ∨ H.size ≤ p.block) → K (.slice a' (l.length + 1) cap') H') :
    NextH Tryz.prog (builtin .append #[125, u] ty cb #[.slice a l.length cap, .slice (some ⟨g, 0, none⟩) 1 1]) H K := by
  refine NextH.append (i := Tryz.t3) (z := .int .i64 0) (m := 1) (news := [.int .i64 (m : Int)]) rfl hu rfl rfl rfl hown (Src.row (c := 1) (Blk.row (c := [.int .i64 (m : Int)]) hlit) rfl (by simp [plainV])) (by unfold maxLen; omega) ?_ hb fun a' cap' H' h1 h2 h3 => hk a' cap' H' ?_ h2 h3
  · show (l.length + 1) * 8 ≤ _; omega
  · show Own _ _ _ 1 _ (l ++ [m]).length _ _
    rw [List.length_append, natV_append]; exact h1
theorem stF_len (K : List Nat) : ∀ i, (stF K i).length ≤ i
  | 0 => Nat.le_refl _
  | i + 1 => by
    have ih := stF_len K i
    rw [stF]
    split
    · rename_i k _
      unfold stS
      split
      · rw [List.length_cons]; omega
      split
      · cases hs : stF K i with
        | nil => exact Nat.zero_le _
        | cons p t => rw [hs] at ih; rw [List.length_cons] at ih ⊢; omega
      split
      · rw [List.length_tail]; omega
      · omega
    · omega
theorem opF_len (K : List Nat) (i : Nat) : (opF K i).length ≤ i := by unfold opF; rw [List.length_reverse, List.length_map]; exact stF_len K i
theorem hsF_len (K : List Nat) (i : Nat) : (hsF K i).length ≤ i := by unfold hsF; rw [List.length_reverse, List.length_map]; exact stF_len K i
structure FnS where
  i : Nat
  a : Option Addr
  c : Nat
  ah : Option Addr
  ch : Nat
  O : List Nat
  Hd : List Nat
set_option maxHeartbeats 8000000 in
theorem find_any {H : Heap} {al : Option Addr} {cl n : Nat} {L : List Ln} (hr : Row H al (lnsV L)) (hl : L.length = n) (hn : n ≤ 1000000) (hne : Nested (kindsL L)) :
    CallH Tryz.prog 60 [.slice al n cl] H fun v H' => (∃ go gh O Hd, v = .agg #[.slice (some ⟨go, 0, none⟩) n n, .slice (some ⟨gh, 0, none⟩) n n] ∧ Tab H' H.size go n O ∧ Tab H' H.size gh n Hd ∧ Go.Blk.Tables (kindsL L) O Hd) ∧ Ext H H' := by
  refine Vc.CallH.body Tryz.func60 Tryz.call60 rfl (by decide +kernel) rfl ?_
  ((conv => whnf); repeat (any_goals (first | (((with_reducible apply SemH.make); (focus (rfl)); (focus (rfl)); (focus (rfl)); (focus ((show 8 * n ≤ _; omega))); (focus ((unfold maxLen; omega))); (focus ((intro H1 ho1 hx1; (conv => whnf))))); (conv => whnf)) | ((first | (with_reducible refine Vc.DrawH.lin (id := 1) mixed ?_) | (with_reducible refine Vc.DrawL.split (es := []) 2 5 (by decide) (by decide) (by decide) ?_ ?_) | (with_reducible refine Vc.DrawL.split (es := [(2, 5)]) 2 7 (by decide) (by decide) (by decide) ?_ ?_) | (with_reducible refine Vc.DrawL.split (es := [(2, 7), (2, 5)]) 5 7 (by decide) (by decide) (by decide) ?_ ?_) | (with_reducible refine Vc.DrawL.held (es := [(5, 7), (2, 7), (2, 5)]) [0, 1, 3, 4, 2, 5, 6, 7, 8] [] (by decide +kernel) ?_) | (with_reducible refine Vc.DrawL.held (es := [(7, 5), (2, 7), (2, 5)]) [0, 1, 3, 4, 2, 7, 5, 6, 8] [] (by decide +kernel) ?_) | (with_reducible refine Vc.DrawL.held (es := [(7, 2), (2, 5)]) [0, 1, 3, 4, 7, 2, 5, 6, 8] [] (by decide +kernel) ?_) | (with_reducible refine Vc.DrawL.split (es := [(5, 2)]) 5 7 (by decide) (by decide) (by decide) ?_ ?_) | (with_reducible refine Vc.DrawL.split (es := [(5, 7), (5, 2)]) 2 7 (by decide) (by decide) (by decide) ?_ ?_) | (with_reducible refine Vc.DrawL.held (es := [(2, 7), (5, 7), (5, 2)]) [0, 1, 3, 4, 5, 2, 6, 7, 8] [] (by decide +kernel) ?_) | (with_reducible refine Vc.DrawL.held (es := [(7, 2), (5, 7), (5, 2)]) [0, 1, 3, 4, 5, 7, 2, 6, 8] [] (by decide +kernel) ?_) | (with_reducible refine Vc.DrawL.held (es := [(7, 5), (5, 2)]) [0, 1, 3, 4, 7, 5, 2, 6, 8] [] (by decide +kernel) ?_)); (conv => whnf)) | (((with_reducible refine Vc.DrawH.held [0, 1, 2, 3, 4, 5, 6, 7, 8, 9, 10, 11, 12, 13, 14, 15, 16, 17, 18, 19] [(17, [8])] mixed (by decide +kernel) ?_)); (conv => whnf)) | (refine Vc.stq ?_; intros; (conv => whnf)) | (refine Vc.spl ?_ ?_ <;> (intro _; (conv => whnf))))))
  rename_i H1 z1 b1 x1
  have fin : ∀ {env : Env} {H' : Heap} {gj go gh : Nat}, Blk H' gj #[.slice (some ⟨go, 0, none⟩) n n, .slice (some ⟨gh, 0, none⟩) n n] 136 → Bears env [(3, .pointer (some ⟨gj, 0, none⟩))] → Tab H' H.size go n (List.replicate n 0) → Tab H' H.size gh n (List.replicate n 0) → go ≠ gh → H1.size ≤ gj → H1.size ≤ go → H1.size ≤ gh → Ext H1 H' →
      ∃ s : Nat × Nat × Nat, Bears env [(3, .pointer (some ⟨s.1, 0, none⟩))] ∧ FdJ H H1 H' n s.1 s.2.1 s.2.2 := fun a b c d e f l1 l2 g => ⟨(_, _, _), b, a, c, d, e, f, l1, l2, g⟩
  refine SeqH.cut (fun (x : Nat × Nat × Nat) => [(3, .pointer (some ⟨x.1, 0, none⟩))]) (fun x H' => FdJ H H1 H' n x.1 x.2.1 x.2.2) ?_ ?_
  · ((conv => whnf); repeat (any_goals (first | (((with_reducible apply SemH.make); (focus (rfl)); (focus (rfl)); (focus (rfl)); (focus ((show 8 * n ≤ _; omega))); (focus ((unfold maxLen; omega))); (focus ((intro Hx hox hxx; replace hox : Tab Hx _ _ n (List.replicate n 0) := (by (show Own _ _ _ 1 _ _ _ (natV (List.replicate n 0))); rw [← nat_made]; exact hox); replace hox : Tab Hx H.size _ n (List.replicate n 0) := Go.Vc.Own.base hox (by omega); have hzx := hxx.size; have hwx := (show _ < Hx.size from (hox.block _ rfl).2); dsimp only at hwx; (conv => whnf))))); (conv => whnf)) | (((with_reducible apply jumpsB); (focus ((conv => whnf)))); (conv => whnf)) | ((first | (with_reducible refine Vc.DrawH.lin (id := 1) mixed ?_) | (with_reducible refine Vc.DrawL.split (es := []) 2 5 (by decide) (by decide) (by decide) ?_ ?_) | (with_reducible refine Vc.DrawL.split (es := [(2, 5)]) 2 7 (by decide) (by decide) (by decide) ?_ ?_) | (with_reducible refine Vc.DrawL.split (es := [(2, 7), (2, 5)]) 5 7 (by decide) (by decide) (by decide) ?_ ?_) | (with_reducible refine Vc.DrawL.held (es := [(5, 7), (2, 7), (2, 5)]) [0, 1, 3, 4, 2, 5, 6, 7, 8] [] (by decide +kernel) ?_) | (with_reducible refine Vc.DrawL.held (es := [(7, 5), (2, 7), (2, 5)]) [0, 1, 3, 4, 2, 7, 5, 6, 8] [] (by decide +kernel) ?_) | (with_reducible refine Vc.DrawL.held (es := [(7, 2), (2, 5)]) [0, 1, 3, 4, 7, 2, 5, 6, 8] [] (by decide +kernel) ?_) | (with_reducible refine Vc.DrawL.split (es := [(5, 2)]) 5 7 (by decide) (by decide) (by decide) ?_ ?_) | (with_reducible refine Vc.DrawL.split (es := [(5, 7), (5, 2)]) 2 7 (by decide) (by decide) (by decide) ?_ ?_) | (with_reducible refine Vc.DrawL.held (es := [(2, 7), (5, 7), (5, 2)]) [0, 1, 3, 4, 5, 2, 6, 7, 8] [] (by decide +kernel) ?_) | (with_reducible refine Vc.DrawL.held (es := [(7, 2), (5, 7), (5, 2)]) [0, 1, 3, 4, 5, 7, 2, 6, 8] [] (by decide +kernel) ?_) | (with_reducible refine Vc.DrawL.held (es := [(7, 5), (5, 2)]) [0, 1, 3, 4, 7, 5, 2, 6, 8] [] (by decide +kernel) ?_)); (conv => whnf)) | (((with_reducible refine Vc.DrawH.held [0, 1, 2, 3, 4, 5, 6, 7, 8, 9, 10, 11, 12, 13, 14, 15, 16, 17, 18, 19] [(17, [8])] mixed (by decide +kernel) ?_)); (conv => whnf)) | (refine Vc.stp ?_; intros; (conv => whnf)) | (refine Vc.spl ?_ ?_ <;> (intro _; (conv => whnf))))))
    all_goals (refine fin (by assumption) ⟨rfl, trivial⟩ ?_ ?_ ?_ ?_ ?_ ?_ ?_ <;> first | omega | (exact Vc.xt; done) | ((repeat (first | assumption | ((with_reducible apply Tab.ext); (case k => assumption)) | ((with_reducible apply Tab.but); (case k => assumption); (case hb => omega)))); done))
  · rintro ⟨gj, go, gh⟩ H2 hj
    have hj : FdJ H H1 H2 n gj go gh := hj
    have hz2 := hj.ext.size
    have hbo := hj.oth.blk (by simp)
    have hbh := hj.hds.blk (by simp)
    have hB : FnB H H2 H2 n gj go gh (List.replicate n 0) (List.replicate n 0) := by
      have hlt := hj.blk.lt
      have h3 := hbo.lt
      have h4 := hbh.lt
      have := hj.low
      have := hj.lo
      have := hj.lh
      refine ⟨hj.blk, b1.ext hj.ext, hj.oth, hj.hds, x1.trans hj.ext, by omega, ⟨hj.ne, by omega, by omega, by omega, fun e => ?_, fun e => ?_⟩, Nat.le_refl _⟩
      · have := hj.blk; rw [e] at this; exact absurd (blk_one this hbo).1 (by decide)
      · have := hj.blk; rw [e] at this; exact absurd (blk_one this hbh).1 (by decide)
    have hkl : (kindsL L).length = n := by rw [kinds_len, hl]
    ((conv => whnf); repeat (any_goals (first | ((first | (with_reducible refine Vc.DrawH.lin (id := 1) mixed ?_) | (with_reducible refine Vc.DrawL.split (es := []) 2 5 (by decide) (by decide) (by decide) ?_ ?_) | (with_reducible refine Vc.DrawL.split (es := [(2, 5)]) 2 7 (by decide) (by decide) (by decide) ?_ ?_) | (with_reducible refine Vc.DrawL.split (es := [(2, 7), (2, 5)]) 5 7 (by decide) (by decide) (by decide) ?_ ?_) | (with_reducible refine Vc.DrawL.held (es := [(5, 7), (2, 7), (2, 5)]) [0, 1, 3, 4, 2, 5, 6, 7, 8] [] (by decide +kernel) ?_) | (with_reducible refine Vc.DrawL.held (es := [(7, 5), (2, 7), (2, 5)]) [0, 1, 3, 4, 2, 7, 5, 6, 8] [] (by decide +kernel) ?_) | (with_reducible refine Vc.DrawL.held (es := [(7, 2), (2, 5)]) [0, 1, 3, 4, 7, 2, 5, 6, 8] [] (by decide +kernel) ?_) | (with_reducible refine Vc.DrawL.split (es := [(5, 2)]) 5 7 (by decide) (by decide) (by decide) ?_ ?_) | (with_reducible refine Vc.DrawL.split (es := [(5, 7), (5, 2)]) 2 7 (by decide) (by decide) (by decide) ?_ ?_) | (with_reducible refine Vc.DrawL.held (es := [(2, 7), (5, 7), (5, 2)]) [0, 1, 3, 4, 5, 2, 6, 7, 8] [] (by decide +kernel) ?_) | (with_reducible refine Vc.DrawL.held (es := [(7, 2), (5, 7), (5, 2)]) [0, 1, 3, 4, 5, 7, 2, 6, 8] [] (by decide +kernel) ?_) | (with_reducible refine Vc.DrawL.held (es := [(7, 5), (5, 2)]) [0, 1, 3, 4, 7, 5, 2, 6, 8] [] (by decide +kernel) ?_)); (conv => whnf)) | (((with_reducible refine Vc.DrawH.held [0, 1, 2, 3, 4, 5, 6, 7, 8, 9, 10, 11, 12, 13, 14, 15, 16, 17, 18, 19] [(17, [8])] mixed (by decide +kernel) ?_)); (conv => whnf)) | (refine Vc.stp ?_; intros; (conv => whnf)))))
    refine LoopH.intro (fun (x : FnS) => [(19, .int .i64 x.i), (4, .slice x.a (opF (kindsL L) x.i).length x.c), (5, .slice x.ah (hsF (kindsL L) x.i).length x.ch)]) (fun x H' => x.i ≤ n ∧ FindI (kindsL L) x.i x.O x.Hd ∧ FnB H H2 H' n gj go gh x.O x.Hd ∧ IntS H' H2.size x.a x.c (opF (kindsL L) x.i) ∧ IntS H' H2.size x.ah x.ch (hsF (kindsL L) x.i) ∧ (∀ p q, x.a = some p → x.ah = some q → p.block ≠ q.block)) (fun x => n - x.i) ⟨0, none, 0, none, 0, List.replicate n 0, List.replicate n 0⟩ ⟨rfl, rfl, rfl, trivial⟩ ⟨Nat.zero_le _, by rw [← hkl]; exact FindI.zero _, hB, Own.nil _ _ _ _, Own.nil _ _ _ _, fun p q hp => by cases hp⟩ ?_
    rintro ⟨i, a, ca, ah, ch, O, Hd⟩ H3 ⟨hi, hfi, hB3, ho, hh, hap⟩
    dsimp only at hi hfi hB3 ho hh hap ⊢
    have hz3 := hB3.low
    have hol := opF_len (kindsL L) i
    have hhl := hsF_len (kindsL L) i
    by_cases hlt : i < n
    · obtain ⟨x, hx⟩ : ∃ x, L[i]? = some x := ⟨_, List.getElem?_eq_getElem (by omega)⟩
      have hk := kinds_get hx
      obtain ⟨k, hxk⟩ : ∃ k, x.k = k := ⟨_, rfl⟩
      rw [hxk] at hk
      by_cases h78 : k = 7 ∨ k = 8
      · have eop : opF (kindsL L) (i + 1) = opF (kindsL L) i ++ [i] := by unfold opF; rw [stF_succ hk]; unfold stS; rw [if_pos h78]; simp
        have ehs : hsF (kindsL L) (i + 1) = hsF (kindsL L) i ++ [i] := by unfold hsF; rw [stF_succ hk]; unfold stS; rw [if_pos h78]; simp
        have hf2 := hfi.open hk h78
        have end2 : ∀ {env : Env} {H5 H6 H7 H8 : Heap} {a6 a8 : Option Addr} {c6 c8 : Nat}, Ext H3 H5 → FnB H H2 H6 n gj go gh O Hd → IntS H6 H2.size a6 c6 (opF (kindsL L) i ++ [i]) → IntS H6 H2.size ah ch (hsF (kindsL L) i) → H5.size ≤ H6.size → (∀ p, a6 = some p → a6 = a ∨ H5.size ≤ p.block) → Ext H6 H7 → IntS H8 H2.size a8 c8 (hsF (kindsL L) i ++ [i]) → Wr ah H7 H8 → (∀ p, a8 = some p → a8 = ah ∨ H7.size ≤ p.block) →
            Bears env [(19, .int .i64 ((i : Int) + 1)), (4, .slice a6 ((opF (kindsL L) i).length + 1) c6), (5, .slice a8 ((hsF (kindsL L) i).length + 1) c8)] →
            ∃ s' : FnS, Bears env [(19, .int .i64 s'.i), (4, .slice s'.a (opF (kindsL L) s'.i).length s'.c), (5, .slice s'.ah (hsF (kindsL L) s'.i).length s'.ch)] ∧ (s'.i ≤ n ∧ FindI (kindsL L) s'.i s'.O s'.Hd ∧ FnB H H2 H8 n gj go gh s'.O s'.Hd ∧ IntS H8 H2.size s'.a s'.c (opF (kindsL L) s'.i) ∧ IntS H8 H2.size s'.ah s'.ch (hsF (kindsL L) s'.i) ∧ (∀ p q, s'.a = some p → s'.ah = some q → p.block ≠ q.block)) ∧ n - s'.i < n - i := by
          intro env H5 H6 H7 H8 a6 a8 c6 c8 k35 hB6 ho6 hh6 hz56 hf6 k67 hh8 hw8 hf8 hbe
          have hap6 : ∀ p q, a6 = some p → ah = some q → p.block ≠ q.block := fun p q hp hq => by
            rcases hf6 p hp with e | e
            · exact hap p q (e ▸ hp) hq
            · have := (hh.block q hq).2
              have := k35.size
              omega
          have ho8 : IntS H8 H2.size a6 c6 (opF (kindsL L) i ++ [i]) := (ho6.ext k67).keep hw8 fun p hp ⟨q, hq, e⟩ => hap6 p q hp hq e.symm
          refine ⟨⟨i + 1, a6, c6, a8, c8, O, Hd⟩, ?_, ⟨by show i + 1 ≤ n; omega, hf2, (hB6.ext' k67).up (wr_low (hh6.ext k67) hw8), by dsimp only; rw [eop]; exact ho8, by dsimp only; rw [ehs]; exact hh8, fun p q hp hq => ?_⟩, by show n - (i + 1) < n - i; omega⟩
          · dsimp only
            rw [eop, ehs, List.length_append, List.length_append]
            exact hbe
          · rcases hf8 q hq with e | e
            · exact hap6 p q hp (e ▸ hq)
            · have := (ho6.block p hp).2
              have := k67.size
              omega
        rcases h78 with h7 | h7
        · ((conv => whnf); repeat (any_goals (first | ((refine IdxA.ln (hr.ext hB3.ext) hl i x rfl hx ?_; intro _ _ hci); (conv => whnf)) | (((with_reducible apply SemH.load_ln); (focus ((exact hci))); (focus ((exact Ext.refl _))); (focus ((conv => whnf)))); (conv => whnf)) | ((have := hh6; rename_i H7 z7 b7 x7; have x67 : Ext H6 H7 := x7; refine NextH.pushN (l := hsF (kindsL L) i) (m := i) (hh6.ext x67) b7 (by omega) (by omega) ⟨_, rfl, fun _ h => by cases h⟩ ?_; intro a8 c8 H8 hh8 hw8 hf8); (conv => whnf)) | ((have := ho; rename_i H5 z5 b5 x5; have x35 := And.intro trivial (show Ext H3 H5 by exact Vc.xt); refine NextH.pushN (l := opF (kindsL L) i) (m := i) (ho.ext x35.2) b5 (by omega) (by omega) ⟨_, rfl, fun _ h => by cases h⟩ ?_; intro a6 c6 H6 ho6 hw6 hf6; have hh6 : IntS H6 H2.size ah ch (hsF (kindsL L) i) := (hh.ext x35.2).keep hw6 (fun p hp ⟨q, hq, e⟩ => hap q p hq hp e); have hu6 := wr_low (ho.ext x35.2) hw6; have hz6 := hw6.size; have hB6 := (hB3.ext' x35.2).up hu6); (conv => whnf)) | ((first | (with_reducible refine Vc.DrawH.lin (id := 1) mixed ?_) | (with_reducible refine Vc.DrawL.split (es := []) 2 5 (by decide) (by decide) (by decide) ?_ ?_) | (with_reducible refine Vc.DrawL.split (es := [(2, 5)]) 2 7 (by decide) (by decide) (by decide) ?_ ?_) | (with_reducible refine Vc.DrawL.split (es := [(2, 7), (2, 5)]) 5 7 (by decide) (by decide) (by decide) ?_ ?_) | (with_reducible refine Vc.DrawL.held (es := [(5, 7), (2, 7), (2, 5)]) [0, 1, 3, 4, 2, 5, 6, 7, 8] [] (by decide +kernel) ?_) | (with_reducible refine Vc.DrawL.held (es := [(7, 5), (2, 7), (2, 5)]) [0, 1, 3, 4, 2, 7, 5, 6, 8] [] (by decide +kernel) ?_) | (with_reducible refine Vc.DrawL.held (es := [(7, 2), (2, 5)]) [0, 1, 3, 4, 7, 2, 5, 6, 8] [] (by decide +kernel) ?_) | (with_reducible refine Vc.DrawL.split (es := [(5, 2)]) 5 7 (by decide) (by decide) (by decide) ?_ ?_) | (with_reducible refine Vc.DrawL.split (es := [(5, 7), (5, 2)]) 2 7 (by decide) (by decide) (by decide) ?_ ?_) | (with_reducible refine Vc.DrawL.held (es := [(2, 7), (5, 7), (5, 2)]) [0, 1, 3, 4, 5, 2, 6, 7, 8] [] (by decide +kernel) ?_) | (with_reducible refine Vc.DrawL.held (es := [(7, 2), (5, 7), (5, 2)]) [0, 1, 3, 4, 5, 7, 2, 6, 8] [] (by decide +kernel) ?_) | (with_reducible refine Vc.DrawL.held (es := [(7, 5), (5, 2)]) [0, 1, 3, 4, 7, 5, 2, 6, 8] [] (by decide +kernel) ?_)); (conv => whnf)) | (((with_reducible refine Vc.DrawH.held [0, 1, 2, 3, 4, 5, 6, 7, 8, 9, 10, 11, 12, 13, 14, 15, 16, 17, 18, 19] [(17, [8])] mixed (by decide +kernel) ?_)); (conv => whnf)) | (refine Vc.stp ?_; intros; (conv => whnf)))))
          exact end2 x35.2 hB6 ho6 hh6 hz6 hf6 x67 hh8 hw8 hf8 ⟨rfl, rfl, rfl, trivial⟩
        · ((conv => whnf); repeat (any_goals (first | ((refine IdxA.ln (hr.ext hB3.ext) hl i x rfl hx ?_; intro _ _ hci); (conv => whnf)) | (((with_reducible apply SemH.load_ln); (focus ((exact hci))); (focus ((exact Ext.refl _))); (focus ((conv => whnf)))); (conv => whnf)) | ((have := hh6; rename_i H7 z7 b7 x7; have x67 : Ext H6 H7 := x7; refine NextH.pushN (l := hsF (kindsL L) i) (m := i) (hh6.ext x67) b7 (by omega) (by omega) ⟨_, rfl, fun _ h => by cases h⟩ ?_; intro a8 c8 H8 hh8 hw8 hf8); (conv => whnf)) | ((have := ho; rename_i H5 z5 b5 x5; have x35 := And.intro trivial (show Ext H3 H5 by exact Vc.xt); refine NextH.pushN (l := opF (kindsL L) i) (m := i) (ho.ext x35.2) b5 (by omega) (by omega) ⟨_, rfl, fun _ h => by cases h⟩ ?_; intro a6 c6 H6 ho6 hw6 hf6; have hh6 : IntS H6 H2.size ah ch (hsF (kindsL L) i) := (hh.ext x35.2).keep hw6 (fun p hp ⟨q, hq, e⟩ => hap q p hq hp e); have hu6 := wr_low (ho.ext x35.2) hw6; have hz6 := hw6.size; have hB6 := (hB3.ext' x35.2).up hu6); (conv => whnf)) | ((first | (with_reducible refine Vc.DrawH.lin (id := 1) mixed ?_) | (with_reducible refine Vc.DrawL.split (es := []) 2 5 (by decide) (by decide) (by decide) ?_ ?_) | (with_reducible refine Vc.DrawL.split (es := [(2, 5)]) 2 7 (by decide) (by decide) (by decide) ?_ ?_) | (with_reducible refine Vc.DrawL.split (es := [(2, 7), (2, 5)]) 5 7 (by decide) (by decide) (by decide) ?_ ?_) | (with_reducible refine Vc.DrawL.held (es := [(5, 7), (2, 7), (2, 5)]) [0, 1, 3, 4, 2, 5, 6, 7, 8] [] (by decide +kernel) ?_) | (with_reducible refine Vc.DrawL.held (es := [(7, 5), (2, 7), (2, 5)]) [0, 1, 3, 4, 2, 7, 5, 6, 8] [] (by decide +kernel) ?_) | (with_reducible refine Vc.DrawL.held (es := [(7, 2), (2, 5)]) [0, 1, 3, 4, 7, 2, 5, 6, 8] [] (by decide +kernel) ?_) | (with_reducible refine Vc.DrawL.split (es := [(5, 2)]) 5 7 (by decide) (by decide) (by decide) ?_ ?_) | (with_reducible refine Vc.DrawL.split (es := [(5, 7), (5, 2)]) 2 7 (by decide) (by decide) (by decide) ?_ ?_) | (with_reducible refine Vc.DrawL.held (es := [(2, 7), (5, 7), (5, 2)]) [0, 1, 3, 4, 5, 2, 6, 7, 8] [] (by decide +kernel) ?_) | (with_reducible refine Vc.DrawL.held (es := [(7, 2), (5, 7), (5, 2)]) [0, 1, 3, 4, 5, 7, 2, 6, 8] [] (by decide +kernel) ?_) | (with_reducible refine Vc.DrawL.held (es := [(7, 5), (5, 2)]) [0, 1, 3, 4, 7, 5, 2, 6, 8] [] (by decide +kernel) ?_)); (conv => whnf)) | (((with_reducible refine Vc.DrawH.held [0, 1, 2, 3, 4, 5, 6, 7, 8, 9, 10, 11, 12, 13, 14, 15, 16, 17, 18, 19] [(17, [8])] mixed (by decide +kernel) ?_)); (conv => whnf)) | (refine Vc.stp ?_; intros; (conv => whnf)))))
          exact end2 x35.2 hB6 ho6 hh6 hz6 hf6 x67 hh8 hw8 hf8 ⟨rfl, rfl, rfl, trivial⟩
      by_cases h9 : k = 9
      · subst h9
        obtain ⟨h0, t, hst, h07, h0i⟩ := else_head hne hk
        have eo : opF (kindsL L) i = (t.map (·.2)).reverse ++ [h0] := by unfold opF; rw [hst]; simp
        obtain ⟨ga, rfl, hga⟩ : ∃ g, a = some ⟨g, 0, none⟩ ∧ H2.size ≤ g := by
          rcases ho.out with ⟨_, h0', _⟩ | ⟨g, _, ha, hb, _⟩
          · rw [eo, List.length_append] at h0'; simp at h0'
          · exact ⟨g, ha, hb⟩
        obtain ⟨m, hm⟩ : ∃ m, (opF (kindsL L) i).length = m + 1 := ⟨t.length, by rw [eo]; simp⟩
        have hget : (opF (kindsL L) i)[m]? = some h0 := by
          rw [eo] at hm ⊢
          rw [List.length_append, List.length_singleton] at hm
          rw [List.getElem?_append_right (by omega), show m - (t.map (·.2)).reverse.length = 0 by omega]; rfl
        have hc0 := Own.hcell ho (nat_get hget)
        have hbj := hB3.blk
        obtain ⟨l1, l2, l3, l4⟩ := hB3.lt
        have hset : (opF (kindsL L) i).set m i = opF (kindsL L) (i + 1) := by
          have e1 : opF (kindsL L) (i + 1) = (t.map (·.2)).reverse ++ [i] := by unfold opF; rw [stF_succ hk, hst]; unfold stS; rw [if_neg (by decide), if_pos rfl]; simp
          rw [e1, eo]
          rw [eo, List.length_append, List.length_singleton] at hm
          rw [List.set_append_right _ _ (by omega), show m - (t.map (·.2)).reverse.length = 0 by omega]; rfl
        have ehs : hsF (kindsL L) (i + 1) = hsF (kindsL L) i := by unfold hsF; rw [stF_succ hk, hst]; unfold stS; rw [if_neg (by decide), if_pos rfl]; rfl
        have elen : (opF (kindsL L) i).length = (opF (kindsL L) (i + 1)).length := by rw [← hset, List.length_set]
        ((conv => whnf); repeat (any_goals (first | ((refine IdxA.ln (hr.ext hB3.ext) hl i x rfl hx ?_; intro _ _ hci); (conv => whnf)) | (((with_reducible apply SemH.load_ln); (focus ((exact hci))); (focus ((exact Ext.refl _))); (focus ((conv => whnf)))); (conv => whnf)) | ((refine IdxA.at1 m (by omega) (by omega) ?_); (conv => whnf)) | ((refine IdxA.at1 h0 rfl (by omega) ?_); (conv => whnf)) | ((rename_i H4 z4 b4 k4; have x34 := And.intro trivial (show Ext H3 H4 by exact Vc.xt); refine DoH.store_own (o := 0 + h0) (hB3.oth.ext x34.2) rfl rfl rfl (by omega) ?_; intro H5 z5 m5 k5; rw [Nat.zero_add, nat_set] at m5; have hB5 := (hB3.ext' x34.2).setO m5 k5; have ho5 : IntS H5 H2.size (some ⟨ga, 0, none⟩) ca (opF (kindsL L) i) := (ho.ext x34.2).keep k5 (fun p hp e => by cases hp; dsimp only at e; omega)); (conv => whnf)) | ((refine DoH.store_own (o := 0 + m) ho5 rfl rfl rfl (by omega) ?_; intro H6 z6 m6 k6; rw [Nat.zero_add, nat_set, hset, elen] at m6); (conv => whnf)) | ((first | (with_reducible refine Vc.DrawH.lin (id := 1) mixed ?_) | (with_reducible refine Vc.DrawL.split (es := []) 2 5 (by decide) (by decide) (by decide) ?_ ?_) | (with_reducible refine Vc.DrawL.split (es := [(2, 5)]) 2 7 (by decide) (by decide) (by decide) ?_ ?_) | (with_reducible refine Vc.DrawL.split (es := [(2, 7), (2, 5)]) 5 7 (by decide) (by decide) (by decide) ?_ ?_) | (with_reducible refine Vc.DrawL.held (es := [(5, 7), (2, 7), (2, 5)]) [0, 1, 3, 4, 2, 5, 6, 7, 8] [] (by decide +kernel) ?_) | (with_reducible refine Vc.DrawL.held (es := [(7, 5), (2, 7), (2, 5)]) [0, 1, 3, 4, 2, 7, 5, 6, 8] [] (by decide +kernel) ?_) | (with_reducible refine Vc.DrawL.held (es := [(7, 2), (2, 5)]) [0, 1, 3, 4, 7, 2, 5, 6, 8] [] (by decide +kernel) ?_) | (with_reducible refine Vc.DrawL.split (es := [(5, 2)]) 5 7 (by decide) (by decide) (by decide) ?_ ?_) | (with_reducible refine Vc.DrawL.split (es := [(5, 7), (5, 2)]) 2 7 (by decide) (by decide) (by decide) ?_ ?_) | (with_reducible refine Vc.DrawL.held (es := [(2, 7), (5, 7), (5, 2)]) [0, 1, 3, 4, 5, 2, 6, 7, 8] [] (by decide +kernel) ?_) | (with_reducible refine Vc.DrawL.held (es := [(7, 2), (5, 7), (5, 2)]) [0, 1, 3, 4, 5, 7, 2, 6, 8] [] (by decide +kernel) ?_) | (with_reducible refine Vc.DrawL.held (es := [(7, 5), (5, 2)]) [0, 1, 3, 4, 7, 5, 2, 6, 8] [] (by decide +kernel) ?_)); (conv => whnf)) | (((with_reducible refine Vc.DrawH.held [0, 1, 2, 3, 4, 5, 6, 7, 8, 9, 10, 11, 12, 13, 14, 15, 16, 17, 18, 19] [(17, [8])] mixed (by decide +kernel) ?_)); (conv => whnf)) | (refine Vc.stp ?_; intros; (conv => whnf)))))
        have hh6 : IntS H6 H2.size ah ch (hsF (kindsL L) i) := ((hh.ext x34.2).keep k5 fun p hp e => by have := (hh.block p hp).1; omega).keep k6 fun p hp e => hap ⟨ga, 0, none⟩ p rfl hp e.symm
        refine ⟨⟨i + 1, some ⟨ga, 0, none⟩, ca, ah, ch, O.set h0 i, Hd⟩, ⟨rfl, by show Value.slice _ _ _ = Value.slice _ _ _; rw [elen], by show Value.slice _ _ _ = Value.slice _ _ _; rw [ehs], trivial⟩, ⟨by show i + 1 ≤ n; omega, hfi.else hne hk hst h07 h0i, hB5.up (k6.mono fun b e => by omega), m6, by dsimp only; rw [ehs]; exact hh6, hap⟩, by show n - (i + 1) < n - i; omega⟩
      by_cases h10 : k = 10
      · subst h10
        obtain ⟨h0, x0, t, hst, h0i, x0i⟩ := end_top hne hk
        have eo : opF (kindsL L) i = (t.map (·.2)).reverse ++ [x0] := by unfold opF; rw [hst]; simp
        have eh : hsF (kindsL L) i = (t.map (·.1)).reverse ++ [h0] := by unfold hsF; rw [hst]; simp
        obtain ⟨ga, rfl, hga⟩ : ∃ g, a = some ⟨g, 0, none⟩ ∧ H2.size ≤ g := by
          rcases ho.out with ⟨_, h0', _⟩ | ⟨g, _, ha, hb, _⟩
          · rw [eo, List.length_append] at h0'; simp at h0'
          · exact ⟨g, ha, hb⟩
        obtain ⟨gb, rfl, hgb⟩ : ∃ g, ah = some ⟨g, 0, none⟩ ∧ H2.size ≤ g := by
          rcases hh.out with ⟨_, h0', _⟩ | ⟨g, _, ha, hb, _⟩
          · rw [eh, List.length_append] at h0'; simp at h0'
          · exact ⟨g, ha, hb⟩
        obtain ⟨m, hm⟩ : ∃ m, t.length = m := ⟨_, rfl⟩
        have hml : (opF (kindsL L) i).length = m + 1 := by rw [eo]; simp [hm]
        have hmh : (hsF (kindsL L) i).length = m + 1 := by rw [eh]; simp [hm]
        have hg1 : (opF (kindsL L) i)[m]? = some x0 := by rw [eo, List.getElem?_append_right (by simp; omega)]; simp [hm]
        have hg2 : (hsF (kindsL L) i)[m]? = some h0 := by rw [eh, List.getElem?_append_right (by simp; omega)]; simp [hm]
        have hc0 := Own.hcell ho (nat_get hg1)
        have hc1 := Own.hcell hh (nat_get hg2)
        have hbj := hB3.blk
        obtain ⟨l1, l2, l3, l4⟩ := hB3.lt
        obtain ⟨n1, n2, n3, n4, n5, n6⟩ := hB3.ne
        have hca := ho.cap_le
        have hcb := hh.cap_le
        have e1 : opF (kindsL L) (i + 1) = (opF (kindsL L) i).take m := by
          have : opF (kindsL L) (i + 1) = (t.map (·.2)).reverse := by unfold opF; rw [stF_succ hk, hst]; unfold stS; rw [if_neg (by decide), if_neg (by decide), if_pos rfl]; rfl
          rw [this, eo, List.take_left' (by simp [hm])]
        have e2 : hsF (kindsL L) (i + 1) = (hsF (kindsL L) i).take m := by
          have : hsF (kindsL L) (i + 1) = (t.map (·.1)).reverse := by unfold hsF; rw [stF_succ hk, hst]; unfold stS; rw [if_neg (by decide), if_neg (by decide), if_pos rfl]; rfl
          rw [this, eh, List.take_left' (by simp [hm])]
        ((conv => whnf); repeat (any_goals (first | ((refine IdxA.ln (hr.ext hB3.ext) hl i x rfl hx ?_; intro _ _ hci); (conv => whnf)) | (((with_reducible apply SemH.load_ln); (focus ((exact hci))); (focus ((exact Ext.refl _))); (focus ((conv => whnf)))); (conv => whnf)) | ((refine IdxA.at1 m (by omega) (by omega) ?_); (conv => whnf)) | ((refine IdxA.at1 x0 rfl (by omega) ?_); (conv => whnf)) | ((refine IdxA.at1 i rfl (by omega) ?_); (conv => whnf)) | ((have := m5; refine DoH.store_own (o := 0 + i) hB5.hds rfl rfl rfl (by omega) ?_; intro H6 z6 m6 k6; rw [Nat.zero_add, nat_set] at m6; have hB6 := hB5.setH m6 k6); (conv => whnf)) | ((rename_i H4 z4 b4 k4; have x34 := And.intro trivial (show Ext H3 H4 by exact Vc.xt); refine DoH.store_own (o := 0 + x0) (hB3.oth.ext x34.2) rfl rfl rfl (by omega) ?_; intro H5 z5 m5 k5; rw [Nat.zero_add, nat_set] at m5; have hB5 := (hB3.ext' x34.2).setO m5 k5; have ho5 : IntS H5 H2.size (some ⟨ga, 0, none⟩) ca (opF (kindsL L) i) := (ho.ext x34.2).keep k5 (fun p hp e => by cases hp; dsimp only at e; omega)); (conv => whnf)) | ((refine BndH.nat m (by omega) (by omega) ?_); (conv => whnf)) | ((first | (with_reducible refine Vc.DrawH.lin (id := 1) mixed ?_) | (with_reducible refine Vc.DrawL.split (es := []) 2 5 (by decide) (by decide) (by decide) ?_ ?_) | (with_reducible refine Vc.DrawL.split (es := [(2, 5)]) 2 7 (by decide) (by decide) (by decide) ?_ ?_) | (with_reducible refine Vc.DrawL.split (es := [(2, 7), (2, 5)]) 5 7 (by decide) (by decide) (by decide) ?_ ?_) | (with_reducible refine Vc.DrawL.held (es := [(5, 7), (2, 7), (2, 5)]) [0, 1, 3, 4, 2, 5, 6, 7, 8] [] (by decide +kernel) ?_) | (with_reducible refine Vc.DrawL.held (es := [(7, 5), (2, 7), (2, 5)]) [0, 1, 3, 4, 2, 7, 5, 6, 8] [] (by decide +kernel) ?_) | (with_reducible refine Vc.DrawL.held (es := [(7, 2), (2, 5)]) [0, 1, 3, 4, 7, 2, 5, 6, 8] [] (by decide +kernel) ?_) | (with_reducible refine Vc.DrawL.split (es := [(5, 2)]) 5 7 (by decide) (by decide) (by decide) ?_ ?_) | (with_reducible refine Vc.DrawL.split (es := [(5, 7), (5, 2)]) 2 7 (by decide) (by decide) (by decide) ?_ ?_) | (with_reducible refine Vc.DrawL.held (es := [(2, 7), (5, 7), (5, 2)]) [0, 1, 3, 4, 5, 2, 6, 7, 8] [] (by decide +kernel) ?_) | (with_reducible refine Vc.DrawL.held (es := [(7, 2), (5, 7), (5, 2)]) [0, 1, 3, 4, 5, 7, 2, 6, 8] [] (by decide +kernel) ?_) | (with_reducible refine Vc.DrawL.held (es := [(7, 5), (5, 2)]) [0, 1, 3, 4, 7, 5, 2, 6, 8] [] (by decide +kernel) ?_)); (conv => whnf)) | (((with_reducible refine Vc.DrawH.held [0, 1, 2, 3, 4, 5, 6, 7, 8, 9, 10, 11, 12, 13, 14, 15, 16, 17, 18, 19] [(17, [8])] mixed (by decide +kernel) ?_)); (conv => whnf)) | (refine Vc.stp ?_; intros; (conv => whnf)))))
        have ho6 : IntS H6 H2.size (some ⟨ga, 0, none⟩) ca (opF (kindsL L) (i + 1)) := by
          have := (ho5.keep k6 fun p hp e => by cases hp; dsimp only at e; omega).cut m (by omega)
          rw [Nat.mul_one] at this
          have el : (opF (kindsL L) (i + 1)).length = m := by rw [e1, List.length_take]; omega
          show Own _ _ _ 1 _ (opF (kindsL L) (i + 1)).length _ _
          rw [el, e1]; unfold natV; rw [List.map_take]; exact this
        have hh6 : IntS H6 H2.size (some ⟨gb, 0, none⟩) ch (hsF (kindsL L) (i + 1)) := by
          have := (((hh.ext x34.2).keep k5 fun p hp e => by cases hp; dsimp only at e; omega).keep k6 fun p hp e => by cases hp; dsimp only at e; omega).cut m (by omega)
          rw [Nat.mul_one] at this
          have el : (hsF (kindsL L) (i + 1)).length = m := by rw [e2, List.length_take]; omega
          show Own _ _ _ 1 _ (hsF (kindsL L) (i + 1)).length _ _
          rw [el, e2]; unfold natV; rw [List.map_take]; exact this
        have el1 : (opF (kindsL L) (i + 1)).length = m := by rw [e1, List.length_take]; omega
        have el2 : (hsF (kindsL L) (i + 1)).length = m := by rw [e2, List.length_take]; omega
        exact ⟨⟨i + 1, some ⟨ga, 0, none⟩, ca, some ⟨gb, 0, none⟩, ch, O.set x0 i, Hd.set i h0⟩, ⟨rfl, by show Value.slice _ _ _ = Value.slice _ _ _; rw [el1], by show Value.slice _ _ _ = Value.slice _ _ _; rw [el2], trivial⟩, ⟨by show i + 1 ≤ n; omega, hfi.end hne hk hst, hB6, ho6, hh6, hap⟩, by show n - (i + 1) < n - i; omega⟩
      have eo : opF (kindsL L) (i + 1) = opF (kindsL L) i := by unfold opF; rw [stF_succ hk]; unfold stS; rw [if_neg h78, if_neg h9, if_neg h10]
      have eh : hsF (kindsL L) (i + 1) = hsF (kindsL L) i := by unfold hsF; rw [stF_succ hk]; unfold stS; rw [if_neg h78, if_neg h9, if_neg h10]
      ((conv => whnf); repeat (any_goals (first | ((refine IdxA.ln (hr.ext hB3.ext) hl i x rfl hx ?_; intro _ _ hci); (conv => whnf)) | (((with_reducible apply SemH.load_ln); (focus ((exact hci))); (focus ((exact Ext.refl _))); (focus ((conv => whnf)))); (conv => whnf)) | ((first | (with_reducible refine Vc.DrawH.lin (id := 1) mixed ?_) | (with_reducible refine Vc.DrawL.split (es := []) 2 5 (by decide) (by decide) (by decide) ?_ ?_) | (with_reducible refine Vc.DrawL.split (es := [(2, 5)]) 2 7 (by decide) (by decide) (by decide) ?_ ?_) | (with_reducible refine Vc.DrawL.split (es := [(2, 7), (2, 5)]) 5 7 (by decide) (by decide) (by decide) ?_ ?_) | (with_reducible refine Vc.DrawL.held (es := [(5, 7), (2, 7), (2, 5)]) [0, 1, 3, 4, 2, 5, 6, 7, 8] [] (by decide +kernel) ?_) | (with_reducible refine Vc.DrawL.held (es := [(7, 5), (2, 7), (2, 5)]) [0, 1, 3, 4, 2, 7, 5, 6, 8] [] (by decide +kernel) ?_) | (with_reducible refine Vc.DrawL.held (es := [(7, 2), (2, 5)]) [0, 1, 3, 4, 7, 2, 5, 6, 8] [] (by decide +kernel) ?_) | (with_reducible refine Vc.DrawL.split (es := [(5, 2)]) 5 7 (by decide) (by decide) (by decide) ?_ ?_) | (with_reducible refine Vc.DrawL.split (es := [(5, 7), (5, 2)]) 2 7 (by decide) (by decide) (by decide) ?_ ?_) | (with_reducible refine Vc.DrawL.held (es := [(2, 7), (5, 7), (5, 2)]) [0, 1, 3, 4, 5, 2, 6, 7, 8] [] (by decide +kernel) ?_) | (with_reducible refine Vc.DrawL.held (es := [(7, 2), (5, 7), (5, 2)]) [0, 1, 3, 4, 5, 7, 2, 6, 8] [] (by decide +kernel) ?_) | (with_reducible refine Vc.DrawL.held (es := [(7, 5), (5, 2)]) [0, 1, 3, 4, 7, 5, 2, 6, 8] [] (by decide +kernel) ?_)); (conv => whnf)) | (((with_reducible refine Vc.DrawH.held [0, 1, 2, 3, 4, 5, 6, 7, 8, 9, 10, 11, 12, 13, 14, 15, 16, 17, 18, 19] [(17, [8])] mixed (by decide +kernel) ?_)); (conv => whnf)) | (refine Vc.stp ?_; intros; (conv => whnf)))))
      rename_i H4 z4 b4 k4
      have x34 : Ext H3 H4 := by exact Vc.xt
      exact ⟨⟨i + 1, a, ca, ah, ch, O, Hd⟩, ⟨rfl, by show Value.slice _ _ _ = Value.slice _ _ _; rw [eo], by show Value.slice _ _ _ = Value.slice _ _ _; rw [eh], trivial⟩, ⟨by show i + 1 ≤ n; omega, hfi.other hk h78 h9 h10, hB3.ext' x34, by dsimp only; rw [eo]; exact ho.ext x34, by dsimp only; rw [eh]; exact hh.ext x34, hap⟩, by show n - (i + 1) < n - i; omega⟩
    · obtain rfl : i = n := by omega
      have hi1 := hB3.res
      have hi2 := hB3.blk
      obtain ⟨l1, l2, l3, l4⟩ := hB3.lt
      have n2' := hB3.ne.2.1
      ((conv => whnf); repeat (any_goals (first | ((first | (with_reducible refine Vc.DrawH.lin (id := 1) mixed ?_) | (with_reducible refine Vc.DrawL.split (es := []) 2 5 (by decide) (by decide) (by decide) ?_ ?_) | (with_reducible refine Vc.DrawL.split (es := [(2, 5)]) 2 7 (by decide) (by decide) (by decide) ?_ ?_) | (with_reducible refine Vc.DrawL.split (es := [(2, 7), (2, 5)]) 5 7 (by decide) (by decide) (by decide) ?_ ?_) | (with_reducible refine Vc.DrawL.held (es := [(5, 7), (2, 7), (2, 5)]) [0, 1, 3, 4, 2, 5, 6, 7, 8] [] (by decide +kernel) ?_) | (with_reducible refine Vc.DrawL.held (es := [(7, 5), (2, 7), (2, 5)]) [0, 1, 3, 4, 2, 7, 5, 6, 8] [] (by decide +kernel) ?_) | (with_reducible refine Vc.DrawL.held (es := [(7, 2), (2, 5)]) [0, 1, 3, 4, 7, 2, 5, 6, 8] [] (by decide +kernel) ?_) | (with_reducible refine Vc.DrawL.split (es := [(5, 2)]) 5 7 (by decide) (by decide) (by decide) ?_ ?_) | (with_reducible refine Vc.DrawL.split (es := [(5, 7), (5, 2)]) 2 7 (by decide) (by decide) (by decide) ?_ ?_) | (with_reducible refine Vc.DrawL.held (es := [(2, 7), (5, 7), (5, 2)]) [0, 1, 3, 4, 5, 2, 6, 7, 8] [] (by decide +kernel) ?_) | (with_reducible refine Vc.DrawL.held (es := [(7, 2), (5, 7), (5, 2)]) [0, 1, 3, 4, 5, 7, 2, 6, 8] [] (by decide +kernel) ?_) | (with_reducible refine Vc.DrawL.held (es := [(7, 5), (5, 2)]) [0, 1, 3, 4, 7, 5, 2, 6, 8] [] (by decide +kernel) ?_)); (conv => whnf)) | (((with_reducible refine Vc.DrawH.held [0, 1, 2, 3, 4, 5, 6, 7, 8, 9, 10, 11, 12, 13, 14, 15, 16, 17, 18, 19] [(17, [8])] mixed (by decide +kernel) ?_)); (conv => whnf)) | (refine Vc.stp ?_; intros; (conv => whnf)))))
      rename_i H4 z4 b4 k4
      obtain ⟨n1, n2, n3, n4, n5, n6⟩ := hB3.ne
      exact ⟨⟨go, gh, O, Hd, rfl, Tab.but hB3.oth k4 n3.symm, Tab.but hB3.hds k4 n4.symm, FindI.done hne (by rw [hkl]; exact hfi)⟩, hB3.ext.but k4 (Nat.le_refl _)⟩
end Go.Proofs.YtphkaogbcfdllaaGreatDoor
/- Build scripts at work, the code: a run. -/
namespace Go.Proofs.YtphkaogbcfdllaaGreatDoor
open Go Go.Vc Go.Scr Go.Pth Go.Tre Go.Blk Go.Run
theorem Mac.fuel {H H' : Heap} {m : MP} {s : St} {M : List Nat} {f f' : Nat} (h : Mac H m s M f) (hb : Blk H' m.g (macC m f') 139) (k : But m.g H H') : Mac H' m s M f' := by
  have hMl : M.length = m.n := by rw [h.rel.len, h.klen]
  have hOl : m.O.length = m.n := by rw [h.tabs.lenO, h.klen]
  have hHl : m.Hd.length = m.n := by rw [h.tabs.lenH, h.klen]
  have tabK : ∀ {g : Nat} {l : List Nat}, Tab H m.B g m.n l → l.length = m.n → Tab H' m.B g m.n l := fun {g l} ht hl => ht.keep k fun p hp e => by
    cases hp
    dsimp only at e
    have h1 := ht.blk hl
    rw [e] at h1
    exact absurd (blk_one h1 h.blk).1 (by decide)
  refine ⟨hb, tabK h.oth hOl, tabK h.hds hHl, tabK h.mor hMl, lns_dumb h.row k fun x e _ => by subst e; exact h.othG.dumb, h.len, h.small, h.lens, h.bnd, h.tree.keep k (fun e => ?_) (fun e => h.tree.map.ne h.blk e) (fun x e _ => by subst e; exact .inl h.othG), h.vars.keep k (fun v hv e => ?_), h.tabs, h.rel, h.okay, h.d1, h.d2, h.dv⟩
  · have h1 := h.tree.blk
    rw [e] at h1
    exact absurd (blk_one h1 h.blk).1 (by decide)
  · obtain ⟨W, _, hW⟩ := vars_map h.vars hv
    exact hW.ne h.blk e
theorem macB {K : Value → Prop} {o1 o2 o3 o4 o5 o6 : Operand} {go gh gm al : Option Addr} {n c1 n2 c2 n3 c3 n4 c4 : Nat} {p : Option Addr} {vm : Option Nat} {f : Int} (h : K (.agg #[.slice go n c1, .slice gh n2 c2, .slice al n3 c3, .pointer p, .map vm, .slice gm n4 c4, .int .i64 f])) :
    PureH Tryz.prog (Instr.build 139 ((List.map (fun x : Nat × Operand => x.1) (#[(0, o1), (1, o2), (2, o3), (3, o4), (4, o5), (5, o6)] : Array (Nat × Operand)).toList).zip [.agg #[.slice go n c1, .slice gh n2 c2], .slice al n3 c3, .pointer p, .map vm, .slice gm n4 c4, .int .i64 f]).toArray) K := PureH.build _ (by kernel_rfl) h
structure RunJ (H H' : Heap) (L : List Ln) (al : Option Addr) (cl n b mb : Nat) (vm : Option Nat) (s : St) (F : Nat) (m : MP) : Prop where
  mac : Mac H' m s (List.replicate n 0) F
  eqs : m.al = al ∧ m.cl = cl ∧ m.n = n ∧ m.L = L ∧ m.b = b ∧ m.mb = mb ∧ m.vm = vm
  low : H.size ≤ m.g ∧ H.size ≤ m.go ∧ H.size ≤ m.gh ∧ H.size ≤ m.gm
  ext : Ext H H'
structure RnS where
  s : St
  M : List Nat
  u : Nat
  f : Nat
theorem Glb.keep {F : Nat → Prop} {H H' : Heap} (h : Glb H) (k : Only F H H') (hF : ¬ F 0 ∧ ¬ F 1) : Glb H' := by
  refine ⟨hcell_keep h.et k hF.1, ?_⟩
  obtain ⟨t, fr, h1⟩ := h.tab
  exact ⟨t, fr, by rw [k.same 1 (Array.getElem?_eq_some_iff.1 h1).1 hF.2]; exact h1⟩
set_option maxHeartbeats 4000000 in
theorem run_any {H : Heap} {al : Option Addr} {cl n b mb : Nat} {vm : Option Nat} {V : Option Vars} {A : Tr} {L : List Ln} (hr : Row H al (lnsV L)) (hl : L.length = n) (hn : n ≤ 1000000) (hne : Nested (kindsL L)) (hlens : ∀ x ∈ L, x.a.length ≤ 1000000 ∧ x.b.length ≤ 1000000 ∧ x.tx.length ≤ 1000000 ∧ x.n ≤ 1000000)
    (ht : TreeO no H b mb A) (hv : VarsO H vm V) (hA : Okay A) (hdv : ∀ v, vm = some v → v ≠ mb) (hg : Glb H) (hlow : 2 ≤ b ∧ 2 ≤ mb ∧ ∀ v, vm = some v → 2 ≤ v) (hH : 2 ≤ H.size) (fuel : Int) (F : Nat) (hF : min (max fuel 0) 65536 = (F : Int)) :
    CallH Tryz.prog 18 [.slice al n cl, .pointer (some ⟨b, 0, none⟩), .map vm, .int .i64 fuel] H fun v H' => ∃ er, v = .tuple #[.int .i64 (runP L F 0 ⟨0, A, V, []⟩).1.1, .int .i64 (runP L F 0 ⟨0, A, V, []⟩).2.at_, er] ∧
      (if (runP L F 0 ⟨0, A, V, []⟩).1.2 = 0 then er = .nilIface else ErV H' [([108, 105, 110, 101], Lib.itoa ((runP L F 0 ⟨0, A, V, []⟩).2.at_ : Int))] (.num (runP L F 0 ⟨0, A, V, []⟩).1.2) er) ∧
      TreeO no H' b mb (runP L F 0 ⟨0, A, V, []⟩).2.A ∧ VarsO H' vm (runP L F 0 ⟨0, A, V, []⟩).2.V ∧ Only (fun x => x = b ∨ x = mb ∨ vm = some x) H H' := by
  refine Vc.CallH.body Tryz.func18 Tryz.call18 rfl (by decide +kernel) rfl ?_
  ((conv => whnf); repeat (any_goals (first | ((first | (with_reducible refine Vc.DrawH.lin (id := 1) mixed ?_) | (with_reducible refine Vc.DrawL.split (es := []) 1 7 (by decide) (by decide) (by decide) ?_ ?_) | (with_reducible refine Vc.DrawL.held (es := [(1, 7)]) [0, 2, 3, 4, 5, 6, 8, 9, 10, 1, 7, 11, 12, 13] [] (by decide +kernel) ?_) | (with_reducible refine Vc.DrawL.held (es := [(7, 1)]) [0, 2, 3, 4, 5, 6, 8, 9, 10, 7, 1, 11, 12, 13] [] (by decide +kernel) ?_)); (conv => whnf)) | (((with_reducible refine Vc.DrawH.held [0, 1, 2, 3, 4, 5, 6, 7, 9, 10, 8, 11, 12, 13, 14] [(8, [4]), (11, [4])] mixed (by decide +kernel) ?_)); (conv => whnf)) | (refine Vc.stq ?_; intros; (conv => whnf)) | (refine Vc.spl ?_ ?_ <;> (intro _; (conv => whnf))))))
  have hkl : (kindsL L).length = n := by rw [kinds_len, hl]
  have fin : ∀ {env : Env} {H' : Heap} {g go gh gm : Nat} {O Hd : List Nat}, Blk H' g #[.slice (some ⟨go, 0, none⟩) n n, .slice (some ⟨gh, 0, none⟩) n n, .slice al n cl, .pointer (some ⟨b, 0, none⟩), .map vm, .slice (some ⟨gm, 0, none⟩) n n, .int .i64 (min (max fuel 0) 65536)] 139 → Bears env [(11, .pointer (some ⟨g, 0, none⟩))] → Tab H' H.size go n O → Tab H' H.size gh n Hd → Go.Blk.Tables (kindsL L) O Hd → Tab H' H.size gm n (List.replicate n 0) → go ≠ gm → gh ≠ gm → H.size ≤ g → Ext H H' →
      ∃ m : MP, Bears env [(11, .pointer (some ⟨m.g, 0, none⟩))] ∧ RunJ H H' L al cl n b mb vm ⟨0, A, V, []⟩ F m := by
    intro env H' g go gh gm O Hd hb hbe hO hHd htb hM h1 h2 hg hx
    rw [hF] at hb
    refine ⟨⟨H.size, g, go, gh, gm, al, cl, n, L, O, Hd, b, mb, vm⟩, hbe, ⟨⟨hb, hO, hHd, hM, hr.ext hx, hl, hn, hlens, fun c hc => by rw [List.eq_of_mem_replicate hc]; omega, ht.ext hx, hv.ext hx, htb, ?_, hA, h1, h2, hdv⟩, ⟨rfl, rfl, rfl, rfl, rfl, rfl, rfl⟩, ⟨hg, (hO.block _ rfl).1, (hHd.block _ rfl).1, (hM.block _ rfl).1⟩, hx⟩⟩
    have := RelM.zero (kindsL L)
    rw [hkl] at this
    exact this
  refine SeqH.cut (fun (m : MP) => [(11, .pointer (some ⟨m.g, 0, none⟩))]) (fun m H' => RunJ H H' L al cl n b mb vm ⟨0, A, V, []⟩ F m) ?_ ?_
  · ((conv => whnf); repeat (any_goals (first | (((with_reducible apply SemH.make); (focus (rfl)); (focus (rfl)); (focus (rfl)); (focus ((show 8 * n ≤ _; omega))); (focus ((unfold maxLen; omega))); (focus ((intro Hx hox hxx; replace hox : Tab Hx _ _ n (List.replicate n 0) := (by (show Own _ _ _ 1 _ _ _ (natV (List.replicate n 0))); rw [← nat_made]; exact hox); have hzx := hxx.size; have hwx := (show _ < Hx.size from (hox.block _ rfl).2); dsimp only at hwx; (conv => whnf))))); (conv => whnf)) | ((refine (find_any (hr.ext (by exact Vc.xt)) hl hn hne).mono ?_; rintro _ Hf ⟨⟨go, gh, O, Hd, rfl, hO, hHd, htb⟩, hxf⟩; have hzf := hxf.size); (conv => whnf)) | (((with_reducible apply macB); (focus ((conv => whnf)))); (conv => whnf)) | ((first | (with_reducible refine Vc.DrawH.lin (id := 1) mixed ?_) | (with_reducible refine Vc.DrawL.split (es := []) 1 7 (by decide) (by decide) (by decide) ?_ ?_) | (with_reducible refine Vc.DrawL.held (es := [(1, 7)]) [0, 2, 3, 4, 5, 6, 8, 9, 10, 1, 7, 11, 12, 13] [] (by decide +kernel) ?_) | (with_reducible refine Vc.DrawL.held (es := [(7, 1)]) [0, 2, 3, 4, 5, 6, 8, 9, 10, 7, 1, 11, 12, 13] [] (by decide +kernel) ?_)); (conv => whnf)) | (((with_reducible refine Vc.DrawH.held [0, 1, 2, 3, 4, 5, 6, 7, 9, 10, 8, 11, 12, 13, 14] [(8, [4]), (11, [4])] mixed (by decide +kernel) ?_)); (conv => whnf)) | (refine Vc.stp ?_; intros; (conv => whnf)) | (refine Vc.spl ?_ ?_ <;> (intro _; (conv => whnf))))))
    · rename_i H4 z4 b4 x4
      have h1 := (hO.block _ rfl).2
      have h2 := (hHd.block _ rfl).2
      dsimp only at h1 h2
      exact fin b4 ⟨rfl, trivial⟩ (hO.ext (hxx.trans x4)) (hHd.ext (hxx.trans x4)) htb ((Go.Vc.Own.base hox (by omega)).ext x4) (by omega) (by omega) (by omega) (hxf.trans (hxx.trans x4))
    · rename_i H4 z4 b4 x4
      have h1 := (hO.block _ rfl).1
      have h2 := (hHd.block _ rfl).1
      dsimp only at h1 h2
      exact fin b4 ⟨rfl, trivial⟩ (Go.Vc.Own.ext (Go.Vc.Own.base hO (by omega)) x4) (Go.Vc.Own.ext (Go.Vc.Own.base hHd (by omega)) x4) htb (Go.Vc.Own.ext hox (hxf.trans x4)) (by omega) (by omega) (by omega) (hxx.trans (hxf.trans x4))
  · rintro m H2 hj
    obtain ⟨rfl, rfl, rfl, rfl, rfl, rfl, rfl⟩ := hj.eqs
    have hm := hj.mac
    have hsm := hm.small
    have hb2 := hm.blk
    unfold macC at hb2
    ((conv => whnf); repeat (any_goals (first | ((first | (with_reducible refine Vc.DrawH.lin (id := 1) mixed ?_) | (with_reducible refine Vc.DrawL.split (es := []) 1 7 (by decide) (by decide) (by decide) ?_ ?_) | (with_reducible refine Vc.DrawL.held (es := [(1, 7)]) [0, 2, 3, 4, 5, 6, 8, 9, 10, 1, 7, 11, 12, 13] [] (by decide +kernel) ?_) | (with_reducible refine Vc.DrawL.held (es := [(7, 1)]) [0, 2, 3, 4, 5, 6, 8, 9, 10, 7, 1, 11, 12, 13] [] (by decide +kernel) ?_)); (conv => whnf)) | (((with_reducible refine Vc.DrawH.held [0, 1, 2, 3, 4, 5, 6, 7, 9, 10, 8, 11, 12, 13, 14] [(8, [4]), (11, [4])] mixed (by decide +kernel) ?_)); (conv => whnf)) | (refine Vc.stp ?_; intros; (conv => whnf)))))
    refine LoopH.intro (fun (x : RnS) => [(13, .int .i64 x.s.at_)]) (fun x H' => Mac H' m x.s x.M x.f ∧ x.u + x.f = F ∧ runP m.L F 0 ⟨0, A, V, []⟩ = runP m.L x.f x.u x.s ∧ x.s.at_ ≤ m.n ∧ (∀ p ∈ x.s.S, p.1 < m.L.length) ∧ Only (fun y => doM m y ∨ y = m.g) H2 H') (fun x => x.f) ⟨⟨0, A, V, []⟩, List.replicate m.n 0, 0, F⟩ ⟨rfl, trivial⟩ ⟨hm, by simp, rfl, Nat.zero_le _, (fun p hp => (by cases hp)), Only.refl _ _⟩ ?_
    rintro ⟨s, M, u, f⟩ H3 ⟨hm3, huf, hrun, hat, hS, hx3⟩
    dsimp only at hm3 huf hrun hat hS hx3 ⊢
    rw [hrun]
    have hb3 := hm3.blk
    unfold macC at hb3
    have hz3 := hx3.size
    have hdo : ∀ y, (doM m y ∨ y = m.g) → y = m.b ∨ y = m.mb ∨ m.vm = some y ∨ H.size ≤ y := fun y e => by
      obtain ⟨l1, l2, l3, l4⟩ := hj.low
      rcases e with (e | e | e | e) | e
      · exact .inl e
      · exact .inr (.inl e)
      · exact .inr (.inr (.inl e))
      · exact .inr (.inr (.inr (by omega)))
      · exact .inr (.inr (.inr (by omega)))
    have hG : ∀ {H4 : Heap}, Only (fun y => doM m y ∨ y = m.g) H2 H4 → Glb H4 := fun {H4} k => hg.keep (F := fun y => 2 ≤ y) (Only.trans hj.ext.only k fun y _ e => by
      rcases hdo y e with e | e | e | e
      · rw [e]; exact hlow.1
      · rw [e]; exact hlow.2.1
      · exact hlow.2.2 y e
      · show 2 ≤ y; omega) (by omega)
    have hG3 := hG hx3
    have post : ∀ {H4 : Heap} {s4 : St} {M4 : List Nat} {f4 : Nat}, Mac H4 m s4 M4 f4 → Only (fun y => doM m y ∨ y = m.g) H2 H4 → TreeO no H4 m.b m.mb s4.A ∧ VarsO H4 m.vm s4.V ∧ Only (fun x => x = m.b ∨ x = m.mb ∨ m.vm = some x) H H4 := fun {H4 s4 M4 f4} hm4 k => ⟨hm4.tree, hm4.vars, Only.trans hj.ext.only k fun y hy e => by
      rcases hdo y e with e | e | e | e
      · exact .inl e
      · exact .inr (.inl e)
      · exact .inr (.inr e)
      · omega⟩
    by_cases hlt : s.at_ < m.n
    · obtain ⟨x, hx⟩ : ∃ x, m.L[s.at_]? = some x := ⟨_, List.getElem?_eq_getElem (by rw [hm3.len]; exact hlt)⟩
      cases f with
      | zero =>
        rw [runP_out (by rw [hm3.len]; exact hlt)]
        ((conv => whnf); repeat (any_goals (first | ((refine (itoa_any (hG3.ext (by exact Vc.xt)) (s.at_ : Int) (by omega) (by omega)).mono ?_; rintro _ H6 ⟨rfl, hx6⟩; have hz6 := hx6.size); (conv => whnf)) | ((have := hx6; refine (wrap_any [108, 105, 110, 101] (Lib.itoa (s.at_ : Int)) (ws := []) (b := .num 73) (show ErV _ [] (.num 73) _ from rfl)).mono ?_; rintro er H7 ⟨her, hx7⟩; have hz7 := hx7.size); (conv => whnf)) | ((first | (with_reducible refine Vc.DrawH.lin (id := 1) mixed ?_) | (with_reducible refine Vc.DrawL.split (es := []) 1 7 (by decide) (by decide) (by decide) ?_ ?_) | (with_reducible refine Vc.DrawL.held (es := [(1, 7)]) [0, 2, 3, 4, 5, 6, 8, 9, 10, 1, 7, 11, 12, 13] [] (by decide +kernel) ?_) | (with_reducible refine Vc.DrawL.held (es := [(7, 1)]) [0, 2, 3, 4, 5, 6, 8, 9, 10, 7, 1, 11, 12, 13] [] (by decide +kernel) ?_)); (conv => whnf)) | (((with_reducible refine Vc.DrawH.held [0, 1, 2, 3, 4, 5, 6, 7, 9, 10, 8, 11, 12, 13, 14] [(8, [4]), (11, [4])] mixed (by decide +kernel) ?_)); (conv => whnf)) | (refine Vc.stp ?_; intros; (conv => whnf)))))
        have x37 := hx6.trans hx7
        obtain ⟨p1, p2, p3⟩ := post (hm3.ext x37) (hx3.ext x37)
        rw [if_neg (by decide)] at her
        exact ⟨er, by show Value.tuple #[.int .i64 ((F : Int) - ((0 : Nat) : Int)), _, _] = Value.tuple #[.int .i64 (u : Int), _, _]; rw [show (F : Int) - ((0 : Nat) : Int) = u by omega], by rw [if_neg (show ¬ (73 : Nat) = 0 by decide)]; exact her, p1, p2, p3⟩
      | succ f =>
        have hst := step_at (L := m.L) hne hx hS
        have hnx := hm3.len
        rw [runP_step hx]
        have hgl := hb3.lt
        by_cases he : (stepP (kindsL m.L) x s).2 = 0
        · rw [if_pos he]
          ((conv => whnf); repeat (any_goals (first | ((refine DoH.store1 (o := 0 + 6) hb3 rfl rfl rfl (show 6 < 7 by decide) ?_; intro H4 z4 b4 k4; rw [show (((f + 1 : Nat) : Int) - 1) = (f : Int) by omega] at b4; have b4 : Blk H4 m.g (macC m f) 139 := b4; have hm4 := hm3.fuel b4 k4; have hx4 := Only.trans hx3 k4 fun y _ e => (.inr e : doM m y ∨ y = m.g)); (conv => whnf)) | ((have := hm4; refine (do_any hm4 hne hx).mono ?_; rintro v5 H5 hd5; obtain ⟨nx, M5, rfl, hnx5, hm5, ho5⟩ := hd5.out; have hx5 := Only.trans hx4 ho5 fun y _ e => (.inl e : doM m y ∨ y = m.g); rw [he] at hnx5 ⊢; have hnx5 := hnx5 rfl); (conv => whnf)) | ((first | (with_reducible refine Vc.DrawH.lin (id := 1) mixed ?_) | (with_reducible refine Vc.DrawL.split (es := []) 1 7 (by decide) (by decide) (by decide) ?_ ?_) | (with_reducible refine Vc.DrawL.held (es := [(1, 7)]) [0, 2, 3, 4, 5, 6, 8, 9, 10, 1, 7, 11, 12, 13] [] (by decide +kernel) ?_) | (with_reducible refine Vc.DrawL.held (es := [(7, 1)]) [0, 2, 3, 4, 5, 6, 8, 9, 10, 7, 1, 11, 12, 13] [] (by decide +kernel) ?_)); (conv => whnf)) | (((with_reducible refine Vc.DrawH.held [0, 1, 2, 3, 4, 5, 6, 7, 9, 10, 8, 11, 12, 13, 14] [(8, [4]), (11, [4])] mixed (by decide +kernel) ?_)); (conv => whnf)) | (refine Vc.stp ?_; intros; (conv => whnf)))))
          refine ⟨⟨(stepP (kindsL m.L) x s).1, M5, u + 1, f⟩, ⟨by show Value.int _ _ = Value.int _ _; rw [hnx5], trivial⟩, ⟨hm5, by show u + 1 + f = F; omega, rfl, by show (stepP (kindsL m.L) x s).1.at_ ≤ m.n; omega, hst.2, hx5⟩, by show f < f + 1; omega⟩
        · rw [if_neg he]
          obtain ⟨E, hE⟩ : ∃ E, (stepP (kindsL m.L) x s).2 = E := ⟨_, rfl⟩
          rw [hE] at he
          have hEl := step_code (kindsL m.L) x s
          rw [hE] at hEl
          have heb : ((E : Int) != 0) = true := by rw [bne_iff_ne]; omega
          ((conv => whnf); repeat (any_goals (first | ((refine DoH.store1 (o := 0 + 6) hb3 rfl rfl rfl (show 6 < 7 by decide) ?_; intro H4 z4 b4 k4; rw [show (((f + 1 : Nat) : Int) - 1) = (f : Int) by omega] at b4; have b4 : Blk H4 m.g (macC m f) 139 := b4; have hm4 := hm3.fuel b4 k4; have hx4 := Only.trans hx3 k4 fun y _ e => (.inr e : doM m y ∨ y = m.g)); (conv => whnf)) | ((have := hm4; refine (do_any hm4 hne hx).mono ?_; rintro v5 H5 hd5; obtain ⟨nx, M5, rfl, hnx5, hm5, ho5⟩ := hd5.out; have hx5 := Only.trans hx4 ho5 fun y _ e => (.inl e : doM m y ∨ y = m.g); rw [hE]; have hb5 := hm5.blk; unfold macC at hb5; have hz5 := hx5.size); (conv => whnf)) | ((refine (itoa_any ((hG hx5).ext (by exact Vc.xt)) (s.at_ : Int) (by omega) (by omega)).mono ?_; rintro _ H6 ⟨rfl, hx6⟩; have hz6 := hx6.size); (conv => whnf)) | ((have := hx6; refine (wrap_any [108, 105, 110, 101] (Lib.itoa (s.at_ : Int)) (ws := []) (b := .num E) (show ErV _ [] (.num E) _ from rfl)).mono ?_; rintro er H7 ⟨her, hx7⟩; have hz7 := hx7.size); (conv => whnf)) | ((first | (with_reducible refine Vc.DrawH.lin (id := 1) mixed ?_) | (with_reducible refine Vc.DrawL.split (es := []) 1 7 (by decide) (by decide) (by decide) ?_ ?_) | (with_reducible refine Vc.DrawL.held (es := [(1, 7)]) [0, 2, 3, 4, 5, 6, 8, 9, 10, 1, 7, 11, 12, 13] [] (by decide +kernel) ?_) | (with_reducible refine Vc.DrawL.held (es := [(7, 1)]) [0, 2, 3, 4, 5, 6, 8, 9, 10, 7, 1, 11, 12, 13] [] (by decide +kernel) ?_)); (conv => whnf)) | (((with_reducible refine Vc.DrawH.held [0, 1, 2, 3, 4, 5, 6, 7, 9, 10, 8, 11, 12, 13, 14] [(8, [4]), (11, [4])] mixed (by decide +kernel) ?_)); (conv => whnf)) | (refine Vc.stp ?_; intros; (conv => whnf)))))
          have x57 := hx6.trans hx7
          obtain ⟨p1, p2, p3⟩ := post (hm5.ext x57) (hx5.ext x57)
          rw [if_neg (by show ¬ ((E : Int) == 0) = true; rw [beq_iff_eq]; omega)] at her
          exact ⟨er, by show Value.tuple #[.int .i64 ((F : Int) - (f : Int)), _, _] = Value.tuple #[.int .i64 ((u + 1 : Nat) : Int), _, _]; rw [show (F : Int) - (f : Int) = ((u + 1 : Nat) : Int) by omega], by rw [if_neg he]; exact her, p1, p2, p3⟩
    · rw [runP_end (by rw [hm3.len]; omega)]
      ((conv => whnf); repeat (any_goals (first | ((first | (with_reducible refine Vc.DrawH.lin (id := 1) mixed ?_) | (with_reducible refine Vc.DrawL.split (es := []) 1 7 (by decide) (by decide) (by decide) ?_ ?_) | (with_reducible refine Vc.DrawL.held (es := [(1, 7)]) [0, 2, 3, 4, 5, 6, 8, 9, 10, 1, 7, 11, 12, 13] [] (by decide +kernel) ?_) | (with_reducible refine Vc.DrawL.held (es := [(7, 1)]) [0, 2, 3, 4, 5, 6, 8, 9, 10, 7, 1, 11, 12, 13] [] (by decide +kernel) ?_)); (conv => whnf)) | (((with_reducible refine Vc.DrawH.held [0, 1, 2, 3, 4, 5, 6, 7, 9, 10, 8, 11, 12, 13, 14] [(8, [4]), (11, [4])] mixed (by decide +kernel) ?_)); (conv => whnf)) | (refine Vc.stp ?_; intros; (conv => whnf)))))
      obtain ⟨p1, p2, p3⟩ := post hm3 hx3
      have ha : s.at_ = m.n := by omega
      exact ⟨.nilIface, by show Value.tuple #[.int .i64 ((F : Int) - f), _, _] = Value.tuple #[.int .i64 (u : Int), .int .i64 (s.at_ : Int), _]; rw [ha, show (F : Int) - f = u by omega], by rw [if_pos rfl], p1, p2, p3⟩
end Go.Proofs.YtphkaogbcfdllaaGreatDoor
/- Build scripts at work, plain: repeats within one another. -/
namespace Go.Run
open Go.Scr Go.Pth Go.Tre Go.Blk
open Go.Vc (mget mput mget_put)
/-- so many steps, each without an error -/
def Goes (L : List Ln) (n : Nat) (s s' : St) : Prop := ∀ f u, runP L (f + n) u s = runP L f (u + n) s'
theorem Goes.refl (L : List Ln) (s : St) : Goes L 0 s s := fun f u => rfl
theorem Goes.trans {L : List Ln} {n m : Nat} {a b c : St} (h : Goes L n a b) (k : Goes L m b c) : Goes L (n + m) a c := fun f u => by
  rw [show f + (n + m) = (f + m) + n by omega, h, k, show u + n + m = u + (n + m) by omega]
theorem Goes.one {L : List Ln} {s s' : St} {x : Ln} (hx : L[s.at_]? = some x) (h : stepP (kindsL L) x s = (s', 0)) : Goes L 1 s s' := fun f u => by
  rw [runP_step hx, h]; exact if_pos rfl
theorem Goes.cast {L : List Ln} {n m : Nat} {a b : St} (h : Goes L n a b) (e : n = m) : Goes L m a b := e ▸ h
/-- three files at the root, of bytes of one kind -/
structure Tri (A : Tr) (i j k : Nat) : Prop where
  sorted : Sorted A
  x : mget A [120] = if i = 0 then none else some (false, List.replicate i 49)
  y : mget A [121] = if j = 0 then none else some (false, List.replicate j 50)
  z : mget A [122] = if k = 0 then none else some (false, List.replicate k 51)
  size : sizeT A = i + j + k
  len : A.length ≤ (if i = 0 then 0 else 1) + (if j = 0 then 0 else 1) + (if k = 0 then 0 else 1)
theorem Tri.nil : Tri [] 0 0 0 := ⟨List.Pairwise.nil, rfl, rfl, rfl, rfl, Nat.zero_le _⟩
/-- a byte behind a file at the root -/
theorem app_one {A : Tr} (hA : Sorted A) (c d : UInt8) (n : Nat) (hc : cleanF [c] = ([c], 0)) (hp : pars [c] = []) (hg : mget A [c] = if n = 0 then none else some (false, List.replicate n d)) (hs : sizeT A ≤ 1000) (hl : A.length ≤ 3) (hn : n ≤ 500) :
    appendF A [c] [d] = (putF A [c] (false, List.replicate (n + 1) d), 0) ∧ sizeT (putF A [c] (false, List.replicate (n + 1) d)) = sizeT A + 1 ∧ (putF A [c] (false, List.replicate (n + 1) d)).length = A.length + (if n = 0 then 1 else 0) := by
  have hb : bytesF A [c] ++ [d] = List.replicate (n + 1) d := by
    unfold bytesF
    rw [hg]
    by_cases h0 : n = 0
    · rw [if_pos h0, h0]; rfl
    · rw [if_neg h0, List.replicate_succ']
  have hd : dirF A [c] = false := by
    unfold dirF
    rw [hg]
    by_cases h0 : n = 0
    · rw [if_pos h0]; rfl
    · rw [if_neg h0]; rfl
  have hf : fileF A [c] = false := by unfold fileF; rw [hp]; rfl
  have hk : lackF A [c] = [] := by unfold lackF; rw [hp]; rfl
  have ho : oldF A [c] = n := by
    unfold oldF
    rw [hg]
    by_cases h0 : n = 0
    · rw [if_pos h0, h0]
    · rw [if_neg h0]; simp
  have hm : moreF A [c] ≤ 1 := by unfold moreF; rw [hk]; split <;> simp
  have hsz := putF_size hA [c] (false, List.replicate (n + 1) d)
  rw [ho] at hsz
  have hlen := putF_len hA [c] (false, List.replicate (n + 1) d)
  refine ⟨?_, by simp at hsz; omega, ?_⟩
  · unfold appendF
    rw [hc]
    dsimp only
    rw [if_pos rfl, hb]
    unfold writeP
    rw [if_neg (by rw [hd, hf]; decide), if_neg (by rw [List.length_replicate, ho]; omega), hk]
    rfl
  · rw [hlen, hg]
    by_cases h0 : n = 0
    · rw [if_pos h0, if_pos rfl, if_pos h0]
    · rw [if_neg h0, if_neg (by simp), if_neg h0]
theorem Tri.appX {A : Tr} {i j k : Nat} (h : Tri A i j k) (hi : i + j + k ≤ 500) : ∃ B, appendF A [120] [49] = (B, 0) ∧ Tri B (i + 1) j k := by
  have hl := h.len
  obtain ⟨h1, h2, h3⟩ := app_one h.sorted 120 49 i (by decide +kernel) (by decide +kernel) h.x (by rw [h.size]; omega) (by split at hl <;> split at hl <;> split at hl <;> omega) (by omega)
  refine ⟨_, h1, putF_sorted h.sorted _ _, ?_, ?_, ?_, by rw [h2, h.size]; omega, ?_⟩
  · rw [mget_putF, if_pos rfl, if_neg (by omega)]
  · rw [mget_putF, if_neg (by decide)]; exact h.y
  · rw [mget_putF, if_neg (by decide)]; exact h.z
  · rw [h3, if_neg (by omega : i + 1 ≠ 0)]
    split at hl <;> rename_i h0
    · rw [if_pos h0]; omega
    · rw [if_neg h0]; omega
theorem Tri.appY {A : Tr} {i j k : Nat} (h : Tri A i j k) (hi : i + j + k ≤ 500) : ∃ B, appendF A [121] [50] = (B, 0) ∧ Tri B i (j + 1) k := by
  have hl := h.len
  obtain ⟨h1, h2, h3⟩ := app_one h.sorted 121 50 j (by decide +kernel) (by decide +kernel) h.y (by rw [h.size]; omega) (by split at hl <;> split at hl <;> split at hl <;> omega) (by omega)
  refine ⟨_, h1, putF_sorted h.sorted _ _, ?_, ?_, ?_, by rw [h2, h.size]; omega, ?_⟩
  · rw [mget_putF, if_neg (by decide)]; exact h.x
  · rw [mget_putF, if_pos rfl, if_neg (by omega)]
  · rw [mget_putF, if_neg (by decide)]; exact h.z
  · rw [h3, if_neg (by omega : j + 1 ≠ 0)]
    by_cases h0 : j = 0
    · rw [if_pos h0]; rw [if_pos h0] at hl; omega
    · rw [if_neg h0]; rw [if_neg h0] at hl; omega
theorem Tri.appZ {A : Tr} {i j k : Nat} (h : Tri A i j k) (hi : i + j + k ≤ 500) : ∃ B, appendF A [122] [51] = (B, 0) ∧ Tri B i j (k + 1) := by
  have hl := h.len
  obtain ⟨h1, h2, h3⟩ := app_one h.sorted 122 51 k (by decide +kernel) (by decide +kernel) h.z (by rw [h.size]; omega) (by split at hl <;> split at hl <;> split at hl <;> omega) (by omega)
  refine ⟨_, h1, putF_sorted h.sorted _ _, ?_, ?_, ?_, by rw [h2, h.size]; omega, ?_⟩
  · rw [mget_putF, if_neg (by decide)]; exact h.x
  · rw [mget_putF, if_neg (by decide)]; exact h.y
  · rw [mget_putF, if_pos rfl, if_neg (by omega)]
  · rw [h3, if_neg (by omega : k + 1 ≠ 0)]
    by_cases h0 : k = 0
    · rw [if_pos h0]; rw [if_pos h0] at hl; omega
    · rw [if_neg h0]; rw [if_neg h0] at hl; omega
/-- the script of repeats -/
def repL (a b c : Nat) : List Ln := [⟨8, [], [], [], a, false⟩, ⟨2, [120], [], [49], 0, false⟩, ⟨8, [], [], [], b, false⟩, ⟨2, [121], [], [50], 0, false⟩, ⟨10, [], [], [], 0, false⟩, ⟨10, [], [], [], 0, false⟩] ++ List.replicate c ⟨2, [122], [], [51], 0, false⟩
def repK (c : Nat) : List Nat := [8, 2, 8, 2, 10, 10] ++ List.replicate c 2
theorem rep_kinds (a b c : Nat) : kindsL (repL a b c) = repK c := by simp [kindsL, repL, repK]
theorem rep_ends0 (c : Nat) : endsF (repK c) 0 = (none, 5) := rfl
theorem rep_ends2 (c : Nat) : endsF (repK c) 2 = (none, 4) := rfl
theorem fill_one (V : Vars) (c : UInt8) (h : c ≠ 36) : fillF V [c] = [c] := by rw [fillF_cons, if_pos h]; rfl
theorem step_app (K : List Nat) (p t : UInt8) (hp : p ≠ 36) (ht : t ≠ 36) (s : St) {B : Tr} (h : appendF s.A [p] [t] = (B, 0)) : stepP K ⟨2, [p], [], [t], 0, false⟩ s = ({ s with at_ := s.at_ + 1, A := B }, 0) := by
  unfold stepP
  dsimp only
  rw [if_neg (by decide), if_neg (by decide), if_pos rfl, fill_one _ _ hp, fill_one _ _ ht, h]; rfl
theorem step_end (K : List Nat) (s : St) (h n : Nat) (S : List (Nat × Nat)) (hS : s.S = (h, n) :: S) (he : (endsF K h).2 = s.at_) : stepP K ⟨10, [], [], [], 0, false⟩ s = (if 1 < n then { s with at_ := h + 1, S := (h, n - 1) :: S } else { s with at_ := s.at_ + 1, S := S }, 0) := by
  unfold stepP
  dsimp only
  rw [if_neg (by decide), if_neg (by decide), if_neg (by decide), if_neg (by decide), if_neg (by decide), if_neg (by decide), if_neg (by decide), if_neg (by decide), if_neg (by decide), if_neg (by decide), if_pos rfl, hS]
  dsimp only
  rw [if_pos he]
  split <;> rfl
theorem step_rep (K : List Nat) (n : Nat) (s : St) : stepP K ⟨8, [], [], [], n, false⟩ s = (if n = 0 then { s with at_ := (endsF K s.at_).2 + 1 } else { s with at_ := s.at_ + 1, S := (s.at_, n) :: s.S }, 0) := by
  unfold stepP
  dsimp only
  rw [if_neg (by decide), if_neg (by decide), if_neg (by decide), if_neg (by decide), if_neg (by decide), if_neg (by decide), if_neg (by decide), if_neg (by decide), if_pos rfl]
  split <;> rfl
section
variable (a b c : Nat)
/-- the inner repeat's lines, so many times more -/
theorem inner (i k : Nat) : ∀ (m j : Nat) (A : Tr) (V : Option Vars) (S : List (Nat × Nat)), Tri A i j k → 1 ≤ m → i + j + k + m ≤ 500 → ∃ B, Goes (repL a b c) (2 * m) ⟨3, A, V, (2, m) :: S⟩ ⟨5, B, V, S⟩ ∧ Tri B i (j + m) k := by
  intro m
  induction m with
  | zero => intro j A V S h h1; omega
  | succ m ih =>
    intro j A V S h h1 hs
    obtain ⟨B, e, hB⟩ := h.appY (by omega)
    have g1 : Goes (repL a b c) 1 ⟨3, A, V, (2, m + 1) :: S⟩ ⟨4, B, V, (2, m + 1) :: S⟩ := Goes.one (x := ⟨2, [121], [], [50], 0, false⟩) rfl (by rw [rep_kinds]; exact step_app _ 121 50 (by decide) (by decide) ⟨3, A, V, (2, m + 1) :: S⟩ e)
    have g2 := step_end (kindsL (repL a b c)) ⟨4, B, V, (2, m + 1) :: S⟩ 2 (m + 1) S rfl (by rw [rep_kinds, rep_ends2])
    by_cases h0 : m = 0
    · subst h0
      rw [if_neg (by omega)] at g2
      exact ⟨B, g1.trans (Goes.one (x := ⟨10, [], [], [], 0, false⟩) rfl g2), hB⟩
    · rw [if_pos (by omega)] at g2
      obtain ⟨C, g3, hC⟩ := ih (j + 1) B V S hB (by omega) (by omega)
      refine ⟨C, ((g1.trans (Goes.one (x := ⟨10, [], [], [], 0, false⟩) rfl g2)).trans g3).cast (by omega), ?_⟩
      rw [show j + (m + 1) = j + 1 + m by omega]; exact hC
/-- a turn of the outer repeat's lines, to its end -/
theorem outer1 (i j k : Nat) (A : Tr) (V : Option Vars) (S : List (Nat × Nat)) (h : Tri A i j k) (hs : i + j + k + b + 1 ≤ 500) : ∃ B, Goes (repL a b c) (2 + 2 * b) ⟨1, A, V, S⟩ ⟨5, B, V, S⟩ ∧ Tri B (i + 1) (j + b) k := by
  obtain ⟨B, e, hB⟩ := h.appX (by omega)
  have g1 : Goes (repL a b c) 1 ⟨1, A, V, S⟩ ⟨2, B, V, S⟩ := Goes.one (x := ⟨2, [120], [], [49], 0, false⟩) rfl (by rw [rep_kinds]; exact step_app _ 120 49 (by decide) (by decide) ⟨1, A, V, S⟩ e)
  have g2 := step_rep (kindsL (repL a b c)) b ⟨2, B, V, S⟩
  by_cases h0 : b = 0
  · subst h0
    rw [if_pos rfl, rep_kinds] at g2
    have g3 : Goes (repL a 0 c) 1 ⟨2, B, V, S⟩ ⟨5, B, V, S⟩ := Goes.one (x := ⟨8, [], [], [], 0, false⟩) rfl (by rw [rep_kinds]; exact g2)
    exact ⟨B, g1.trans g3, hB⟩
  · rw [if_neg h0] at g2
    have g3 : Goes (repL a b c) 1 ⟨2, B, V, S⟩ ⟨3, B, V, (2, b) :: S⟩ := Goes.one (x := ⟨8, [], [], [], b, false⟩) rfl g2
    obtain ⟨C, g4, hC⟩ := inner a b c (i + 1) k b j B V S hB (by omega) (by omega)
    exact ⟨C, ((g1.trans g3).trans g4).cast (by omega), hC⟩
theorem outer (k : Nat) : ∀ (m i j : Nat) (A : Tr) (V : Option Vars), Tri A i j k → 1 ≤ m → i + j + k + m * (b + 1) ≤ 500 → ∃ B, Goes (repL a b c) (m * (3 + 2 * b)) ⟨1, A, V, [(0, m)]⟩ ⟨6, B, V, []⟩ ∧ Tri B (i + m) (j + m * b) k := by
  intro m
  induction m with
  | zero => intro i j A V h h1; omega
  | succ m ih =>
    intro i j A V h h1 hs
    have e1 : (m + 1) * (b + 1) = m * (b + 1) + (b + 1) := Nat.succ_mul _ _
    have e2 : (m + 1) * b = m * b + b := Nat.succ_mul _ _
    have e3 : (m + 1) * (3 + 2 * b) = m * (3 + 2 * b) + (3 + 2 * b) := Nat.succ_mul _ _
    obtain ⟨B, g1, hB⟩ := outer1 a b c i j k A V [(0, m + 1)] h (by omega)
    have g2 := step_end (kindsL (repL a b c)) ⟨5, B, V, [(0, m + 1)]⟩ 0 (m + 1) [] rfl (by rw [rep_kinds, rep_ends0])
    by_cases h0 : m = 0
    · subst h0
      rw [if_neg (by omega)] at g2
      exact ⟨B, (g1.trans (Goes.one (x := ⟨10, [], [], [], 0, false⟩) rfl g2)).cast (by omega), by rw [show (0 + 1) * b = b by omega]; exact hB⟩
    · rw [if_pos (by omega)] at g2
      obtain ⟨C, g3, hC⟩ := ih (i + 1) (j + b) B V hB (by omega) (by omega)
      refine ⟨C, ((g1.trans (Goes.one (x := ⟨10, [], [], [], 0, false⟩) rfl g2)).trans g3).cast (by omega), ?_⟩
      rw [show i + (m + 1) = i + 1 + m by omega, e2, show j + (m * b + b) = j + b + m * b by omega]; exact hC
theorem rep_get (m : Nat) (hm : m < c) : (repL a b c)[6 + m]? = some ⟨2, [122], [], [51], 0, false⟩ := by
  unfold repL
  rw [List.getElem?_append_right (by simp), List.getElem?_replicate, if_pos (by simp; exact hm)]
theorem behind (i j : Nat) : ∀ (m k : Nat) (A : Tr) (V : Option Vars), Tri A i j k → k + m = c → i + j + c ≤ 400 → ∃ B, Goes (repL a b c) m ⟨6 + k, A, V, []⟩ ⟨6 + c, B, V, []⟩ ∧ Tri B i j c := by
  intro m
  induction m with
  | zero =>
    intro k A V h hk hs
    obtain rfl : k = c := by omega
    exact ⟨A, Goes.refl _ _, h⟩
  | succ m ih =>
    intro k A V h hk hs
    obtain ⟨B, e, hB⟩ := h.appZ (by omega)
    have g1 : Goes (repL a b c) 1 ⟨6 + k, A, V, []⟩ ⟨6 + (k + 1), B, V, []⟩ := Goes.one (x := ⟨2, [122], [], [51], 0, false⟩) (rep_get a b c k (by omega)) (by rw [rep_kinds]; exact step_app _ 122 51 (by decide) (by decide) ⟨6 + k, A, V, []⟩ e)
    obtain ⟨C, g2, hC⟩ := ih (k + 1) B V hB (by omega) hs
    exact ⟨C, (g1.trans g2).cast (by omega), hC⟩
theorem rep_len : (repL a b c).length = 6 + c := by simp [repL]; omega
/-- what the script comes to -/
theorem rep_run (ha : a < 12) (hb : b < 12) (hc : c < 4) : ∃ B, runP (repL a b c) 65536 0 ⟨0, [], none, []⟩ = ((1 + a * (3 + 2 * b) + c, 0), ⟨6 + c, B, none, []⟩) ∧ Tri B a (a * b) c := by
  have hab : a * b ≤ 11 * 11 := Nat.mul_le_mul (by omega) (by omega)
  have hab2 : a * (b + 1) ≤ 11 * 12 := Nat.mul_le_mul (by omega) (by omega)
  have hab3 : a * (3 + 2 * b) ≤ 11 * 25 := Nat.mul_le_mul (by omega) (by omega)
  have g1 := step_rep (kindsL (repL a b c)) a ⟨0, [], none, []⟩
  have key : ∃ B, Goes (repL a b c) (1 + a * (3 + 2 * b) + c) ⟨0, [], none, []⟩ ⟨6 + c, B, none, []⟩ ∧ Tri B a (a * b) c := by
    by_cases h0 : a = 0
    · subst h0
      rw [if_pos rfl, rep_kinds, rep_ends0] at g1
      have g2 : Goes (repL 0 b c) 1 ⟨0, [], none, []⟩ ⟨6, [], none, []⟩ := Goes.one (x := ⟨8, [], [], [], 0, false⟩) rfl (by rw [rep_kinds]; exact g1)
      obtain ⟨B, g3, hB⟩ := behind 0 b c 0 0 c 0 [] none Tri.nil (by omega) (by omega)
      exact ⟨B, (g2.trans g3).cast (by omega), by rw [Nat.zero_mul]; exact hB⟩
    · rw [if_neg h0] at g1
      have g2 : Goes (repL a b c) 1 ⟨0, [], none, []⟩ ⟨1, [], none, [(0, a)]⟩ := Goes.one (x := ⟨8, [], [], [], a, false⟩) rfl g1
      obtain ⟨B, g3, hB⟩ := outer a b c 0 a 0 0 [] none Tri.nil (by omega) (by omega)
      rw [Nat.zero_add, Nat.zero_add] at hB
      obtain ⟨C, g4, hC⟩ := behind a b c a (a * b) c 0 B none hB (by omega) (by omega)
      exact ⟨C, ((g2.trans g3).trans g4).cast (by omega), hC⟩
  obtain ⟨B, g, hB⟩ := key
  refine ⟨B, ?_, hB⟩
  have := g (65536 - (1 + a * (3 + 2 * b) + c)) 0
  rw [show 65536 - (1 + a * (3 + 2 * b) + c) + (1 + a * (3 + 2 * b) + c) = 65536 by omega] at this
  rw [this, runP_end (by rw [rep_len]; exact Nat.le_refl _), Nat.zero_add]
end
end Go.Run
/- Build scripts at work, plain: the statements' examples. -/
namespace Go.Run
open Go.Scr Go.Pth Go.Tre Go.Blk
open Go.Vc (mget mput)
instance (K : List Nat) : Decidable (Nested K) := by unfold Nested; exact inferInstance
def kv1 : Txt := [114, 101, 112, 101, 97, 116, 32, 51, 10, 97, 112, 112, 101, 110, 100, 32, 97, 32, 34, 120, 34, 10, 101, 110, 100, 10]
def kv2 : Txt := [102, 97, 105, 108, 32, 34, 110, 111, 34, 10]
def kvL : List Ln := [⟨8, [], [], [], 3, false⟩, ⟨2, [97], [], [120], 0, false⟩, ⟨10, [], [], [], 0, false⟩]
def kvM : List Ln := [⟨11, [], [], [110, 111], 0, false⟩]
theorem kv1_parse : parseF kv1 = (some kvL, 0) := by decide +kernel
theorem kv2_parse : parseF kv2 = (some kvM, 0) := by decide +kernel
theorem kv1_run : (runP kvL 100 0 ⟨0, [], none, []⟩).1 = (7, 0) ∧ (runP kvL 100 0 ⟨0, [], none, []⟩).2.at_ = 3 ∧ readF (runP kvL 100 0 ⟨0, [], none, []⟩).2.A [97] = ([120, 120, 120], 0) := by decide +kernel
theorem kv_nested : Nested (kindsL kvL) ∧ Nested (kindsL kvM) := by decide +kernel
/- if, with and without an else -/
def ifNames : List Txt := [[97], [97, 47, 98], [46], [46, 46, 47, 120]]
def ifA : Txt := [105, 102, 32, 101, 120, 105, 115, 116, 115, 32]
def ifB : Txt := [105, 102, 32, 110, 111, 116, 32, 101, 120, 105, 115, 116, 115, 32]
def ifC : Txt := [119, 114, 105, 116, 101, 32, 121, 101, 115, 32, 34, 34, 10]
def ifD : Txt := [101, 108, 115, 101, 10, 119, 114, 105, 116, 101, 32, 110, 111, 32, 34, 34, 10]
def ifE : Txt := [101, 110, 100, 10, 119, 114, 105, 116, 101, 32, 101, 110, 100, 32, 34, 34, 10]
def ifT (p : Nat) (nt els : Bool) : Txt := (if nt then ifB else ifA) ++ ifNames.getD p [] ++ [10] ++ ifC ++ (if els then ifD else []) ++ ifE
def ifTree (there : Bool) : Tr := if there then (writeF [] [97, 47, 98] []).1 else []
def ifIs (p : Nat) (there : Bool) : Bool := p == 2 || (there && decide (p < 2))
def ifWant (is nt els : Bool) : Nat := 4 + (if (is != nt) && els then 1 else 0) - (if is == nt && !els then 1 else 0)
def ifL (p : Nat) (nt els : Bool) : List Ln := (parseF (ifT p nt els)).1.getD []
def ifR (p : Nat) (there nt els : Bool) : (Nat × Nat) × St := runP (ifL p nt els) 100 0 ⟨0, ifTree there, none, []⟩
def ifChk (p : Nat) (there nt els : Bool) : Bool :=
  decide (parseF (ifT p nt els) = (some (ifL p nt els), 0)) && decide (Nested (kindsL (ifL p nt els))) &&
  decide ((ifR p there nt els).1 = (ifWant (ifIs p there) nt els, 0)) &&
  (existsF (ifR p there nt els).2.A [121, 101, 115] == (ifIs p there != nt)) && (existsF (ifR p there nt els).2.A [110, 111] == (els && (ifIs p there == nt))) && existsF (ifR p there nt els).2.A [101, 110, 100]
theorem if_chk : ∀ p, p < 4 → ∀ there nt els, ifChk p there nt els = true := by decide +kernel
structure IfOk (p : Nat) (there nt els : Bool) : Prop where
  parse : parseF (ifT p nt els) = (some (ifL p nt els), 0)
  nest : Nested (kindsL (ifL p nt els))
  run : (ifR p there nt els).1 = (ifWant (ifIs p there) nt els, 0)
  yes : existsF (ifR p there nt els).2.A [121, 101, 115] = (ifIs p there != nt)
  no : existsF (ifR p there nt els).2.A [110, 111] = (els && (ifIs p there == nt))
  fin : existsF (ifR p there nt els).2.A [101, 110, 100] = true
theorem if_ok (p : Nat) (hp : p < 4) (there nt els : Bool) : IfOk p there nt els := by
  have h := if_chk p hp there nt els
  unfold ifChk at h
  simp only [Bool.and_eq_true, decide_eq_true_eq, beq_iff_eq] at h
  obtain ⟨⟨⟨⟨⟨h1, h2⟩, h3⟩, h4⟩, h5⟩, h6⟩ := h
  exact ⟨h1, h2, h3, h4, h5, h6⟩
/- one line, of two names -/
/- the repeats' text -/
def dcF (n : Nat) : Txt := if n < 10 then [UInt8.ofNat (48 + n)] else [UInt8.ofNat (48 + n / 10), UInt8.ofNat (48 + n % 10)]
def rpA : Txt := [114, 101, 112, 101, 97, 116, 32]
def rpB : Txt := [10, 97, 112, 112, 101, 110, 100, 32, 120, 32, 34, 49, 34, 10, 114, 101, 112, 101, 97, 116, 32]
def rpC : Txt := [10, 97, 112, 112, 101, 110, 100, 32, 121, 32, 34, 50, 34, 10, 101, 110, 100, 10, 101, 110, 100, 10]
def rpD : Txt := [97, 112, 112, 101, 110, 100, 32, 122, 32, 34, 51, 34, 10]
def rpT (a b c : Nat) : Txt := rpA ++ dcF a ++ rpB ++ dcF b ++ rpC ++ (List.replicate c rpD).flatten
def rpChk (a b c : Nat) : Bool := decide (parseF (rpT a b c) = (some (repL a b c), 0))
theorem rp_chk : ∀ a, a < 12 → ∀ b, b < 12 → ∀ c, c < 4 → rpChk a b c = true := by decide +kernel
theorem rp_parse {a b c : Nat} (ha : a < 12) (hb : b < 12) (hc : c < 4) : parseF (rpT a b c) = (some (repL a b c), 0) := of_decide_eq_true (rp_chk a ha b hb c hc)
end Go.Run
/- Numbers' texts, as the statements write them. -/
namespace Go.Vc
theorem QuoH.neg {m c : Nat} {K : Int → Prop} (hc : 0 < c) (hm : m ≤ 9223372036854775808) (hk : K (-((m / c : Nat) : Int))) : QuoH .i64 (-(m : Int)) (c : Int) K := by
  refine ⟨by omega, ?_⟩
  have h : m / c ≤ m := Nat.div_le_self _ _
  rw [Int.neg_tdiv, Int.tdiv_eq_ediv_of_nonneg (by omega), show ((m : Int) / (c : Int)) = ((m / c : Nat) : Int) by simp]
  generalize m / c = q at *
  rw [wrap_i64 (by omega) (by omega)]
  exact hk
theorem RemH.neg {m c : Nat} {K : Int → Prop} (hc : 0 < c) (hk : K (-((m % c : Nat) : Int))) : RemH (-(m : Int)) (c : Int) K := by
  refine ⟨by omega, ?_⟩
  rw [Int.neg_tmod, Int.tmod_eq_emod_of_nonneg (by omega), show ((m : Int) % (c : Int)) = ((m % c : Nat) : Int) by simp]
  exact hk
end Go.Vc
namespace Go.Proofs.YtphkaogbcfdllaaGreatDoor
open Go Go.Vc Go.RowKit Go.Sort
theorem dd_small {u : Nat} (h : u < 10) : Lib.decDigits u = [UInt8.ofNat (48 + u)] := by rw [Lib.decDigits, dif_pos h]
theorem dd_big {u : Nat} (h : ¬ u < 10) : Lib.decDigits u = Lib.decDigits (u / 10) ++ Lib.decDigits (u % 10) := by
  rw [Lib.decDigits, dif_neg h, dd_small (Nat.mod_lt u (by decide))]
theorem itoa_nat (u : Nat) : Lib.itoa (u : Int) = Lib.decDigits u := by unfold Lib.itoa; rw [if_neg (by omega)]; simp
def digs : Bs := [48, 49, 50, 51, 52, 53, 54, 55, 56, 57]
theorem digs_at (u : Nat) (h : u < 10) : (mkS digs).extract u (u + 1) = mkS (Lib.decDigits u) := by
  rw [dd_small h, mkS_ext, show u + 1 - u = 1 by omega]
  have : u = 0 ∨ u = 1 ∨ u = 2 ∨ u = 3 ∨ u = 4 ∨ u = 5 ∨ u = 6 ∨ u = 7 ∨ u = 8 ∨ u = 9 := by omega
  rcases this with rfl | rfl | rfl | rfl | rfl | rfl | rfl | rfl | rfl | rfl <;> rfl
end Go.Proofs.YtphkaogbcfdllaaGreatDoor
/- errors.As: what the model's entries for reflectlite say at this program's types. -/
namespace Go.Proofs.YtphkaogbcfdllaaGreatDoor
open Go Go.Vc Go.RowKit Go.Extern Go.Extern.Stop Go.Stop

abbrev hT (t : Nat) : Value := .pointer (some ⟨7, t, none⟩)
abbrev tyV (t : Nat) : Value := .iface 318 (.agg #[hT t])
theorem SemH.run1 {P : Program} {H : Heap} {s : Sem Value} {v : Value} {K : Value → Heap → Prop} (h : ∀ w : World, w.heap = H → s.run P w = .ok v w) (hk : K v H) : SemH P s H K := ⟨fun w hw => ⟨v, w, h w hw, Same.refl w, hw ▸ hk⟩⟩
theorem rlm (z : Sem Value) (f : TypeId → Addr → Nat → Nat → Sem Value) (v : Value) :
    ReflectliteValue.method z f #[v] = (do match ← ReflectliteValue.parts v with | none => z | some (t, a, fl) => f t a fl (fl % 32)) := rfl
theorem rls (v x : Value) : ReflectliteValue.set #[v, x] = (do
    let (some (dst, a, fl), some (src, b, _)) := (← ReflectliteValue.parts v, ← ReflectliteValue.parts x)
      | unsupported (.noEntry "extern/(internal/reflectlite.Value).Set.zeroValue")
    if fl / ReflectliteValue.flagAddr % 2 == 0 then unsupported (.noEntry "extern/(internal/reflectlite.Value).Set.unaddressable")
    let val ← loadVar src b
    if ← Rtype.directlyAssignable dst src then storeVar dst a val
    else if ← Rtype.implements dst src then
      if (← Rtype.kind src) == 20 then
        match val with
        | .nilIface => unsupported (.noEntry "extern/reflectlite: a nil value of one interface type handed on as a value of another")
        | _ => storeVar dst a val
      else storeVar dst a (.iface src val)
    else panicString ("reflectlite.Set: value of type " ++ (← Rtype.spelt src) ++ " is not assignable to type " ++ (← Rtype.spelt dst))
    pure (.tuple #[])) := rfl


theorem valueOf_n (t : Addr) (H : Heap) : CallH Tryz.prog 178 [.iface 219 (.pointer (some t))] H fun v H' => v = .agg #[hT 219, .pointer (some ⟨H.size, 0, none⟩), .int .u64 150] ∧ Blk H' H.size #[.pointer (some t)] 219 ∧ H'.size = H.size + 1 ∧ Ext H H' := by
  refine CallH.extern Tryz.func178 (by kernel_rfl) (by kernel_rfl) (by kernel_rfl) (by kernel_rfl) (e := (fun args => ReflectliteValue.unpack (args.getD 0 (.tuple #[])))) ⟨fun w hw => ?_⟩
  have h : (ReflectliteValue.unpack (.iface 219 (.pointer (some t)))).run Tryz.prog w = .ok (.agg #[hT 219, .pointer (some ⟨w.heap.size, 0, none⟩), .int .u64 150]) (w.alloc (.cells #[.pointer (some t)] 219)) := by kernel_rfl
  exact ⟨_, _, h, ⟨rfl, rfl, rfl⟩, by rw [hw], hw ▸ Blk.new (push_last _ _), by rw [← hw]; simp, hw ▸ Only.push _ _ _⟩
theorem typeV_n (a : Addr) (H : Heap) : CallH Tryz.prog 179 [.agg #[hT 219, .pointer (some a), .int .u64 150]] H fun v H' => v = tyV 219 ∧ H = H' := by
  refine CallH.extern Tryz.func179 (by kernel_rfl) (by kernel_rfl) (by kernel_rfl) (by kernel_rfl) (e := ReflectliteValue.methodAny (ReflectliteValue.valueError "reflectlite.Value.Type" 0) (fun t _ _ _ => ReflectliteType.toType t)) (SemH.run1 (v := tyV 219) (fun w _ => by kernel_rfl) ⟨rfl, rfl⟩)
theorem kind_n (H : Heap) {K : Value → Heap → Prop} (hk : K (.int .u8 22) H) : NextH Tryz.prog (callMethod (tyV 219) "Kind" #[]) H K := by
  refine NextH.method (f := 307) (args := [hT 219]) (fun w => by kernel_rfl) ?_
  refine CallH.extern Tryz.func307 (by kernel_rfl) (by kernel_rfl) (by kernel_rfl) (by kernel_rfl) (e := ReflectliteType.abiMethod fun t => do pure (.int .u8 (← Rtype.kind t))) (SemH.run1 (v := .int .u8 22) (fun w _ => by kernel_rfl) hk)
theorem kindE_n (H : Heap) {K : Value → Heap → Prop} (hk : K (.int .u8 2) H) : NextH Tryz.prog (callMethod (tyV 34) "Kind" #[]) H K := by
  refine NextH.method (f := 307) (args := [hT 34]) (fun w => by kernel_rfl) ?_
  refine CallH.extern Tryz.func307 (by kernel_rfl) (by kernel_rfl) (by kernel_rfl) (by kernel_rfl) (e := ReflectliteType.abiMethod fun t => do pure (.int .u8 (← Rtype.kind t))) (SemH.run1 (v := .int .u8 2) (fun w _ => by kernel_rfl) hk)
theorem elemT_n (H : Heap) {K : Value → Heap → Prop} (hk : K (tyV 34) H) : NextH Tryz.prog (callMethod (tyV 219) "Elem" #[]) H K := by
  refine NextH.method (f := 321) (args := [.agg #[hT 219]]) (fun w => by kernel_rfl) ?_
  refine CallH.extern Tryz.func321 (by kernel_rfl) (by kernel_rfl) (by kernel_rfl) (by kernel_rfl) (e := ReflectliteType.method ReflectliteType.elem) (SemH.run1 (v := tyV 34) (fun w _ => by kernel_rfl) hk)
theorem implements_n (H : Heap) {K : Value → Heap → Prop} (hk : K (.bool true) H) : NextH Tryz.prog (callMethod (tyV 34) "Implements" #[tyV 30]) H K := by
  refine NextH.method (f := 322) (args := [.agg #[hT 34], tyV 30]) (fun w => by kernel_rfl) ?_
  refine CallH.extern Tryz.func322 (by kernel_rfl) (by kernel_rfl) (by kernel_rfl) (by kernel_rfl) (e := ReflectliteType.relation "Implements" ReflectliteType.implements_) (SemH.run1 (v := .bool true) (fun w _ => by kernel_rfl) hk)
theorem partsT_n (a : Addr) (w : World) : (ReflectliteValue.parts (.agg #[hT 219, .pointer (some a), .int .u64 150])).run Tryz.prog w = .ok (some (219, a, 150)) w := by kernel_rfl
theorem isNil_n (a p : Addr) (H : Heap) (ha : hcell H a = some (.pointer (some p))) : CallH Tryz.prog 180 [.agg #[hT 219, .pointer (some a), .int .u64 150]] H fun v H' => v = .bool false ∧ H = H' := by
  refine CallH.extern Tryz.func180 (by kernel_rfl) (by kernel_rfl) (by kernel_rfl) (by kernel_rfl) (e := ReflectliteValue.method (ReflectliteValue.valueError "reflectlite.Value.IsNil" 0) ReflectliteValue.isNil) (SemH.run1 (v := .bool false) (fun w hw => ?_) ⟨rfl, rfl⟩)
  have ha : w.cell? a = some (.pointer (some p)) := by rw [cell_heap, hw]; exact ha
  show (ReflectliteValue.method _ ReflectliteValue.isNil #[_]).run _ _ = _
  rw [rlm]
  simp only [Sem.run_bind, partsT_n, Result.andThen]
  simp [ReflectliteValue.isNil, loadVar, isAgg, underlying, Tryz.underlying136, ha, Result.andThen]
theorem elemOf_n (w : World) : (Rtype.elem? 219).run Tryz.prog w = .ok (some 34) w := by kernel_rfl
theorem mkE_n (p : Addr) (w : World) : (ReflectliteValue.mk 34 p ReflectliteValue.flagAddr).run Tryz.prog w = .ok (.agg #[hT 34, .pointer (some p), .int .u64 386]) w := by kernel_rfl
theorem elemV_n (a p : Addr) (H : Heap) (ha : hcell H a = some (.pointer (some p))) : CallH Tryz.prog 220 [.agg #[hT 219, .pointer (some a), .int .u64 150]] H fun v H' => v = .agg #[hT 34, .pointer (some p), .int .u64 386] ∧ H = H' := by
  refine CallH.extern Tryz.func220 (by kernel_rfl) (by kernel_rfl) (by kernel_rfl) (by kernel_rfl) (e := ReflectliteValue.method (ReflectliteValue.valueError "reflectlite.Value.Elem" 0) ReflectliteValue.elem) (SemH.run1 (fun w hw => ?_) ⟨rfl, rfl⟩)
  have ha : w.cell? a = some (.pointer (some p)) := by rw [cell_heap, hw]; exact ha
  show (ReflectliteValue.method _ ReflectliteValue.elem #[_]).run _ _ = _
  rw [rlm]
  simp only [Sem.run_bind, partsT_n, Result.andThen]
  simp [ReflectliteValue.elem, loadVar, isAgg, underlying, Tryz.underlying136, ha, Result.andThen, elemOf_n, mkE_n]
theorem typeOf_n (n : Int) (H : Heap) : CallH Tryz.prog 219 [.iface 34 (.int .i64 n)] H fun v H' => v = tyV 34 ∧ H = H' := by
  refine CallH.extern Tryz.func219 (by kernel_rfl) (by kernel_rfl) (by kernel_rfl) (by kernel_rfl) (e := ReflectliteType.typeOf) (SemH.run1 (v := tyV 34) (fun w _ => by kernel_rfl) ⟨rfl, rfl⟩)
theorem valueOfE_n (n : Int) (H : Heap) : CallH Tryz.prog 178 [.iface 34 (.int .i64 n)] H fun v H' => v = .agg #[hT 34, .pointer (some ⟨H.size, 0, none⟩), .int .u64 130] ∧ Blk H' H.size #[.int .i64 n] 34 ∧ H'.size = H.size + 1 ∧ Ext H H' := by
  refine CallH.extern Tryz.func178 (by kernel_rfl) (by kernel_rfl) (by kernel_rfl) (by kernel_rfl) (e := (fun args => ReflectliteValue.unpack (args.getD 0 (.tuple #[])))) ⟨fun w hw => ?_⟩
  have h : (ReflectliteValue.unpack (.iface 34 (.int .i64 n))).run Tryz.prog w = .ok (.agg #[hT 34, .pointer (some ⟨w.heap.size, 0, none⟩), .int .u64 130]) (w.alloc (.cells #[.int .i64 n] 34)) := by kernel_rfl
  exact ⟨_, _, h, ⟨rfl, rfl, rfl⟩, by rw [hw], hw ▸ Blk.new (push_last _ _), by rw [← hw]; simp, hw ▸ Only.push _ _ _⟩
theorem partsA_n (a : Addr) (w : World) : (ReflectliteValue.parts (.agg #[hT 34, .pointer (some a), .int .u64 386])).run Tryz.prog w = .ok (some (34, a, 386)) w := by kernel_rfl
theorem partsV_n (a : Addr) (w : World) : (ReflectliteValue.parts (.agg #[hT 34, .pointer (some a), .int .u64 130])).run Tryz.prog w = .ok (some (34, a, 130)) w := by kernel_rfl
theorem direct_n (w : World) : (Rtype.directlyAssignable 34 34).run Tryz.prog w = .ok true w := by kernel_rfl
theorem set_n (n : Int) (tb : Nat) (b : Addr) (old : Value) (H : Heap) (hb : hcell H b = some (.int .i64 n)) (ht : Blk H tb #[old] 34) : CallH Tryz.prog 221 [.agg #[hT 34, .pointer (some ⟨tb, 0, none⟩), .int .u64 386], .agg #[hT 34, .pointer (some b), .int .u64 130]] H fun v H' => v = .tuple #[] ∧ H'.size = H.size ∧ Blk H' tb #[.int .i64 n] 34 ∧ But tb H H' := by
  refine CallH.extern Tryz.func221 (by kernel_rfl) (by kernel_rfl) (by kernel_rfl) (by kernel_rfl) (e := ReflectliteValue.set) ⟨fun w hw => ?_⟩
  have hb : w.cell? b = some (.int .i64 n) := by rw [cell_heap, hw]; exact hb
  have ht : Blk w.heap tb #[old] 34 := by rw [hw]; exact ht
  obtain ⟨fr, h1, h2⟩ := ht.out
  have hc : w.cell? ⟨tb, 0, none⟩ = some old := by simp [World.cell?, h1]
  have hf : w.frozen? ⟨tb, 0, none⟩ = false := by
    simp only [World.frozen?, h1]
    rcases h2 with h2 | h2
    · cases fr; simp at h2 ⊢; intro; omega
    · cases fr; simp at h2 ⊢; intro; omega
  have hrun : (ReflectliteValue.set #[.agg #[hT 34, .pointer (some ⟨tb, 0, none⟩), .int .u64 386], .agg #[hT 34, .pointer (some b), .int .u64 130]]).run Tryz.prog w = .ok (.tuple #[]) (w.setCell ⟨tb, 0, none⟩ (.int .i64 n)) := by
    rw [rls]
    simp only [Sem.run_bind, partsA_n, partsV_n, Result.andThen]
    simp [ReflectliteValue.flagAddr, loadVar, isAgg, underlying, Tryz.underlying25, hb, Result.andThen, direct_n, storeVar, Value.cells, storeCells, Addr.add]
    rw [run_store Tryz.prog w ⟨tb, 0, none⟩ _ _ (by rfl)]
    simp [hc, hf]
  obtain ⟨k1, k2, k3⟩ := setCell_blk (i := 0) (v := .int .i64 n) ht
  exact ⟨_, _, hrun, k3, rfl, by rw [set_eq h1]; simp [hw], k1, hw ▸ k2⟩


theorem typeOf_f (p : Option Addr) (H : Heap) : CallH Tryz.prog 219 [.iface 208 (.pointer p)] H fun v H' => v = tyV 208 ∧ H = H' := by
  refine CallH.extern Tryz.func219 (by kernel_rfl) (by kernel_rfl) (by kernel_rfl) (by kernel_rfl) (e := ReflectliteType.typeOf) (SemH.run1 (v := tyV 208) (fun w _ => by kernel_rfl) ⟨rfl, rfl⟩)
theorem assign_nn (H : Heap) {K : Value → Heap → Prop} (hk : K (.bool true) H) : NextH Tryz.prog (callMethod (tyV 34) "AssignableTo" #[tyV 34]) H K := by
  refine NextH.method (f := 319) (args := [.agg #[hT 34], tyV 34]) (fun w => by kernel_rfl) ?_
  refine CallH.extern Tryz.func319 (by kernel_rfl) (by kernel_rfl) (by kernel_rfl) (by kernel_rfl) (e := ReflectliteType.relation "AssignableTo" ReflectliteType.assignableTo) (SemH.run1 (v := .bool true) (fun w _ => by kernel_rfl) hk)
theorem assign_fn (H : Heap) {K : Value → Heap → Prop} (hk : K (.bool false) H) : NextH Tryz.prog (callMethod (tyV 208) "AssignableTo" #[tyV 34]) H K := by
  refine NextH.method (f := 319) (args := [.agg #[hT 208], tyV 34]) (fun w => by kernel_rfl) ?_
  refine CallH.extern Tryz.func319 (by kernel_rfl) (by kernel_rfl) (by kernel_rfl) (by kernel_rfl) (e := ReflectliteType.relation "AssignableTo" ReflectliteType.assignableTo) (SemH.run1 (v := .bool false) (fun w _ => by kernel_rfl) hk)
theorem assign_jn (H : Heap) {K : Value → Heap → Prop} (hk : K (.bool false) H) : NextH Tryz.prog (callMethod (tyV 220) "AssignableTo" #[tyV 34]) H K := by
  refine NextH.method (f := 319) (args := [.agg #[hT 220], tyV 34]) (fun w => by kernel_rfl) ?_
  refine CallH.extern Tryz.func319 (by kernel_rfl) (by kernel_rfl) (by kernel_rfl) (by kernel_rfl) (e := ReflectliteType.relation "AssignableTo" ReflectliteType.assignableTo) (SemH.run1 (v := .bool false) (fun w _ => by kernel_rfl) hk)
theorem typeOf_j (p : Option Addr) (H : Heap) : CallH Tryz.prog 219 [.iface 220 (.pointer p)] H fun v H' => v = tyV 220 ∧ H = H' := by
  refine CallH.extern Tryz.func219 (by kernel_rfl) (by kernel_rfl) (by kernel_rfl) (by kernel_rfl) (e := ReflectliteType.typeOf) (SemH.run1 (v := tyV 220) (fun w _ => by kernel_rfl) ⟨rfl, rfl⟩)
end Go.Proofs.YtphkaogbcfdllaaGreatDoor
/- Errors: what they wrap; errors.Is. -/
namespace Go.Proofs.YtphkaogbcfdllaaGreatDoor
open Go Go.Vc Go.RowKit Go.Sort
theorem unwrapF_any {H : Heap} {g : Nat} {op nm : ByteArray} {v : Value} (hb : Blk H g #[.string op, .string nm, v] 210) : CallH Tryz.prog 311 [.pointer (some ⟨g, 0, none⟩)] H fun u H' => u = v ∧ H = H' := by
  refine Vc.CallH.body Tryz.func311 Tryz.call311 rfl (by decide +kernel) rfl ?_
  ((conv => whnf); repeat (any_goals (first | (refine Vc.stp ?_; intros; (conv => whnf)) | (refine Vc.spl ?_ ?_ <;> (intro _; (conv => whnf))))))
  exact ⟨rfl, rfl⟩
theorem plain_wr {H : Heap} {ws : Chain} {n : Int} {v : Value} (h : WrV H ws (NumV n) v) : plainV v = true ∧ ∃ t x, v = .iface t x := by
  cases ws with
  | nil => have h : v = _ := h; subst h; exact ⟨rfl, _, _, rfl⟩
  | cons x ws => obtain ⟨g, v', rfl, _⟩ := h; exact ⟨rfl, _, _, rfl⟩
theorem vclone_any {H : Heap} {a : Option Addr} {n cap : Nat} {vs : List Value} (hr : Row H a vs) (hn : vs.length = n) (h0 : 0 < n) (hm : n ≤ 1000) (hp : ∀ v ∈ vs, plainV v = true) : CallH Tryz.prog 313 [.slice a n cap] H fun u H' => (∃ a' cap', u = .slice a' n cap' ∧ Row H' a' vs) ∧ Ext H H' := by
  obtain ⟨b, o, ha, _⟩ := hr.at (by omega)
  refine Vc.CallH.body Tryz.func313 Tryz.call313 rfl (by decide +kernel) rfl ?_
  subst ha
  ((conv => whnf); repeat (any_goals (first | ((refine CondH.neg rfl ?_); (conv => whnf)) | (((with_reducible apply SemH.lit (vs := [])); (focus (rfl)); (focus (rfl)); (focus (rfl)); (focus (rfl)); (focus (rfl)); (focus (rfl)); (focus (rfl)); (focus ((intro _ _ _ _; (conv => whnf))))); (conv => whnf)) | (refine Vc.stp ?_; intros; (conv => whnf)))))
  rename_i H1 hs1 hb1 hx1
  have ho1 : Own H1 H.size 30 1 (some ⟨H.size, 0, none⟩) 0 0 [] := own_lit (xs := []) hb1 (Nat.le_refl _) rfl (Nat.zero_le _)
  refine NextH.append (i := Tryz.t30) (z := .nilIface) (base := H.size) rfl ⟨_, rfl, fun _ h => by cases h⟩ rfl rfl rfl ho1 (Src.row (hr.ext hx1) (by rw [hn]; exact (Nat.mul_one n).symm) hp) (by unfold maxLen; omega) (by show (0 + n) * 16 ≤ _; omega) hx1.size ?_
  intro a2 c2 H2 ho2 hw2 _
  ((conv => whnf); repeat (any_goals (first | (refine Vc.stp ?_; intros; (conv => whnf)))))
  refine ⟨⟨a2, c2, by rw [Nat.zero_add]; rfl, ?_⟩, hx1.wr ho1 (Nat.le_refl _) hw2⟩
  have := ho2.row
  rwa [List.nil_append] at this
/-- an element of a row of values of one cell -/
theorem IdxA.val {H : Heap} {a : Option Addr} {vs : List Value} {n : Nat} {i : Int} {K : Addr → Prop} (h : Row H a vs) (hn : vs.length = n) (j : Nat) (v : Value) (hi : i = j) (hv : vs[j]? = some v)
    (hk : ∀ b o, hcell H ⟨b, o + j, none⟩ = some v → K ⟨b, o + j, none⟩) : IdxA a n 1 i K := by
  have hj := (List.getElem?_eq_some_iff.1 hv).1
  refine (Go.Vc.IdxA.row (size := 1) h (by rw [hn, Nat.mul_one]) (by decide) j hi (by omega) fun b o h1 h2 h3 => ?_)
  have h3 := h3 0 v (by rw [Nat.mul_one, Nat.add_zero]; exact hv)
  rw [Nat.mul_one]
  rw [Nat.mul_one] at h3
  exact hk b o (by simpa using h3)
theorem unwrapJ_any {H : Heap} {g : Nat} {a : Option Addr} {n cap : Nat} {vs : List Value} (hb : Blk H g #[.slice a n cap] 223) (hr : Row H a vs) (hn : vs.length = n) (h0 : 0 < n) (hm : n ≤ 1000) (hp : ∀ v ∈ vs, plainV v = true) : CallH Tryz.prog 312 [.pointer (some ⟨g, 0, none⟩)] H fun u H' => (∃ a' cap', u = .slice a' n cap' ∧ Row H' a' vs) ∧ Ext H H' := by
  refine Vc.CallH.body Tryz.func312 Tryz.call312 rfl (by decide +kernel) rfl ?_
  ((conv => whnf); repeat (any_goals (first | ((refine (vclone_any hr hn h0 hm hp).mono ?_; rintro _ H1 ⟨⟨a1, c1, rfl, hr1⟩, hx1⟩); (conv => whnf)) | (refine Vc.stp ?_; intros; (conv => whnf)) | (refine Vc.spl ?_ ?_ <;> (intro _; (conv => whnf))))))
  exact ⟨⟨a1, c1, rfl, hr1⟩, hx1⟩
/-- is the number among them -/
def isB (m : Int) : Bas → Bool
  | .num n => n == m
  | .join l => l.any fun c => c.2 == m
/-- what is joined is something, not too much -/
def BasOk : Bas → Prop
  | .num n => I64 n
  | .join l => 0 < l.length ∧ l.length ≤ 20 ∧ ∀ c ∈ l, Small c.1 ∧ I64 c.2
theorem bas_iface {H : Heap} {b : Bas} {v : Value} (h : BasV H b v) : ∃ t x, v = .iface t x := by
  cases b with
  | num n => exact ⟨_, _, h⟩
  | join l => obtain ⟨g, a, cap, vs, rfl, _⟩ := h; exact ⟨_, _, rfl⟩
theorem join_plain {H : Heap} {l : List (Chain × Int)} {vs : List Value} (hl : vs.length = l.length) (h : ∀ (i : Nat) c v, l[i]? = some c → vs[i]? = some v → WrV H c.1 (NumV c.2) v) : ∀ v ∈ vs, plainV v = true := by
  intro v hv
  obtain ⟨i, hi⟩ := List.getElem?_of_mem hv
  have hil : i < l.length := by have := (List.getElem?_eq_some_iff.1 hi).1; omega
  exact (plain_wr (h i _ v (List.getElem?_eq_getElem hil) hi)).1
end Go.Proofs.YtphkaogbcfdllaaGreatDoor
