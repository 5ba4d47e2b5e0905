import Derived.Still
import Derived.Tactics
import Derived.Laws.Sem
import Derived.Laws.World
set_option linter.unusedVariables false
set_option linter.unusedSimpArgs false
set_option maxRecDepth 100000
namespace Go.Lx

def Calm {α : Type} (P : Program) (s : Sem α) : Prop := (∃ v, ∀ w, s.run P w = .ok v w) ∨ (∀ w v w', s.run P w ≠ .ok v w')
def Never {α : Type} (P : Program) (s : Sem α) : Prop := ∀ w v w', s.run P w ≠ .ok v w'
def Steady {α : Type} (P : Program) (s : Sem α) : Prop := ∀ w v w', s.run P w = .ok v w' → w' = w

section
variable {P : Program} {α β : Type}

theorem Calm.ok {s : Sem α} (v : α) (h : ∀ w, s.run P w = .ok v w) : Calm P s := .inl ⟨v, h⟩
theorem Calm.never {s : Sem α} (h : Never P s) : Calm P s := .inr h
theorem Calm.pure (v : α) : Calm P (Pure.pure v : Sem α) := .inl ⟨v, fun _ => rfl⟩
theorem Never.halt (h : Halt) : Never P (Sem.halt h : Sem α) := fun w v w' => by simp
theorem Never.bind {x : Sem α} {f : α → Sem β} (hx : Never P x) : Never P (x >>= f) := fun w u w' h => by
  simp only [Sem.run_bind] at h
  cases hr : x.run P w with
  | ok a w1 => exact hx _ _ _ hr
  | halt _ _ => rw [hr] at h; simp at h
theorem Never.bind2 {x : Sem α} {f : α → Sem β} (hf : ∀ v, Never P (f v)) : Never P (x >>= f) := fun w u w' h => by
  simp only [Sem.run_bind] at h
  cases hr : x.run P w with
  | ok a w1 => rw [hr] at h; exact hf _ _ _ _ h
  | halt _ _ => rw [hr] at h; simp at h
theorem Calm.bind {x : Sem α} {f : α → Sem β} (hx : Calm P x) (hf : ∀ v, Calm P (f v)) : Calm P (x >>= f) := by
  rcases hx with ⟨v, hv⟩ | hn
  · rcases hf v with ⟨u, hu⟩ | hn
    · exact .inl ⟨u, fun w => by simp [hv, hu]⟩
    · exact .inr fun w u w' => by simp only [Sem.run_bind, hv, Result.andThen_ok]; exact hn w u w'
  · exact .inr (Never.bind hn)
theorem Calm.ite {c : Prop} [Decidable c] {x y : Sem α} (hx : c → Calm P x) (hy : ¬ c → Calm P y) : Calm P (if c then x else y) := by
  split
  · exact hx ‹_›
  · exact hy ‹_›
theorem Calm.program : Calm P program := .inl ⟨P, fun _ => rfl⟩
theorem Calm.stuck (s : String) : Calm P (stuck s : Sem α) := .inr (Never.halt _)
theorem Calm.unsupported (u : Unsupported) : Calm P (unsupported u : Sem α) := .inr (Never.halt _)
theorem Calm.typeInfo (t : TypeId) : Calm P (typeInfo t) := by
  unfold Go.typeInfo
  refine Calm.bind Calm.program fun p => ?_
  split
  · exact Calm.pure _
  · exact Calm.stuck _
theorem Calm.underlying (t : TypeId) : Calm P (underlying t) := by
  unfold Go.underlying
  refine Calm.bind Calm.program fun p => ?_
  split
  · exact Calm.pure _
  · exact Calm.stuck _
theorem Calm.zeroValue (t : TypeId) : Calm P (zeroValue t) := by
  unfold Go.zeroValue
  refine Calm.bind (Calm.typeInfo t) fun p => ?_
  split
  · exact Calm.pure _
  · exact Calm.unsupported _
theorem Calm.sizeOf (t : TypeId) : Calm P (sizeOf t) := by
  unfold Go.sizeOf
  exact Calm.bind (Calm.typeInfo t) fun p => Calm.pure _
theorem Calm.isAgg (t : TypeId) : Calm P (isAgg t) := by
  unfold Go.isAgg
  refine Calm.bind (Calm.underlying t) fun p => ?_
  split <;> exact Calm.pure _
theorem Calm.part (t : TypeId) (cs : Array Value) (off : Nat) : Calm P (part t cs off) := by
  unfold Go.part
  refine Calm.bind (Calm.isAgg t) fun b => ?_
  split
  · exact Calm.bind (Calm.sizeOf t) fun _ => Calm.pure _
  · split
    · exact Calm.pure _
    · exact Calm.stuck _
theorem Calm.asIntOf (v : Value) : Calm P (asIntOf v) := by
  unfold Go.asIntOf
  split
  · exact Calm.pure _
  · exact Calm.unsupported _
  · exact Calm.stuck _
theorem Calm.asBool (v : Value) : Calm P (asBool v) := by
  unfold Go.asBool
  split
  · exact Calm.pure _
  · exact Calm.stuck _
theorem Calm.asAgg (v : Value) : Calm P (asAgg v) := by
  unfold Go.asAgg
  split
  · exact Calm.pure _
  · exact Calm.stuck _
theorem Never.goPanic (v : Value) : Never P (goPanic v : Sem α) := Never.halt _
theorem Never.runtimePanic (e : RuntimeError) : Never P (runtimePanic e : Sem α) := by
  unfold Go.runtimePanic
  refine Never.bind2 fun p => ?_
  cases e <;> dsimp only <;> first
    | exact Never.goPanic _
    | (refine Never.bind2 fun _ => ?_; first | exact Never.goPanic _ | (refine Never.bind2 fun _ => ?_; exact Never.goPanic _))
theorem Never.boundsPanic (k : IntKind) (x y : Int) (c : BoundsCode) : Never P (boundsPanic k x y c : Sem α) := by
  unfold Go.boundsPanic
  dsimp only
  split
  · exact Never.bind2 fun _ => Never.runtimePanic _
  · exact Never.bind2 fun _ => Never.runtimePanic _
theorem Calm.runtimePanic (e : RuntimeError) : Calm P (runtimePanic e : Sem α) := .inr (Never.runtimePanic _)
theorem Calm.boundsPanic (k : IntKind) (x y : Int) (c : BoundsCode) : Calm P (boundsPanic k x y c : Sem α) := .inr (Never.boundsPanic _ _ _ _)
theorem Calm.asAddr (v : Value) : Calm P (asAddr v) := by
  unfold Go.asAddr
  repeat' (with_reducible first
    | exact Calm.pure _ | exact Calm.stuck _ | exact Calm.unsupported _ | exact Calm.runtimePanic _ | exact Calm.boundsPanic _ _ _ _ | exact Calm.program
    | exact Calm.underlying _ | exact Calm.sizeOf _ | exact Calm.zeroValue _ | exact Calm.typeInfo _ | exact Calm.isAgg _ | exact Calm.part _ _ _ | exact Calm.asIntOf _ | exact Calm.asBool _ | exact Calm.asAgg _ 
    | refine Calm.bind ?_ (fun _ => ?_) | refine Calm.ite (fun _ => ?_) (fun _ => ?_) | split | dsimp only)
theorem Calm.sureAddr (v : Value) : Calm P (Instr.sureAddr v) := by
  unfold Go.Instr.sureAddr
  repeat' (with_reducible first
    | exact Calm.pure _ | exact Calm.stuck _ | exact Calm.unsupported _ | exact Calm.runtimePanic _ | exact Calm.boundsPanic _ _ _ _ | exact Calm.program
    | exact Calm.underlying _ | exact Calm.sizeOf _ | exact Calm.zeroValue _ | exact Calm.typeInfo _ | exact Calm.isAgg _ | exact Calm.part _ _ _ | exact Calm.asIntOf _ | exact Calm.asBool _ | exact Calm.asAgg _ 
    | refine Calm.bind ?_ (fun _ => ?_) | refine Calm.ite (fun _ => ?_) (fun _ => ?_) | split | dsimp only)
theorem Calm.sliceBound (x : Value) (y : Nat) (c : BoundsCode) : Calm P (Instr.sliceBound x y c) := by
  unfold Instr.sliceBound
  repeat' (with_reducible first
    | exact Calm.pure _ | exact Calm.stuck _ | exact Calm.unsupported _ | exact Calm.runtimePanic _ | exact Calm.boundsPanic _ _ _ _ | exact Calm.program
    | exact Calm.underlying _ | exact Calm.sizeOf _ | exact Calm.zeroValue _ | exact Calm.typeInfo _ | exact Calm.isAgg _ | exact Calm.part _ _ _ | exact Calm.asIntOf _ | exact Calm.asBool _ | exact Calm.asAgg _ 
    | refine Calm.bind ?_ (fun _ => ?_) | refine Calm.ite (fun _ => ?_) (fun _ => ?_) | split | dsimp only)
theorem Calm.sliceBounds (b : Bool) (n c : Nat) (l h m : Option Value) : Calm P (Instr.sliceBounds b n c l h m) := by
  unfold Instr.sliceBounds
  repeat' (with_reducible first
    | exact Calm.pure _ | exact Calm.stuck _ | exact Calm.unsupported _ | exact Calm.runtimePanic _ | exact Calm.boundsPanic _ _ _ _ | exact Calm.program
    | exact Calm.underlying _ | exact Calm.sizeOf _ | exact Calm.zeroValue _ | exact Calm.typeInfo _ | exact Calm.isAgg _ | exact Calm.part _ _ _ | exact Calm.asIntOf _ | exact Calm.asBool _ | exact Calm.asAgg _ | exact Calm.sliceBound _ _ _
    | refine Calm.bind ?_ (fun _ => ?_) | refine Calm.ite (fun _ => ?_) (fun _ => ?_) | split | dsimp only)
theorem Calm.slice (t : TypeId) (x : Value) (l h m : Option Value) : Calm P (Instr.slice t x l h m) := by
  unfold Instr.slice
  repeat' (with_reducible first
    | exact Calm.pure _ | exact Calm.stuck _ | exact Calm.unsupported _ | exact Calm.runtimePanic _ | exact Calm.boundsPanic _ _ _ _ | exact Calm.program
    | exact Calm.underlying _ | exact Calm.sizeOf _ | exact Calm.zeroValue _ | exact Calm.typeInfo _ | exact Calm.isAgg _ | exact Calm.part _ _ _ | exact Calm.asIntOf _ | exact Calm.asBool _ | exact Calm.asAgg _ | exact Calm.sliceBounds _ _ _ _ _ _ | exact Calm.asAddr _
    | refine Calm.bind ?_ (fun _ => ?_) | refine Calm.ite (fun _ => ?_) (fun _ => ?_) | split | dsimp only)
theorem Calm.sliceAt (t : TypeId) (x : Value) (l h m : Option Value) : Calm P (Instr.sliceAt t x l h m) := by
  unfold Instr.sliceAt
  repeat' (with_reducible first
    | exact Calm.pure _ | exact Calm.stuck _ | exact Calm.unsupported _ | exact Calm.runtimePanic _ | exact Calm.boundsPanic _ _ _ _ | exact Calm.program
    | exact Calm.underlying _ | exact Calm.sizeOf _ | exact Calm.zeroValue _ | exact Calm.typeInfo _ | exact Calm.isAgg _ | exact Calm.part _ _ _ | exact Calm.asIntOf _ | exact Calm.asBool _ | exact Calm.asAgg _ | exact Calm.slice _ _ _ _ _ | exact Calm.sliceBounds _ _ _ _ _ _ | exact Calm.sureAddr _
    | refine Calm.bind ?_ (fun _ => ?_) | refine Calm.ite (fun _ => ?_) (fun _ => ?_) | split | dsimp only)
theorem Calm.index (t : TypeId) (x ix : Value) : Calm P (Instr.index t x ix) := by
  unfold Instr.index
  repeat' (with_reducible first
    | exact Calm.pure _ | exact Calm.stuck _ | exact Calm.unsupported _ | exact Calm.runtimePanic _ | exact Calm.boundsPanic _ _ _ _ | exact Calm.program
    | exact Calm.underlying _ | exact Calm.sizeOf _ | exact Calm.zeroValue _ | exact Calm.typeInfo _ | exact Calm.isAgg _ | exact Calm.part _ _ _ | exact Calm.asIntOf _ | exact Calm.asBool _ | exact Calm.asAgg _ 
    | refine Calm.bind ?_ (fun _ => ?_) | refine Calm.ite (fun _ => ?_) (fun _ => ?_) | split | dsimp only)
theorem Calm.indexAt (t : TypeId) (x ix : Value) : Calm P (Instr.indexAt t x ix) := by
  unfold Instr.indexAt
  repeat' (with_reducible first
    | exact Calm.pure _ | exact Calm.stuck _ | exact Calm.unsupported _ | exact Calm.runtimePanic _ | exact Calm.boundsPanic _ _ _ _ | exact Calm.program
    | exact Calm.underlying _ | exact Calm.sizeOf _ | exact Calm.zeroValue _ | exact Calm.typeInfo _ | exact Calm.isAgg _ | exact Calm.part _ _ _ | exact Calm.asIntOf _ | exact Calm.asBool _ | exact Calm.asAgg _ | exact Calm.sureAddr _
    | refine Calm.bind ?_ (fun _ => ?_) | refine Calm.ite (fun _ => ?_) (fun _ => ?_) | split | dsimp only)
theorem Calm.field (t : TypeId) (x : Value) (f : Nat) : Calm P (Instr.field t x f) := by
  unfold Instr.field
  repeat' (with_reducible first
    | exact Calm.pure _ | exact Calm.stuck _ | exact Calm.unsupported _ | exact Calm.runtimePanic _ | exact Calm.boundsPanic _ _ _ _ | exact Calm.program
    | exact Calm.underlying _ | exact Calm.sizeOf _ | exact Calm.zeroValue _ | exact Calm.typeInfo _ | exact Calm.isAgg _ | exact Calm.part _ _ _ | exact Calm.asIntOf _ | exact Calm.asBool _ | exact Calm.asAgg _ 
    | refine Calm.bind ?_ (fun _ => ?_) | refine Calm.ite (fun _ => ?_) (fun _ => ?_) | split | dsimp only)
theorem Calm.extract (t : Value) (i : Nat) : Calm P (Instr.extract t i) := by
  unfold Instr.extract
  repeat' (with_reducible first
    | exact Calm.pure _ | exact Calm.stuck _ | exact Calm.unsupported _ | exact Calm.runtimePanic _ | exact Calm.boundsPanic _ _ _ _ | exact Calm.program
    | exact Calm.underlying _ | exact Calm.sizeOf _ | exact Calm.zeroValue _ | exact Calm.typeInfo _ | exact Calm.isAgg _ | exact Calm.part _ _ _ | exact Calm.asIntOf _ | exact Calm.asBool _ | exact Calm.asAgg _ 
    | refine Calm.bind ?_ (fun _ => ?_) | refine Calm.ite (fun _ => ?_) (fun _ => ?_) | split | dsimp only)
theorem Calm.makeInterface (t : TypeId) (x : Value) : Calm P (Instr.makeInterface t x) := by
  unfold Instr.makeInterface
  repeat' (with_reducible first
    | exact Calm.pure _ | exact Calm.stuck _ | exact Calm.unsupported _ | exact Calm.runtimePanic _ | exact Calm.boundsPanic _ _ _ _ | exact Calm.program
    | exact Calm.underlying _ | exact Calm.sizeOf _ | exact Calm.zeroValue _ | exact Calm.typeInfo _ | exact Calm.isAgg _ | exact Calm.part _ _ _ | exact Calm.asIntOf _ | exact Calm.asBool _ | exact Calm.asAgg _ 
    | refine Calm.bind ?_ (fun _ => ?_) | refine Calm.ite (fun _ => ?_) (fun _ => ?_) | split | dsimp only)
theorem Calm.typeAssert (x : Value) (t u : TypeId) (b : Bool) : Calm P (Instr.typeAssert x t u b) := by
  unfold Instr.typeAssert
  repeat' (with_reducible first
    | exact Calm.pure _ | exact Calm.stuck _ | exact Calm.unsupported _ | exact Calm.runtimePanic _ | exact Calm.boundsPanic _ _ _ _ | exact Calm.program
    | exact Calm.underlying _ | exact Calm.sizeOf _ | exact Calm.zeroValue _ | exact Calm.typeInfo _ | exact Calm.isAgg _ | exact Calm.part _ _ _ | exact Calm.asIntOf _ | exact Calm.asBool _ | exact Calm.asAgg _ 
    | refine Calm.bind ?_ (fun _ => ?_) | refine Calm.ite (fun _ => ?_) (fun _ => ?_) | split | dsimp only)
theorem Calm.shift (op : BinOp) (k : IntKind) (x : Int) (yk : IntKind) (y : Int) : Calm P (Op.shift op k x yk y) := by
  unfold Op.shift
  repeat' (with_reducible first
    | exact Calm.pure _ | exact Calm.stuck _ | exact Calm.unsupported _ | exact Calm.runtimePanic _ | exact Calm.boundsPanic _ _ _ _ | exact Calm.program
    | exact Calm.underlying _ | exact Calm.sizeOf _ | exact Calm.zeroValue _ | exact Calm.typeInfo _ | exact Calm.isAgg _ | exact Calm.part _ _ _ | exact Calm.asIntOf _ | exact Calm.asBool _ | exact Calm.asAgg _ 
    | refine Calm.bind ?_ (fun _ => ?_) | refine Calm.ite (fun _ => ?_) (fun _ => ?_) | split | dsimp only)
theorem Calm.intArith (op : BinOp) (k : IntKind) (x y : Int) : Calm P (Op.intArith op k x y) := by
  unfold Op.intArith
  repeat' (with_reducible first
    | exact Calm.pure _ | exact Calm.stuck _ | exact Calm.unsupported _ | exact Calm.runtimePanic _ | exact Calm.boundsPanic _ _ _ _ | exact Calm.program
    | exact Calm.underlying _ | exact Calm.sizeOf _ | exact Calm.zeroValue _ | exact Calm.typeInfo _ | exact Calm.isAgg _ | exact Calm.part _ _ _ | exact Calm.asIntOf _ | exact Calm.asBool _ | exact Calm.asAgg _ 
    | refine Calm.bind ?_ (fun _ => ?_) | refine Calm.ite (fun _ => ?_) (fun _ => ?_) | split | dsimp only)
theorem Calm.intDiv (op : BinOp) (k : IntKind) (x y : Int) : Calm P (Op.intDiv op k x y) := by
  unfold Op.intDiv
  repeat' (with_reducible first
    | exact Calm.pure _ | exact Calm.stuck _ | exact Calm.unsupported _ | exact Calm.runtimePanic _ | exact Calm.boundsPanic _ _ _ _ | exact Calm.program
    | exact Calm.underlying _ | exact Calm.sizeOf _ | exact Calm.zeroValue _ | exact Calm.typeInfo _ | exact Calm.isAgg _ | exact Calm.part _ _ _ | exact Calm.asIntOf _ | exact Calm.asBool _ | exact Calm.asAgg _ 
    | refine Calm.bind ?_ (fun _ => ?_) | refine Calm.ite (fun _ => ?_) (fun _ => ?_) | split | dsimp only)
theorem Calm.intBits (op : BinOp) (k : IntKind) (x y : Int) : Calm P (Op.intBits op k x y) := by
  unfold Op.intBits
  repeat' (with_reducible first
    | exact Calm.pure _ | exact Calm.stuck _ | exact Calm.unsupported _ | exact Calm.runtimePanic _ | exact Calm.boundsPanic _ _ _ _ | exact Calm.program
    | exact Calm.underlying _ | exact Calm.sizeOf _ | exact Calm.zeroValue _ | exact Calm.typeInfo _ | exact Calm.isAgg _ | exact Calm.part _ _ _ | exact Calm.asIntOf _ | exact Calm.asBool _ | exact Calm.asAgg _ 
    | refine Calm.bind ?_ (fun _ => ?_) | refine Calm.ite (fun _ => ?_) (fun _ => ?_) | split | dsimp only)
theorem Calm.intCmp (op : BinOp) (x y : Int) : Calm P (Op.intCmp op x y) := by
  unfold Op.intCmp
  repeat' (with_reducible first
    | exact Calm.pure _ | exact Calm.stuck _ | exact Calm.unsupported _ | exact Calm.runtimePanic _ | exact Calm.boundsPanic _ _ _ _ | exact Calm.program
    | exact Calm.underlying _ | exact Calm.sizeOf _ | exact Calm.zeroValue _ | exact Calm.typeInfo _ | exact Calm.isAgg _ | exact Calm.part _ _ _ | exact Calm.asIntOf _ | exact Calm.asBool _ | exact Calm.asAgg _ 
    | refine Calm.bind ?_ (fun _ => ?_) | refine Calm.ite (fun _ => ?_) (fun _ => ?_) | split | dsimp only)
theorem Calm.stringOp (op : BinOp) (x y : ByteArray) : Calm P (Op.stringOp op x y) := by
  unfold Op.stringOp
  repeat' (with_reducible first
    | exact Calm.pure _ | exact Calm.stuck _ | exact Calm.unsupported _ | exact Calm.runtimePanic _ | exact Calm.boundsPanic _ _ _ _ | exact Calm.program
    | exact Calm.underlying _ | exact Calm.sizeOf _ | exact Calm.zeroValue _ | exact Calm.typeInfo _ | exact Calm.isAgg _ | exact Calm.part _ _ _ | exact Calm.asIntOf _ | exact Calm.asBool _ | exact Calm.asAgg _ 
    | refine Calm.bind ?_ (fun _ => ?_) | refine Calm.ite (fun _ => ?_) (fun _ => ?_) | split | dsimp only)
theorem Calm.unary (op : UnOp) (x : Value) : Calm P (Op.unary op x) := by
  unfold Op.unary
  repeat' (with_reducible first
    | exact Calm.pure _ | exact Calm.stuck _ | exact Calm.unsupported _ | exact Calm.runtimePanic _ | exact Calm.boundsPanic _ _ _ _ | exact Calm.program
    | exact Calm.underlying _ | exact Calm.sizeOf _ | exact Calm.zeroValue _ | exact Calm.typeInfo _ | exact Calm.isAgg _ | exact Calm.part _ _ _ | exact Calm.asIntOf _ | exact Calm.asBool _ | exact Calm.asAgg _ | exact Calm.intArith _ _ _ _ | exact Calm.intBits _ _ _ _
    | refine Calm.bind ?_ (fun _ => ?_) | refine Calm.ite (fun _ => ?_) (fun _ => ?_) | split | dsimp only)

/-- pairs of values whose comparison looks at no memory -/
def calmPair : Value → Value → Bool
  | .int _ _, .int _ _ => true
  | .string _, .string _ => true
  | .bool _, .bool _ => true
  | .nilIface, .nilIface => true
  | .nilIface, .iface _ _ => true
  | .iface _ _, .nilIface => true
  | .pointer none, .pointer none => true
  | .pointer none, .pointer (some _) => true
  | .pointer (some _), .pointer none => true
  | .slice none _ _, .slice none _ _ => true
  | .slice none _ _, .slice (some _) _ _ => true
  | .slice (some _) _ _, .slice none _ _ => true
  | .map none, .map none => true
  | .map none, .map (some _) => true
  | .map (some _), .map none => true
  | _, _ => false

theorem Calm.underlyingBind {β : Type} (t : TypeId) (f : TypeDesc → Sem β) (h : ∀ u, Calm P (f u)) : Calm P (do f (← Go.underlying t)) := Calm.bind (Calm.underlying t) h

theorem Calm.samePointer (a b : Option Addr) (h : a = none ∨ b = none) : Calm P (samePointer a b) := by
  cases a <;> cases b <;> unfold Go.samePointer <;> first | exact Calm.pure _ | (simp at h)
theorem Calm.equalIn (d : Nat) (t : TypeId) (x y : Value) (h : calmPair x y = true) : Calm P (Op.equalIn (d + 1) t x y) := by
  unfold Op.equalIn
  refine Calm.bind (Calm.underlying t) fun u => ?_
  unfold calmPair at h
  split at h <;> first | exact (Bool.false_ne_true h).elim | (clear h; cases u <;> dsimp only <;> (with_reducible first
    | exact Calm.pure _ | exact Calm.stuck _ | exact Calm.unsupported _ | exact Calm.ite (fun _ => Calm.pure _) (fun _ => Calm.stuck _)
    | exact Calm.samePointer _ _ (.inl rfl) | exact Calm.samePointer _ _ (.inr rfl)))
theorem Calm.equal (t : TypeId) (x y : Value) (h : calmPair x y = true) : Calm P (Op.equal t x y) := by
  unfold Op.equal Op.maxDepth
  exact Calm.equalIn 9999 t x y h
theorem Calm.eqGuardIn (t : TypeId) : Calm P (Op.eqGuardIn Op.maxDepth t .nilIface .nilIface) := by
  unfold Op.maxDepth
  show Calm P (Op.eqGuardIn (9999 + 1) t .nilIface .nilIface)
  unfold Op.eqGuardIn
  refine Calm.bind (Calm.underlying t) fun u => ?_
  cases u <;> dsimp only <;> exact Calm.pure _
theorem Calm.eqGuard (op : BinOp) (t : TypeId) (x y : Operand) (a b : Value) (h : calmPair a b = true) : Calm P (eqGuard op t x y a b) := by
  unfold Go.eqGuard
  unfold calmPair at h
  split at h <;> first | exact (Bool.false_ne_true h).elim | (dsimp only; repeat' (with_reducible first
    | exact Calm.pure _ | exact Calm.stuck _ | exact Calm.unsupported _ | exact Calm.runtimePanic _ | exact Calm.boundsPanic _ _ _ _ | exact Calm.program
    | exact Calm.underlying _ | exact Calm.sizeOf _ | exact Calm.zeroValue _ | exact Calm.typeInfo _ | exact Calm.isAgg _ | exact Calm.part _ _ _ | exact Calm.asIntOf _ | exact Calm.asBool _ | exact Calm.asAgg _ | exact Calm.eqGuardIn _
    | refine Calm.bind ?_ (fun _ => ?_) | refine Calm.ite (fun _ => ?_) (fun _ => ?_) | split | dsimp only))
theorem Calm.binOp (op : BinOp) (t : TypeId) (x y : Value) (h : calmPair x y = true) : Calm P (binOp op t x y) := by
  unfold calmPair at h
  split at h <;> first | exact (Bool.false_ne_true h).elim | skip
  all_goals cases op
  all_goals unfold Go.binOp
  all_goals dsimp only
  all_goals (with_reducible first
    | exact Calm.shift _ _ _ _ _ | exact Calm.stringOp _ _ _ | exact Calm.unsupported _ | exact Calm.stuck _
    | exact Calm.bind (Calm.equal _ _ _ rfl) (fun _ => Calm.pure _)
    | refine Calm.ite (fun _ => Calm.stuck _) (fun _ => ?_)
    | skip)
  all_goals with_reducible first | exact Calm.intArith _ _ _ _ | exact Calm.intDiv _ _ _ _ | exact Calm.intBits _ _ _ _ | exact Calm.intCmp _ _ _ | skip
end
end Go.Lx
namespace Go.Lx
section
variable {P : Program}

/-- of a map's length memory is asked -/
def lenReads (P : Program) (ts : Array TypeId) : Bool :=
  match ts[0]? with
  | some t => match P.underlying t with
    | some (.map _ _) => true
    | some (.chan _ _) => true
    | _ => false
  | none => true

/-- 0: looks at its operands alone; 1: reads memory; 2: all else -/
def kind (P : Program) : Op → Nat
  | .move _ | .assign _ | .nilCheck _ | .binOp _ _ _ _ _ | .unOp _ _ _ | .makeInterface _ _ | .slice _ _ _ _ _ | .field _ _ _ | .indexAddr _ _ _ | .index _ _ _ | .extract _ _ | .typeAssert _ _ _ _ | .pick _ _ _ | .build _ _ => 0
  | .fieldAddr s _ f => match P.underlying s with
    | some (.struct fs) => match (fs[f]? : Option Field) with
      | some fl => match P.info? fl.type with
        | some i => if i.size = 0 then 2 else 0
        | none => 2
      | none => 2
    | _ => 2
  | .convert s d _ => match P.underlying s, P.underlying d with
    | some (.int _), some (.int _) => 0
    | some .string, some .string => 0
    | some (.slice _), some .string => 1
    | _, _ => 2
  | .load _ _ => 1
  | .call { callee := .builtin .len, args := args, argTypes := ts } => if args.size = 1 ∧ lenReads P ts = false then 0 else 2
  | .call { callee := .builtin .min, args := args, .. } => if args.size = 2 then 0 else 2
  | .call { callee := .builtin .max, args := args, .. } => if args.size = 2 then 0 else 2
  | _ => 2

def plainArg : Value → Bool
  | .int _ _ => true
  | .string _ => true
  | .slice _ _ _ => true
  | .map none => true
  | _ => false

/-- the operands' values are such that the operation looks at no memory -/
def sane (ρ : Operand → Value) : Op → Bool
  | .binOp _ _ x y _ => calmPair (ρ x) (ρ y)
  | .nilCheck x => match ρ x with | .func (.method _) _ _ => false | _ => true
  | .convert _ _ x => match ρ x with | .int _ _ => true | .string _ => true | .slice _ _ _ => true | _ => false
  | .call { callee := .builtin .len, args := args, .. } => args.all fun x => plainArg (ρ x)
  | .call { callee := .builtin .min, args := args, .. } => args.all fun x => plainArg (ρ x)
  | .call { callee := .builtin .max, args := args, .. } => args.all fun x => plainArg (ρ x)
  | _ => true

def PureOp (P : Program) (ρ : Operand → Value) (o : Oper) : Prop := (∃ v, ∀ w, (execOp ρ o).run P w = .ok (.value v) w) ∨ (∀ w n w', (execOp ρ o).run P w ≠ .ok n w')

theorem pureOp_of_calm {ρ : Operand → Value} {o : Oper} {s : Sem Value} (h : execOp ρ o = (do pure (.value (← s)) : Sem Next)) (hs : Calm P s) : PureOp P ρ o := by
  unfold PureOp
  rw [h]
  rcases hs with ⟨v, hv⟩ | hn
  · exact .inl ⟨v, fun w => by simp [hv]⟩
  · refine .inr fun w n w' h => ?_
    simp only [Sem.run_bind] at h
    cases hr : s.run P w with
    | ok a w1 => exact hn _ _ _ hr
    | halt _ _ => rw [hr] at h; simp at h

theorem calm_fieldAt {s : TypeId} {x : Value} {f : Nat} {fs : Array Field} {fl : Field} {i : TypeInfo} (hs : P.underlying s = some (.struct fs)) (hf : fs[f]? = some fl) (hi : P.info? fl.type = some i) (hz : i.size ≠ 0) : Calm P (Instr.fieldAt s x f) := by
  have hu : ∀ w, (underlying s).run P w = .ok (.struct fs) w := fun w => by simp [underlying, hs]
  have hsz : ∀ w, (sizeOf fl.type).run P w = .ok i.size w := fun w => by simp [sizeOf, typeInfo, hi]
  rcases Calm.sureAddr (P := P) x with ⟨a, ha⟩ | hn
  · refine .inl ⟨.pointer (some (a.add fl.offset)), fun w => ?_⟩
    simp [Instr.fieldAt, hu, hf, ha, fieldPlace, hsz, hz]
  · refine .inr ?_
    unfold Instr.fieldAt
    refine Never.bind2 fun u => ?_
    split
    · split
      · exact Never.bind hn
      · exact Never.halt _
    · exact Never.halt _

theorem calm_convertInt {s d : TypeId} {x : Value} {k k' : IntKind} (hs : P.underlying s = some (.int k)) (hd : P.underlying d = some (.int k')) (h : (match x with | .int _ _ => true | .string _ => true | .slice _ _ _ => true | _ => false) = true) : Calm P (convert s d x) := by
  have hu : ∀ w, (underlying s).run P w = .ok (.int k) w := fun w => by simp [underlying, hs]
  have hu2 : ∀ w, (underlying d).run P w = .ok (.int k') w := fun w => by simp [underlying, hd]
  split at h
  · rename_i q n
    refine .inl ⟨.int k' (k'.wrap n), fun w => ?_⟩
    simp [convert, hu, hu2, Conv.intToInt]
  · refine .inr fun w v w' => ?_
    simp [convert, hu, hu2]
  · refine .inr fun w v w' => ?_
    simp [convert, hu, hu2]
  · cases h

theorem calm_convertStr {s d : TypeId} {x : Value} (hs : P.underlying s = some .string) (hd : P.underlying d = some .string) (h : (match x with | .int _ _ => true | .string _ => true | .slice _ _ _ => true | _ => false) = true) : Calm P (convert s d x) := by
  have hu : ∀ w, (underlying s).run P w = .ok .string w := fun w => by simp [underlying, hs]
  have hu2 : ∀ w, (underlying d).run P w = .ok .string w := fun w => by simp [underlying, hd]
  split at h
  · rename_i q n
    exact .inl ⟨.string (Utf8.encode n), fun w => by simp [convert, hu, hu2, Conv.intToString]⟩
  · rename_i t
    exact .inl ⟨.string t, fun w => by simp [convert, hu, hu2]⟩
  · refine .inr fun w v w' => ?_
    simp [convert, hu, hu2]
  · cases h

theorem pureOp_pure {ρ : Operand → Value} {o : Oper} {v : Value} (h : execOp ρ o = (pure (.value v) : Sem Next)) : PureOp P ρ o :=
  .inl ⟨v, fun w => by rw [h]; rfl⟩

theorem calm_min2 {x y : Value} (hx : plainArg x = true) : Calm P (Builtin.min2 x y) := by
  unfold Builtin.min2
  split <;> first | exact Calm.pure _ | exact Calm.unsupported _ | exact Calm.stuck _ | (exact Calm.bind (Calm.stringOp _ _ _) fun _ => Calm.bind (Calm.asBool _) fun _ => Calm.pure _) | cases hx
theorem calm_max2 {x y : Value} (hx : plainArg x = true) : Calm P (Builtin.max2 x y) := by
  unfold Builtin.max2
  split <;> first | exact Calm.pure _ | exact Calm.unsupported _ | exact Calm.stuck _ | (exact Calm.bind (Calm.stringOp _ _ _) fun _ => Calm.bind (Calm.asBool _) fun _ => Calm.pure _) | cases hx
theorem calm_len {ts : Array TypeId} {t : TypeId} {x : Value} (hx : plainArg x = true) : Calm P (Builtin.len_ ts t #[x]) := by
  unfold Builtin.len_
  cases ts[0]? with
  | none => exact Calm.stuck _
  | some u =>
    refine Calm.bind (Calm.underlying u) fun d => ?_
    split <;> first | exact Calm.pure _ | exact Calm.stuck _ | (rename_i hq; simp at hq; subst hq; cases hx; done) | skip
    refine Calm.bind (Calm.underlying _) fun d => ?_
    split
    · exact Calm.pure _
    · exact Calm.stuck _
theorem Calm.listMapM {α β : Type} {f : α → Sem β} (hf : ∀ a, Calm P (f a)) : ∀ l : List α, Calm P (l.mapM f)
  | [] => by rw [List.mapM_nil]; exact Calm.pure _
  | x :: l => by
    rw [List.mapM_cons]
    exact Calm.bind (hf x) fun _ => Calm.bind (Calm.listMapM hf l) fun _ => Calm.pure _

theorem calm_build (t : TypeId) (ps : Array (Nat × Value)) : Calm P (Instr.build t ps) := by
  unfold Instr.build
  refine Calm.bind (Calm.zeroValue _) fun z => Calm.bind (Calm.underlying _) fun d => ?_
  split
  · rw [Array.mapM_eq_mapM_toList]
    simp only [bind_assoc, map_eq_pure_bind]
    refine Calm.bind (Calm.listMapM (fun f => Calm.bind (Calm.sizeOf _) fun _ => Calm.pure _) _) fun pl => ?_
    simp only [pure_bind]
    split
    · exact Calm.pure _
    · exact Calm.stuck _
  · refine Calm.bind (Calm.sizeOf _) fun _ => ?_
    split
    · exact Calm.pure _
    · exact Calm.stuck _
  · exact Calm.stuck _

theorem arr1 {α : Type} {a : Array α} (h : a.size = 1) : ∃ x, a = #[x] := by
  obtain ⟨l⟩ := a
  match l, h with
  | [x], _ => exact ⟨x, rfl⟩
theorem arr2 {α : Type} {a : Array α} (h : a.size = 2) : ∃ x y, a = #[x, y] := by
  obtain ⟨l⟩ := a
  match l, h with
  | [x, y], _ => exact ⟨x, y, rfl⟩

theorem pureOp {ρ : Operand → Value} (o : Oper) (hk : kind P o.op = 0) (hs : sane ρ o.op = true) : PureOp P ρ o := by
  obtain ⟨dst, op, type, pos, after, guard⟩ := o
  dsimp only at hk hs
  cases op <;> first | (exfalso; revert hk; simp [kind]; done) | skip
  case move x => exact pureOp_pure rfl
  case assign x => exact pureOp_pure rfl
  case nilCheck x =>
    simp only [sane] at hs
    unfold PureOp
    simp only [execOp]
    cases hx : ρ x with
    | pointer a =>
      cases a with
      | none => exact .inr (Never.runtimePanic _)
      | some a => exact .inl ⟨_, fun _ => rfl⟩
    | nilIface => exact .inr (Never.runtimePanic _)
    | nilFunc => exact .inr (Never.runtimePanic _)
    | func fn first captured =>
      rw [hx] at hs
      cases fn <;> first | (exact .inl ⟨_, fun _ => rfl⟩) | (exact (Bool.false_ne_true hs).elim)
    | _ => exact .inl ⟨_, fun _ => rfl⟩
  case binOp op t x y t2 => exact pureOp_of_calm rfl (Calm.bind (Calm.eqGuard _ _ _ _ _ _ hs) fun _ => Calm.binOp _ _ _ _ hs)
  case unOp op t x => exact pureOp_of_calm rfl (Calm.unary _ _)
  case convert s d x =>
    simp only [kind] at hk
    split at hk <;> first | (simp at hk; done) | skip
    · exact pureOp_of_calm rfl (calm_convertInt ‹_› ‹_› hs)
    · exact pureOp_of_calm rfl (calm_convertStr ‹_› ‹_› hs)
  case makeInterface t x => exact pureOp_of_calm rfl (Calm.makeInterface _ _)
  case slice t x l h m => exact pureOp_of_calm rfl (Calm.sliceAt _ _ _ _ _)
  case fieldAddr s x f =>
    simp only [kind] at hk
    split at hk <;> first | (simp at hk; done) | skip
    split at hk <;> first | (simp at hk; done) | skip
    split at hk <;> first | (simp at hk; done) | skip
    split at hk
    · simp at hk
    · exact pureOp_of_calm rfl (calm_fieldAt ‹_› ‹_› ‹_› ‹_›)
  case field t x f => exact pureOp_of_calm rfl (Calm.field _ _ _)
  case indexAddr t x i => exact pureOp_of_calm rfl (Calm.indexAt _ _ _)
  case index t x i => exact pureOp_of_calm rfl (Calm.index _ _ _)
  case typeAssert x t u b => exact pureOp_of_calm rfl (Calm.typeAssert _ _ _ _)
  case extract t i => exact pureOp_of_calm rfl (Calm.extract _ _)
  case pick c x y =>
    unfold PureOp
    have : execOp ρ { dst := dst, op := .pick c x y, type := type, pos := pos, after := after, guard := guard } = (do pure (.value (if ← asBool (ρ c) then ρ x else ρ y)) : Sem Next) := rfl
    rw [this]
    rcases Calm.asBool (P := P) (ρ c) with ⟨b, hb⟩ | hn
    · exact .inl ⟨if b then ρ x else ρ y, fun w => by simp [hb]⟩
    · refine .inr fun w n w' h => ?_
      simp only [Sem.run_bind] at h
      cases hr : (asBool (ρ c)).run P w with
      | ok a w1 => exact hn _ _ _ hr
      | halt _ _ => rw [hr] at h; simp at h
  case build t ps => exact pureOp_of_calm rfl (calm_build _ _)
  case call c =>
    obtain ⟨callee, args, argTypes⟩ := c
    cases callee <;> first | (exfalso; revert hk; simp [kind]; done) | skip
    rename_i b
    cases b <;> first | (exfalso; revert hk; simp [kind]; done) | skip
    all_goals simp only [sane] at hs
    case len =>
      simp only [kind] at hk
      split at hk <;> first | (simp at hk; done) | skip
      obtain ⟨x, rfl⟩ := arr1 (‹_ ∧ _›).1
      refine pureOp_of_calm (s := Builtin.len_ argTypes type #[ρ x]) (by simp [execOp, resolve, invoke, builtin]) (calm_len ?_)
      simpa using hs
    case max =>
      simp only [kind] at hk
      split at hk <;> first | (simp at hk; done) | skip
      obtain ⟨x, y, rfl⟩ := arr2 ‹_›
      refine pureOp_of_calm (s := Builtin.max2 (ρ x) (ρ y)) (by simp [execOp, resolve, invoke, builtin, Builtin.max_]) (calm_max2 ?_)
      simp at hs
      exact hs.1
    case min =>
      simp only [kind] at hk
      split at hk <;> first | (simp at hk; done) | skip
      obtain ⟨x, y, rfl⟩ := arr2 ‹_›
      refine pureOp_of_calm (s := Builtin.min2 (ρ x) (ρ y)) (by simp [execOp, resolve, invoke, builtin, Builtin.min_]) (calm_min2 ?_)
      simp at hs
      exact hs.1
end
end Go.Lx
namespace Go.Lx
section
variable {P : Program}

theorem Steady.pure {α : Type} (v : α) : Steady P (Pure.pure v : Sem α) := fun w u w' h => by simp at h; exact h.2.symm
theorem Steady.halt {α : Type} (x : Halt) : Steady P (Sem.halt x : Sem α) := fun w u w' h => by simp at h
theorem Steady.bind {α β : Type} {x : Sem α} {f : α → Sem β} (hx : Steady P x) (hf : ∀ v, Steady P (f v)) : Steady P (x >>= f) := fun w u w' h => by
  simp only [Sem.run_bind] at h
  cases hr : x.run P w with
  | ok a w1 =>
    rw [hr] at h
    have h1 := hx _ _ _ hr
    subst h1
    exact hf _ _ _ _ h
  | halt _ _ => rw [hr] at h; simp at h
theorem Steady.of_calm {α : Type} {s : Sem α} (h : Calm P s) : Steady P s := fun w u w' hr => by
  rcases h with ⟨v, hv⟩ | hn
  · rw [hv] at hr; simp at hr; exact hr.2.symm
  · exact absurd hr (hn _ _ _)
theorem Steady.load (a : Addr) (m : Mode) : Steady P (load a m) := fun w u w' h => by
  unfold Go.load at h
  simp only [Sem.run] at h
  split at h
  · simp at h; exact h.2.symm
  · split at h
    · simp at h; exact h.2.symm
    · simp at h
theorem Steady.loadCellsFrom (a : Addr) : ∀ (n i : Nat) (acc : Array Value), Steady P (loadCellsFrom a i n acc)
  | 0, _, _ => Steady.pure _
  | n + 1, i, acc => by
    unfold Go.loadCellsFrom
    exact Steady.bind (Steady.load _ _) fun v => Steady.loadCellsFrom a n _ _
theorem Steady.loadVar (t : TypeId) (a : Addr) : Steady P (loadVar t a) := by
  unfold Go.loadVar
  refine Steady.bind (Steady.of_calm (Calm.isAgg t)) fun b => ?_
  split
  · exact Steady.bind (Steady.of_calm (Calm.sizeOf t)) fun n => Steady.bind (Steady.loadCellsFrom _ _ _ _) fun _ => Steady.pure _
  · exact Steady.load _ _
theorem Steady.forIn {α β : Type} (f : α → β → Sem (ForInStep β)) (hf : ∀ a b, Steady P (f a b)) : ∀ (l : List α) (b : β), Steady P (forIn l b f)
  | [], b => by simp only [List.forIn_nil]; exact Steady.pure _
  | x :: l, b => by
    rw [List.forIn_cons]
    refine Steady.bind (hf x b) fun r => ?_
    cases r with
    | done b => exact Steady.pure _
    | yield b => exact Steady.forIn f hf l b
theorem Steady.bytesToString (x : Value) : Steady P (Conv.bytesToString x) := by
  unfold Conv.bytesToString
  split
  · exact Steady.pure _
  · refine Steady.bind (Steady.loadCellsFrom _ _ _ _) fun cs => ?_
    dsimp only
    refine Steady.bind ?_ fun _ => Steady.pure _
    rw [← Array.forIn_toList]
    refine Steady.forIn _ (fun a b => ?_) _ _
    split
    · exact Steady.pure _
    · exact Steady.halt _
  · exact Steady.halt _

theorem Steady.runesToString (x : Value) : Steady P (Conv.runesToString x) := by
  unfold Conv.runesToString
  split
  · exact Steady.pure _
  · refine Steady.bind (Steady.loadCellsFrom _ _ _ _) fun cs => ?_
    dsimp only
    refine Steady.bind ?_ fun _ => Steady.pure _
    rw [← Array.forIn_toList]
    refine Steady.forIn _ (fun a b => ?_) _ _
    split
    · exact Steady.pure _
    · exact Steady.halt _
  · exact Steady.halt _

theorem value_of_v {s : Sem Value} {w w' : World} {n : Next} (h : (do pure (.value (← s)) : Sem Next).run P w = .ok n w') : ∃ v, n = .value v ∧ s.run P w = .ok v w' := by
  simp only [Sem.run_bind] at h
  cases hr : s.run P w with
  | ok a w1 => rw [hr] at h; simp at h; exact ⟨a, h.1.symm, by rw [h.2]⟩
  | halt _ _ => rw [hr] at h; simp at h

theorem readOp {ρ : Operand → Value} (o : Oper) (hk : kind P o.op = 1) (hs : sane ρ o.op = true) {w w' : World} {n : Next} (h : (execOp ρ o).run P w = .ok n w') : w' = w ∧ ∃ v, n = .value v := by
  obtain ⟨dst, op, type, pos, after, guard⟩ := o
  dsimp only at hk hs
  cases op <;> first | (exfalso; revert hk; simp [kind]; done) | skip
  case load t a =>
    obtain ⟨v, rfl, hr⟩ := value_of_v h
    exact ⟨Steady.bind (Steady.of_calm (Calm.sureAddr _)) (fun a => Steady.loadVar t a) _ _ _ hr, v, rfl⟩
  case convert s d x =>
    obtain ⟨v, rfl, hr⟩ := value_of_v h
    refine ⟨?_, v, rfl⟩
    simp only [kind] at hk
    split at hk <;> first | (simp at hk; done) | skip
    rename_i el hsl hst
    revert hr
    have hu : ∀ w, (underlying s).run P w = .ok (.slice el) w := fun w => by simp [underlying, hsl]
    have hu2 : ∀ w, (underlying d).run P w = .ok .string w := fun w => by simp [underlying, hst]
    simp only [sane] at hs
    unfold convert
    simp only [Sem.run_bind, hu, hu2, Result.andThen_ok]
    cases hx : ρ x <;> rw [hx] at hs <;> first | exact (Bool.false_ne_true hs).elim | skip
    · intro hr; simp [Conv.intToString] at hr; exact hr.2.symm
    · intro hr; simp at hr; exact hr.2.symm
    · dsimp only
      intro hr
      refine Steady.bind (Steady.of_calm (Calm.underlying _)) (fun e => ?_) _ _ _ hr
      split
      · exact Steady.bytesToString _
      · exact Steady.runesToString _
      · exact Steady.halt _
  case fieldAddr s x f =>
    exfalso
    simp only [kind] at hk
    repeat' (split at hk)
    all_goals simp at hk
  case call c =>
    exfalso
    obtain ⟨callee, args, argTypes⟩ := c
    cases callee <;> first | (simp [kind] at hk; done) | skip
    rename_i b
    cases b <;> first | (simp [kind] at hk; done) | skip
    all_goals
      simp only [kind] at hk
      split at hk <;> simp at hk

/-- what an operation that goes on leaves of the frame -/
def Form (o : Oper) (a a1 : Act) : Prop := (∃ u, a1 = a.put o.dst u) ∨ (∃ d, a1 = ({ a with defers := d :: a.defers } : Act).put o.dst undef)

theorem wp_form {o : Oper} {a : Act} {w : World} {K : Act → World → Prop} {Q : Exit → Act → World → Prop} (h : o.wp P a w K Q) : o.wp P a w (fun a1 w1 => Form o a a1 ∧ K a1 w1) Q := by
  unfold Oper.wp at *
  generalize (execOp a.eval o).run P w = r at *
  cases r with
  | ok n w' =>
    cases n <;> simp only [Oper.upon] at h ⊢ <;>
      first
        | exact ⟨.inl ⟨_, rfl⟩, h⟩
        | exact ⟨.inr ⟨_, rfl⟩, h⟩
        | exact Calls.mono h (fun e w'' he => by cases e <;> first | exact ⟨.inl ⟨_, rfl⟩, he⟩ | exact he)
        | exact Rows.mono h (fun _ _ he => ⟨.inl ⟨_, rfl⟩, he⟩)
  | halt x w' => cases x <;> simp only [Oper.upon] at h ⊢ <;> exact h

/-- no way out but the end -/
def QF : Exit → Act → World → Prop := fun _ _ _ => False

theorem letsOut_QF : ¬ LetsOut QF := fun ⟨_, _, h⟩ => h

theorem wp_some {o : Oper} {a : Act} {w : World} {K : Act → World → Prop} {Q : Exit → Act → World → Prop} (hQ : ∀ c a w, ¬ Q (.panic c) a w) (hO : ¬ LetsOut Q) (h : o.wp P a w K Q) : ∃ a1 w1, K a1 w1 := by
  unfold Oper.wp at *
  generalize (execOp a.eval o).run P w = r at *
  cases r with
  | ok n w' =>
    cases n <;> simp only [Oper.upon] at h
    case value v => exact ⟨_, _, h⟩
    case skip => exact ⟨_, _, h⟩
    case defer d => exact ⟨_, _, h⟩
    case enter f args =>
      obtain ⟨e, w2, fr, hR, _⟩ := h []
      cases e with
      | returned v => exact ⟨_, _, hR⟩
      | panicked c => exact absurd hR (hQ _ _ _)
      | outgrown => exact absurd hR hO
    case row row args =>
      obtain ⟨v, w2, hR, _⟩ := h default []
      exact ⟨_, _, hR⟩
  | halt x w' => cases x <;> simp only [Oper.upon] at h <;> first | exact absurd h (hQ _ _ _) | exact h.elim

section
variable {ops : Array Oper}

def YieldsR (P : Program) (ops : Array Oper) (w : World) (o : Oper) (v : Value) (a : Act) : Prop :=
  (Region.wanted o (yielded ops a.tmps) = true ∧ (execOp a.eval o).run P w = .ok (.value v) w) ∨
  (Region.wanted o (yielded ops a.tmps) = false ∧ v = undef)

theorem YieldsR.of_same {w : World} {o : Oper} {v : Value} {a a' : Act} (hy : YieldsR P ops w o v a) (he : execOp a'.eval o = execOp a.eval o)
    (hw : Region.wanted o (yielded ops a'.tmps) = Region.wanted o (yielded ops a.tmps)) : YieldsR P ops w o v a' := by
  unfold YieldsR at *
  rw [he, hw]
  exact hy

/-- one operation, by its kind -/
def step (P : Program) (ops : Array Oper) (i : Nat) (K : Act → World → Prop) (a : Act) (w : World) : Prop :=
  match ops[i]? with
  | none => K a w
  | some o =>
    if kind P o.op = 0 then ∃ v, Yields P ops o v a ∧ K (a.put o.dst v) w
    else if kind P o.op = 1 then ∃ v, YieldsR P ops w o v a ∧ K (a.put o.dst v) w
    else if Region.wanted o (yielded ops a.tmps) then o.wp P a w K QF else K (a.put o.dst undef) w

theorem step_mono {i : Nat} {K K' : Act → World → Prop} {a : Act} {w : World} (h : ∀ a w, K a w → K' a w) (hh : step P ops i K a w) : step P ops i K' a w := by
  unfold step at *
  cases ho : ops[i]? with
  | none => simp only [ho] at hh ⊢; exact h _ _ hh
  | some o =>
    simp only [ho] at hh ⊢
    by_cases k0 : kind P o.op = 0
    · rw [if_pos k0] at hh ⊢
      obtain ⟨v, hy, hk⟩ := hh; exact ⟨v, hy, h _ _ hk⟩
    · rw [if_neg k0] at hh ⊢
      by_cases k1 : kind P o.op = 1
      · rw [if_pos k1] at hh ⊢
        obtain ⟨v, hy, hk⟩ := hh; exact ⟨v, hy, h _ _ hk⟩
      · rw [if_neg k1] at hh ⊢
        by_cases hw : Region.wanted o (yielded ops a.tmps) = true
        · rw [if_pos hw] at hh ⊢; exact Oper.wp_mono h hh
        · rw [if_neg hw] at hh ⊢; exact h _ _ hh

theorem wpOp_of_step {i : Nat} {K : Act → World → Prop} {Q : Exit → Act → World → Prop} {a : Act} {w : World} (hh : step P ops i K a w) : wpOp P ops Q i K a w := by
  unfold step at hh
  unfold wpOp
  split at hh
  · rename_i ho; simp only [ho]; exact hh
  · rename_i o ho
    simp only [ho]
    split at hh
    · obtain ⟨v, hy, hk⟩ := hh
      have := hy.wpOp (Q := Q) ho hk
      unfold wpOp at this
      simpa only [ho] using this
    · split at hh
      · obtain ⟨v, hy, hk⟩ := hh
        rcases hy with ⟨hw, hv⟩ | ⟨hw, rfl⟩
        · simp only [hw, if_true, Oper.wp, hv, Oper.upon]; exact .inl hk
        · simp only [hw, Bool.false_eq_true, if_false]; exact hk
      · split at hh
        · rename_i hw
          simp only [hw, if_true]
          refine .inl ?_
          unfold Oper.wp at *
          generalize (execOp a.eval o).run P w = r at *
          cases r with
          | ok n w' =>
            cases n <;> simp only [Oper.upon] at hh ⊢ <;>
              first
                | exact hh
                | exact Calls.mono hh (fun e w'' he => by cases e <;> first | exact he | exact (he : False).elim | exact (letsOut_QF he).elim)
          | halt x w' => cases x <;> simp only [Oper.upon] at hh ⊢ <;> first | exact hh | exact (hh : False).elim
        · rename_i hw
          simp only [hw, if_false, Bool.false_eq_true]; exact hh

theorem yields_unique {o : Oper} {v u : Value} {a : Act} (w : World) (h : Yields P ops o v a) (k : Yields P ops o u a) : v = u := by
  rcases h with ⟨h1, h2⟩ | ⟨h1, h2⟩ <;> rcases k with ⟨k1, k2⟩ | ⟨k1, k2⟩
  · have := (h2 w).symm.trans (k2 w); simp at this; exact this
  · rw [h1] at k1; cases k1
  · rw [h1] at k1; cases k1
  · rw [h2, k2]

def noSel (o : Oper) : Prop := ∀ cs b, o.op ≠ .select cs b

theorem yields_put {o x : Oper} {v u : Value} {a : Act} (hs : noSel o) (h : ∀ d, x.dst = some d → d ∉ o.looksAt ops) : Yields P ops o v (a.put x.dst u) ↔ Yields P ops o v a := by
  have e1 := execOp_put (ops := ops) o hs a x.dst u h
  have e2 := wanted_put (ops := ops) o a x.dst u h
  constructor
  · exact fun hy => hy.of_same e1.symm e2.symm
  · exact fun hy => hy.of_same e1 e2
theorem yieldsR_put {w : World} {o x : Oper} {v u : Value} {a : Act} (hs : noSel o) (h : ∀ d, x.dst = some d → d ∉ o.looksAt ops) : YieldsR P ops w o v (a.put x.dst u) ↔ YieldsR P ops w o v a := by
  have e1 := execOp_put (ops := ops) o hs a x.dst u h
  have e2 := wanted_put (ops := ops) o a x.dst u h
  constructor
  · exact fun hy => hy.of_same e1.symm e2.symm
  · exact fun hy => hy.of_same e1 e2
theorem yields_form {o x : Oper} {v : Value} {a a1 : Act} (hs : noSel o) (h : ∀ d, x.dst = some d → d ∉ o.looksAt ops) (hf : Form x a a1) : Yields P ops o v a1 ↔ Yields P ops o v a := by
  rcases hf with ⟨u, rfl⟩ | ⟨d, rfl⟩
  · exact yields_put hs h
  · rw [yields_put hs h]
    constructor
    · exact fun hy => hy.of_same rfl rfl
    · exact fun hy => hy.of_same rfl rfl
theorem form_put {x : Oper} {a a1 : Act} {d : Option Tmp} {v : Value} (h : ∀ t, d = some t → x.dst ≠ some t) (hf : Form x a a1) : Form x (a.put d v) (a1.put d v) := by
  rcases hf with ⟨u, rfl⟩ | ⟨df, rfl⟩
  · exact .inl ⟨u, (Act.put_comm a v u h).symm⟩
  · refine .inr ⟨df, ?_⟩
    rw [Act.put_defers, Act.put_comm _ v undef h]

/-- an operation that does not look at the slot d is the same behind a put there -/
theorem wp_put {o : Oper} {a : Act} {w : World} {d : Option Tmp} {v : Value} {K : Act → World → Prop} (hs : noSel o) (h1 : ∀ t, d = some t → t ∉ o.looksAt ops) (h2 : ∀ t, d = some t → o.dst ≠ some t) :
    o.wp P (a.put d v) w K QF ↔ o.wp P a w (fun a1 w1 => K (a1.put d v) w1) QF := by
  unfold Oper.wp
  rw [execOp_put (ops := ops) o hs a d v h1]
  generalize (execOp a.eval o).run P w = r
  cases r with
  | ok n w' =>
    cases n <;> simp only [Oper.upon]
    case value u => rw [Act.put_comm a v u h2]
    case skip => rw [Act.put_comm a v undef h2]
    case defer df => rw [Act.put_defers, Act.put_comm _ v undef h2]
    case enter f args =>
      constructor
      · refine fun h => Calls.mono h (fun e w'' he => ?_)
        cases e with
        | returned u => dsimp only at he ⊢; rw [← Act.put_comm a v u h2]; exact he
        | _ => exact he
      · refine fun h => Calls.mono h (fun e w'' he => ?_)
        cases e with
        | returned u => dsimp only at he ⊢; rw [Act.put_comm a v u h2]; exact he
        | _ => exact he
    case row row args =>
      constructor
      · exact fun h => Rows.mono h (fun u _ he => by rw [← Act.put_comm a v u h2]; exact he)
      · exact fun h => Rows.mono h (fun u _ he => by rw [Act.put_comm a v u h2]; exact he)
  | halt x w' => cases x <;> simp only [Oper.upon] <;> exact Iff.rfl

/-- which two operations may be exchanged -/
def comm (P : Program) (ops : Array Oper) (x y : Oper) : Bool :=
  x.apart ops y && (kind P x.op == 0 || kind P y.op == 0 || (kind P x.op == 1 && kind P y.op == 1))

theorem apart_symm {x y : Oper} (h : x.apart ops y = true) : y.apart ops x = true := by
  obtain ⟨h1, h2, h3⟩ := Oper.apart_spec h
  unfold Oper.apart
  cases hy : y.dst <;> cases hx : x.dst <;> simp
  · exact h1 _ hx
  · exact h3 _ hy
  · exact ⟨⟨h3 _ hy, fun he => h2 _ hx (by rw [hy, he])⟩, h1 _ hx⟩

theorem swap {i j : Nat} {x y : Oper} (hi : ops[i]? = some x) (hj : ops[j]? = some y) (hsx : noSel x) (hsy : noSel y) (hc : comm P ops x y = true) {K : Act → World → Prop} {a : Act} {w : World}
    (h : step P ops i (step P ops j K) a w) : step P ops j (step P ops i K) a w := by
  simp only [comm, Bool.and_eq_true, Bool.or_eq_true, beq_iff_eq] at hc
  obtain ⟨hap, hkinds⟩ := hc
  obtain ⟨h1, h2, h3⟩ := Oper.apart_spec hap
  obtain ⟨g1, g2, g3⟩ := Oper.apart_spec (apart_symm hap)
  have pc : ∀ (a : Act) (u v : Value), (a.put x.dst u).put y.dst v = (a.put y.dst v).put x.dst u := fun a u v => Act.put_comm a u v h2
  unfold step at h ⊢
  simp only [hi, hj] at h ⊢
  by_cases kx : kind P x.op = 0
  · simp only [kx, if_true] at h ⊢
    obtain ⟨v, hy, h⟩ := h
    by_cases ky : kind P y.op = 0
    · simp only [ky, if_true] at h ⊢
      obtain ⟨u, hu, hk⟩ := h
      exact ⟨u, (yields_put hsy h1).1 hu, v, (yields_put hsx h3).2 hy, by rw [← pc]; exact hk⟩
    · simp only [ky, if_false] at h ⊢
      by_cases ky1 : kind P y.op = 1
      · simp only [ky1, if_true] at h ⊢
        obtain ⟨u, hu, hk⟩ := h
        exact ⟨u, (yieldsR_put hsy h1).1 hu, v, (yields_put hsx h3).2 hy, by rw [← pc]; exact hk⟩
      · simp only [ky1, if_false] at h ⊢
        rw [wanted_put y a x.dst v h1] at h
        split
        · rename_i hw
          simp only [hw, if_true] at h
          rw [wp_put hsy h1 h2] at h
          refine Oper.wp_mono (fun a1 w1 hk => ?_) (wp_form h)
          exact ⟨v, (yields_form hsx h3 hk.1).2 hy, hk.2⟩
        · rename_i hw
          simp only [hw, if_false, Bool.false_eq_true] at h
          exact ⟨v, (yields_put hsx h3).2 hy, by rw [← pc]; exact h⟩
  · simp only [kx, if_false] at h ⊢
    by_cases kx1 : kind P x.op = 1
    · simp only [kx1, if_true] at h ⊢
      obtain ⟨v, hy, h⟩ := h
      by_cases ky : kind P y.op = 0
      · simp only [ky, if_true] at h ⊢
        obtain ⟨u, hu, hk⟩ := h
        exact ⟨u, (yields_put hsy h1).1 hu, v, (yieldsR_put hsx h3).2 hy, by rw [← pc]; exact hk⟩
      · have ky1 : kind P y.op = 1 := by
          rcases hkinds with (hk | hk) | hk
          · exact absurd hk kx
          · exact absurd hk ky
          · exact hk.2
        simp only [ky, if_false, ky1, if_true] at h ⊢
        obtain ⟨u, hu, hk⟩ := h
        exact ⟨u, (yieldsR_put hsy h1).1 hu, v, (yieldsR_put hsx h3).2 hy, by rw [← pc]; exact hk⟩
    · have ky : kind P y.op = 0 := by
        rcases hkinds with (hk | hk) | hk
        · exact absurd hk kx
        · exact hk
        · exact absurd hk.1 kx1
      simp only [kx1, if_false, ky, if_true] at h ⊢
      split at h
      · rename_i hw
        obtain ⟨a1, w1, hf, v, hv, _⟩ := wp_some (fun _ _ _ h => h) letsOut_QF (wp_form h)
        have hv0 := (yields_form hsy h1 hf).1 hv
        refine ⟨v, hv0, ?_⟩
        rw [wanted_put x a y.dst v h3, if_pos hw, wp_put hsx h3 g2]
        refine Oper.wp_mono (fun a2 w2 hk => ?_) (wp_form h)
        obtain ⟨hf2, u, hu, hk⟩ := hk
        have := yields_unique w2 ((yields_form hsy h1 hf2).1 hu) hv0
        subst this
        exact hk
      · rename_i hw
        obtain ⟨v, hv, hk⟩ := h
        refine ⟨v, (yields_put hsy h1).1 hv, ?_⟩
        rw [wanted_put x a y.dst v h3, if_neg hw, ← pc]
        exact hk
end
end
end Go.Lx
namespace Go.Lx
section
variable {P : Program} {ops : Array Oper}

def T (P : Program) (ops : Array Oper) (Q : Exit → Act → World → Prop) : List Nat → Act → World → Prop
  | [] => fun a w => Q .normal a w
  | i :: l => step P ops i (T P ops Q l)

theorem pull {Q : Exit → Act → World → Prop} (hsel : ∀ (j : Nat) (o : Oper), ops[j]? = some o → noSel o) {i : Nat} {oi : Oper} (hi : ops[i]? = some oi) (post : List Nat) :
    ∀ (pre : List Nat), (∀ x ∈ pre, ∃ ox, ops[x]? = some ox ∧ comm P ops ox oi = true) → ∀ (a : Act) (w : World), T P ops Q (pre ++ i :: post) a w → step P ops i (T P ops Q (pre ++ post)) a w
  | [], _, a, w, h => h
  | x :: pre, hc, a, w, h => by
    obtain ⟨ox, hx, hcx⟩ := hc x (by simp)
    have h' : step P ops x (step P ops i (T P ops Q (pre ++ post))) a w :=
      step_mono (fun a w hk => pull hsel hi post pre (fun y hy => hc y (by simp [hy])) a w hk) h
    exact swap hx hi (hsel _ _ hx) (hsel _ _ hi) hcx h'

/- what each operation waits for, through others too: sets of bits, worked out in an order -/
def bits : List (Nat × Nat) → Nat → Nat
  | [], _ => 0
  | (i, m) :: l, j => match Nat.beq j i with
    | true => m
    | false => bits l j
def maskE (acc : List (Nat × Nat)) : List Edge → Nat
  | [] => 0
  | e :: l => match Region.binds .any e with
    | true => (2 ^ e.on ||| bits acc e.on) ||| maskE acc l
    | false => maskE acc l
def clo (ops : Array Oper) : List Nat → List (Nat × Nat) → List (Nat × Nat)
  | [], acc => acc
  | j :: l, acc => match ops[j]? with
    | some o => clo ops l ((j, maskE acc o.after.toList) :: acc)
    | none => clo ops l acc
def ancC (acc : List (Nat × Nat)) (y x : Nat) : Bool := (bits acc y).testBit x
theorem maskE_bit {acc : List (Nat × Nat)} {x : Nat} : ∀ {l : List Edge}, (maskE acc l).testBit x = true → ∃ e ∈ l, Region.binds .any e = true ∧ (e.on = x ∨ (bits acc e.on).testBit x = true)
  | [], h => by simp [maskE] at h
  | e :: l, h => by
    unfold maskE at h
    split at h
    · rename_i hb
      rw [Nat.testBit_or, Nat.testBit_or, Nat.testBit_two_pow, Bool.or_eq_true, Bool.or_eq_true, decide_eq_true_eq] at h
      rcases h with h | h
      · exact ⟨e, by simp, hb, h⟩
      · obtain ⟨e', h1, h2⟩ := maskE_bit h
        exact ⟨e', by simp [h1], h2⟩
    · obtain ⟨e', h1, h2⟩ := maskE_bit h
      exact ⟨e', by simp [h1], h2⟩
def GoodC (ops : Array Oper) (L : Nat → Prop) (acc : List (Nat × Nat)) : Prop := ∀ y x, (bits acc y).testBit x = true → ∃ oy, ops[y]? = some oy ∧ ((∀ e ∈ oy.after, Region.binds .any e = true → L e.on) → L x)
theorem clo_good {L : Nat → Prop} (hcl : ∀ j oj, ops[j]? = some oj → L j → ∀ e ∈ oj.after, Region.binds .any e = true → L e.on) : ∀ (l : List Nat) (acc : List (Nat × Nat)), GoodC ops L acc → GoodC ops L (clo ops l acc)
  | [], acc, h => h
  | j :: l, acc, h => by
    unfold clo
    split
    · rename_i o ho
      refine clo_good hcl l _ fun y x hx => ?_
      unfold bits at hx
      split at hx
      · rename_i hb
        obtain rfl := Nat.eq_of_beq_eq_true hb
        refine ⟨o, ho, fun hl => ?_⟩
        obtain ⟨e, he, hbd, h1⟩ := maskE_bit hx
        have he' : e ∈ o.after := by simpa using he
        rcases h1 with rfl | h1
        · exact hl e he' hbd
        · obtain ⟨oe, hoe, h2⟩ := h _ _ h1
          exact h2 (hcl _ _ hoe (hl e he' hbd))
      · exact h _ _ hx
    · exact clo_good hcl l _ h
theorem ancC_listed {listed : Array Bool} (hcl : ∀ j oj, ops[j]? = some oj → listed.getD j false = true → ∀ e ∈ oj.after, Region.binds .any e = true → listed.getD e.on false = true)
    (l : List Nat) (y x : Nat) (oy : Oper) (hy : ops[y]? = some oy) (hl : ∀ e ∈ oy.after, Region.binds .any e = true → listed.getD e.on false = true) (h : ancC (clo ops l []) y x = true) : listed.getD x false = true := by
  obtain ⟨oy', h1, h2⟩ := clo_good (L := fun i => listed.getD i false = true) hcl l [] (fun y x h => by simp [bits] at h) y x h
  rw [hy] at h1; cases h1
  exact h2 hl

structure Inv (ops : Array Oper) (l : List Nat) (listed : Array Bool) : Prop where
  sorted : l.Pairwise (· < ·)
  inside : ∀ j ∈ l, j < ops.size
  mem : ∀ j, j < ops.size → (listed.getD j true = false ↔ j ∈ l)
  size : listed.size = ops.size
  closed : ∀ j oj, ops[j]? = some oj → listed.getD j false = true → ∀ e ∈ oj.after, Region.binds .any e = true → listed.getD e.on false = true

def needs : Op → Bool
  | .binOp _ _ _ _ _ | .nilCheck _ | .convert _ _ _ | .call _ => true
  | _ => false

def lexOk (P : Program) (ops : Array Oper) : Bool :=
  Region.noSelect ops &&
  (List.range ops.size).all fun y => match ops[y]? with
    | none => false
    | some oy =>
      oy.after.all (fun e => !Region.binds .any e || decide (e.on < y)) &&
      ((List.range y).all fun x => match ops[x]? with
        | none => false
        | some ox => comm P ops ox oy || ancC (clo ops (List.range ops.size) []) y x) &&
      (!needs oy.op || (List.range ops.size).all fun j => decide (j < y) || match ops[j]? with
        | none => true
        | some oj => match oj.dst with
          | none => true
          | some d => !(oy.looksAt ops).contains d)

theorem lexOk_spec (h : lexOk P ops = true) : Region.noSelect ops = true ∧ ∀ y oy, ops[y]? = some oy →
    (∀ e ∈ oy.after, Region.binds .any e = true → e.on < y) ∧ (∀ x, x < y → ∃ ox, ops[x]? = some ox ∧ (comm P ops ox oy = true ∨ ancC (clo ops (List.range ops.size) []) y x = true)) ∧
    (needs oy.op = true → ∀ j oj d, y ≤ j → ops[j]? = some oj → oj.dst = some d → d ∉ oy.looksAt ops) := by
  simp only [lexOk, Bool.and_eq_true, List.all_eq_true, List.mem_range] at h
  refine ⟨h.1, fun y oy hy => ?_⟩
  have hlt : y < ops.size := (Array.getElem?_eq_some_iff.1 hy).1
  have h1 := h.2 y hlt
  simp only [hy, Bool.and_eq_true, List.all_eq_true, List.mem_range, Array.all_eq_true_iff_forall_mem, Bool.or_eq_true] at h1
  obtain ⟨⟨ha, hb⟩, hc⟩ := h1
  refine ⟨fun e he hbd => ?_, fun x hx => ?_, fun hn j oj d hj ho hd => ?_⟩
  · have := ha e he
    simp [hbd] at this
    exact this
  · have := hb x hx
    cases hox : ops[x]? with
    | none => simp [hox] at this
    | some ox => simp only [hox, Bool.or_eq_true] at this; exact ⟨ox, rfl, this⟩
  · rcases hc with hc | hc
    · simp [hn] at hc
    · have := hc j (Array.getElem?_eq_some_iff.1 ho).1
      simp only [ho, hd, decide_eq_true_eq] at this
      rcases this with h | h
      · omega
      · simpa using h

theorem wpAny_of_T {Q : Exit → Act → World → Prop} (hB : lexOk P ops = true) : ∀ (n : Nat) (l : List Nat) (listed : Array Bool) (a : Act) (w : World), l.length = n → Inv ops l listed → T P ops Q l a w →
    wpAny P .any ops Q n listed a w := by
  obtain ⟨hsel, hspec⟩ := lexOk_spec hB
  have hns : ∀ (j : Nat) (o : Oper), ops[j]? = some o → noSel o := fun j o ho cs b => Region.noSelect_spec hsel j o cs b ho
  intro n
  induction n with
  | zero =>
    intro l listed a w hn inv h
    have : l = [] := by simpa using hn
    subst this
    refine ⟨?_, h⟩
    apply List.eq_nil_iff_forall_not_mem.2
    intro j hj
    obtain ⟨hun, o, ho, _⟩ := mem_ready.1 hj
    have := (inv.mem j (Array.getElem?_eq_some_iff.1 ho).1).1 hun
    cases this
  | succ n ih =>
    intro l listed a w hn inv h
    have unlisted : ∀ j, listed.getD j true = false → listed.getD j false = true → False := by
      intro j h1 h2
      rcases Nat.lt_or_ge j listed.size with h' | h'
      · simp [h'] at h1 h2; rw [h1] at h2; cases h2
      · simp [Array.getElem?_eq_none h'] at h1
    refine ⟨fun hr => ?_, fun i hi => ?_⟩
    · exfalso
      match l, hn with
      | i0 :: l', _ =>
        have hlt := inv.inside i0 (by simp)
        have : i0 ∈ Region.ready .any ops listed := by
          refine mem_ready.2 ⟨(inv.mem i0 hlt).2 (by simp), ops[i0], by simp [hlt], fun e he hb => ?_⟩
          have hlt2 := (hspec i0 _ (by simp [hlt])).1 e he hb
          have hnot : e.on ∉ i0 :: l' := by
            intro hm
            rcases List.mem_cons.1 hm with h | h
            · omega
            · have := (List.pairwise_cons.1 inv.sorted).1 _ h; omega
          have hsz : e.on < listed.size := by rw [inv.size]; omega
          have hnf : ¬ listed.getD e.on true = false := fun hf => hnot ((inv.mem _ (by omega)).1 hf)
          simp [hsz] at hnf ⊢
          exact hnf
        rw [hr] at this
        cases this
    · obtain ⟨hun, oi, hoi, hall⟩ := mem_ready.1 hi
      have hlt := (Array.getElem?_eq_some_iff.1 hoi).1
      have hmem := (inv.mem i hlt).1 hun
      obtain ⟨pre, post, rfl⟩ := List.append_of_mem hmem
      have hp := inv.sorted
      rw [List.pairwise_append] at hp
      have hpre : ∀ x ∈ pre, x < i := fun x hx => hp.2.2 x hx i (by simp)
      refine wpOp_of_step (step_mono (fun a' w' hk => ih (pre ++ post) _ a' w' (by simp at hn ⊢; omega) ?_ hk) (pull hns hoi post pre (fun x hx => ?_) a w h))
      · refine ⟨?_, fun j hj => inv.inside j (by simp at hj ⊢; rcases hj with h | h <;> simp [h]), fun j hj => ?_, by simp [inv.size], fun j oj hoj hl e he hb => ?_⟩
        · rw [List.pairwise_append]
          exact ⟨hp.1, (List.pairwise_cons.1 hp.2.1).2, fun x hx y hy => hp.2.2 x hx y (by simp [hy])⟩
        · by_cases hij : i = j
          · subst hij
            have hnd : i ∉ pre ++ post := by
              intro hm
              rcases List.mem_append.1 hm with h | h
              · have := hpre _ h; omega
              · have := (List.pairwise_cons.1 hp.2.1).1 _ h; omega
            have hsz : i < listed.size := by rw [inv.size]; exact hlt
            simp only [hnd, iff_false]
            simp [hsz]
          · rw [getD_set_ne true hij, inv.mem j hj]
            simp
            constructor
            · rintro (h | h | h)
              · exact .inl h
              · exact absurd h.symm hij
              · exact .inr h
            · rintro (h | h)
              · exact .inl h
              · exact .inr (.inr h)
        · by_cases hij : i = j
          · subst hij
            have : oj = oi := Option.some.inj (hoj.symm.trans hoi)
            subst this
            exact getD_set_true (hall e he hb)
          · rw [getD_set_ne false hij] at hl
            exact getD_set_true (inv.closed j oj hoj hl e he hb)
      · have hxi := hpre x hx
        obtain ⟨ox, hox, hc⟩ := (hspec i oi hoi).2.1 x hxi
        refine ⟨ox, hox, ?_⟩
        rcases hc with hc | hc
        · exact hc
        · exfalso
          have hxl := ancC_listed inv.closed _ i x oi hoi hall hc
          have hxu := (inv.mem x (Array.getElem?_eq_some_iff.1 hox).1).2 (by simp [hx])
          exact unlisted x hxu hxl

def saneAll (ops : Array Oper) (tmps : Array Value) : Bool :=
  ops.all fun o => !needs o.op || !Region.wanted o (yielded ops tmps) || sane (Act.eval { tmps := tmps, defers := [] }) o.op

/-- the end of a region that is walked in the text's order: no panic, and the operands were plain -/
def Sane (ops : Array Oper) (Q : Exit → Act → World → Prop) : Exit → Act → World → Prop :=
  fun e a w => e = .normal ∧ saneAll ops a.tmps = true ∧ Q .normal a w

theorem Sane.mk {Q : Exit → Act → World → Prop} {a : Act} {w : World} (h : saneAll ops a.tmps = true) (hq : Q .normal a w) : Sane ops Q .normal a w := ⟨rfl, h, hq⟩

theorem sane_congr {ρ ρ' : Operand → Value} (op : Op) (h : ∀ x ∈ op.operands, ρ x = ρ' x) : sane ρ op = sane ρ' op := by
  cases op <;> try rfl
  case binOp => simp [Op.operands] at h; simp [sane, h]
  case nilCheck => simp [Op.operands] at h; simp [sane, h]
  case convert => simp [Op.operands] at h; simp [sane, h]
  case call c =>
    obtain ⟨callee, args, argTypes⟩ := c
    cases callee <;> try rfl
    rename_i b
    have ha : ∀ x ∈ args, ρ x = ρ' x := fun x hx => h x (by simp [Op.operands, Call.operands, hx])
    have hall : (args.all fun x => plainArg (ρ x)) = (args.all fun x => plainArg (ρ' x)) := by
      rw [Bool.eq_iff_iff]
      simp only [Array.all_eq_true_iff_forall_mem]
      exact ⟨fun k x hx => ha x hx ▸ k x hx, fun k x hx => (ha x hx).symm ▸ k x hx⟩
    cases b <;> first | rfl | exact hall

theorem eval_eq_of_tmps {a a' : Act} (h : a.tmps = a'.tmps) : a.eval = a'.eval := by
  funext x
  cases x <;> simp [Act.eval, h]

theorem getD_replicate (m j : Nat) : (Array.replicate m false).getD j false = false := by
  rcases Nat.lt_or_ge j m with h | h
  · simp [h]
  · simp [h]

/-- what o looks at is not among what these write -/
def Away (ops : Array Oper) (l : List Oper) (o : Oper) : Prop := ∀ oj ∈ l, ∀ d, oj.dst = some d → d ∉ o.looksAt ops

theorem same_form {o x : Oper} {a a1 : Act} (h : ∀ d, x.dst = some d → d ∉ o.looksAt ops) (hf : Form x a a1) :
    sane a1.eval o.op = sane a.eval o.op ∧ Region.wanted o (yielded ops a1.tmps) = Region.wanted o (yielded ops a.tmps) := by
  have key : ∀ (a : Act) (u : Value), sane (a.put x.dst u).eval o.op = sane a.eval o.op := fun a u =>
    sane_congr _ fun y hy => Act.eval_put fun d hd hxd => h d hd (by
      subst hxd
      exact List.mem_append_left _ (List.mem_filterMap.2 ⟨.tmp d, by simpa using hy, rfl⟩))
  rcases hf with ⟨u, rfl⟩ | ⟨d, rfl⟩
  · exact ⟨key a u, wanted_put o a x.dst u h⟩
  · exact ⟨(key _ _).trans (by rfl), (wanted_put (ops := ops) o _ x.dst undef h).trans rfl⟩

theorem final_sane {Q : Exit → Act → World → Prop} : ∀ (l : List Oper) (a : Act) (w : World), wpList P ops (Sane ops Q) l a w →
    ∃ af : Act, saneAll ops af.tmps = true ∧ ∀ o, Away ops l o → sane af.eval o.op = sane a.eval o.op ∧ Region.wanted o (yielded ops af.tmps) = Region.wanted o (yielded ops a.tmps)
  | [], a, w, h => ⟨a, h.2.1, fun _ _ => ⟨rfl, rfl⟩⟩
  | x :: l, a, w, h => by
    have hlets : ¬ LetsOut (Sane ops Q) := fun ⟨_, _, h⟩ => by cases h.1
    have hpan : ∀ c a w, ¬ Sane ops Q (.panic c) a w := fun c a w h => by cases h.1
    unfold wpList at h
    have hex : ∃ a1 w1, Form x a a1 ∧ wpList P ops (Sane ops Q) l a1 w1 := by
      split at h
      · rcases h with h | h
        · exact wp_some hpan hlets (wp_form h)
        · exact absurd h.2 hlets
      · exact ⟨_, _, .inl ⟨_, rfl⟩, h⟩
    obtain ⟨a1, w1, hf, hl⟩ := hex
    obtain ⟨af, hs, hall⟩ := final_sane l a1 w1 hl
    refine ⟨af, hs, fun o ho => ?_⟩
    have h1 := hall o fun oj hj d hd => ho oj (by simp [hj]) d hd
    have h2 := same_form (fun d hd => ho x (by simp) d hd) hf
    exact ⟨h1.1.trans h2.1, h1.2.trans h2.2⟩

theorem sane_of_not_needs {ρ : Operand → Value} {op : Op} (h : needs op = false) : sane ρ op = true := by
  cases op <;> first | rfl | (simp [needs] at h)

theorem sane_now {Q : Exit → Act → World → Prop} {k : Nat} {o : Oper} {l : List Oper} (hB : lexOk P ops = true) (hd : ops.toList.drop k = o :: l) {a : Act} {w : World} (h : wpList P ops (Sane ops Q) (o :: l) a w)
    (hw : Region.wanted o (yielded ops a.tmps) = true) : sane a.eval o.op = true := by
  by_cases hn : needs o.op = true
  · have ho : ops[k]? = some o := by
      have : (ops.toList.drop k)[0]? = some o := by rw [hd]; rfl
      simpa using this
    have hst := ((lexOk_spec hB).2 k o ho).2.2 hn
    obtain ⟨af, hs, hall⟩ := final_sane _ a w h
    have haw : Away ops (o :: l) o := by
      intro oj hj d hdst
      rw [← hd] at hj
      obtain ⟨m, hm⟩ := List.mem_iff_getElem?.1 hj
      refine hst (k + m) oj d (by omega) ?_ hdst
      simpa using hm
    obtain ⟨e1, e2⟩ := hall o haw
    have := (Array.all_eq_true_iff_forall_mem.1 hs) o (Array.mem_of_getElem? ho)
    simp only [hn, e2, hw, Bool.not_true, Bool.false_or] at this
    rw [← e1, ← this]
    exact congrArg (fun ρ => sane ρ o.op) (eval_eq_of_tmps rfl)
  · exact sane_of_not_needs (by simpa using hn)

theorem T_of_list {Q : Exit → Act → World → Prop} (hB : lexOk P ops = true) : ∀ (l : List Oper) (k : Nat) (a : Act) (w : World), ops.toList.drop k = l → wpList P ops (Sane ops Q) l a w → T P ops Q (List.range' k l.length) a w
  | [], k, a, w, _, h => h.2.2
  | o :: l, k, a, w, hd, h => by
    have ho : ops[k]? = some o := by
      have : (ops.toList.drop k)[0]? = some o := by rw [hd]; rfl
      simpa using this
    have hd' : ops.toList.drop (k + 1) = l := by
      have := congrArg List.tail hd
      simpa [List.tail_drop] using this
    have hlets : ¬ LetsOut (Sane ops Q) := fun ⟨_, _, h⟩ => by cases h.1
    have hsane := sane_now hB hd h
    show step P ops k (T P ops Q (List.range' (k + 1) l.length)) a w
    have ih : ∀ a w, wpList P ops (Sane ops Q) l a w → T P ops Q (List.range' (k + 1) l.length) a w := fun a w => T_of_list hB l (k + 1) a w hd'
    unfold step
    simp only [ho]
    unfold wpList at h
    by_cases hw : Region.wanted o (yielded ops a.tmps) = true
    · rw [if_pos hw] at h
      have h := h.resolve_right fun h => hlets h.2
      have hs := hsane hw
      by_cases k0 : kind P o.op = 0
      · rw [if_pos k0]
        unfold Oper.wp at h
        rcases pureOp (P := P) o k0 hs with ⟨v, hv⟩ | hn
        · rw [hv, Oper.upon_value] at h
          exact ⟨v, .inl ⟨hw, hv⟩, ih _ _ h⟩
        · exfalso
          cases hr : (execOp a.eval o).run P w with
          | ok n w' => exact hn _ _ _ hr
          | halt x w' => rw [hr] at h; cases x <;> simp only [Oper.upon] at h <;> first | exact h | exact absurd h.1 (by simp)
      · rw [if_neg k0]
        by_cases k1 : kind P o.op = 1
        · rw [if_pos k1]
          unfold Oper.wp at h
          cases hr : (execOp a.eval o).run P w with
          | ok n w' =>
            obtain ⟨rfl, v, rfl⟩ := readOp o k1 hs hr
            rw [hr, Oper.upon_value] at h
            exact ⟨v, .inl ⟨hw, hr⟩, ih _ _ h⟩
          | halt x w' => exfalso; rw [hr] at h; cases x <;> simp only [Oper.upon] at h <;> first | exact h | exact absurd h.1 (by simp)
        · rw [if_neg k1, if_pos hw]
          have h := Oper.wp_mono ih h
          unfold Oper.wp at *
          generalize (execOp a.eval o).run P w = r at *
          cases r with
          | ok n w' =>
            cases n <;> simp only [Oper.upon] at h ⊢ <;>
              first
                | exact h
                | exact Calls.mono h (fun e w'' he => by cases e <;> first | exact he | exact absurd he.1 (by simp) | exact absurd he hlets)
          | halt x w' => cases x <;> simp only [Oper.upon] at h ⊢ <;> first | exact h | exact absurd h.1 (by simp)
    · rw [if_neg hw] at h
      have hwf : Region.wanted o (yielded ops a.tmps) = false := by simpa using hw
      have h := ih _ _ h
      by_cases k0 : kind P o.op = 0
      · rw [if_pos k0]; exact ⟨undef, .inr ⟨hwf, rfl⟩, h⟩
      · rw [if_neg k0]
        by_cases k1 : kind P o.op = 1
        · rw [if_pos k1]; exact ⟨undef, .inr ⟨hwf, rfl⟩, h⟩
        · rw [if_neg k1, if_neg hw]; exact h

/-- A REGION THAT DRAWS ITS ORDER MAY BE WALKED IN THE TEXT's ORDER, where lexOk holds. -/
theorem wp_region_text {id : Nat} {l : List Oper} {Q : Exit → Act → World → Prop} {a : Act} {w : World} (hm : P.follows .mixedOrders = true) (hB : lexOk P l.toArray = true)
    (h : wpList P l.toArray (Sane l.toArray Q) l a w.drew) : (Code.region id l.toArray true).wp P Q a w := by
  refine wp_region_any hm ?_
  have hT := T_of_list (ops := l.toArray) hB l 0 a w.drew (by simp) h
  have hsz : l.toArray.size = l.length := by simp
  refine wpAny_of_T hB l.toArray.size (List.range' 0 l.length) (Array.replicate l.toArray.size false) a _ (by simp) ?_ hT
  refine ⟨List.pairwise_lt_range', fun j hj => by simpa using hj, fun j hj => ?_, by simp, fun j oj hoj hl => ?_⟩
  · have hj' : j < l.length := by simpa using hj
    simp [hj']
  · exfalso
    rw [getD_replicate] at hl
    cases hl
end
end Go.Lx
/- The engine: what the code of a function asks, computed from its text over a heap and an environment of slots; and that this is enough for the model's own run. -/
namespace Go.Vc
open Go.Lx

abbrev Heap := Array Obj
abbrev Env := List (Nat × Value)

def get : Env → Nat → Option Value
  | [], _ => none
  | (j, v) :: l, i => match Nat.beq i j with
    | true => some v
    | false => get l i

def nth {α : Type} : List α → Nat → Option α
  | [], _ => none
  | x :: l, i => match i with
    | 0 => some x
    | i + 1 => nth l i

theorem nth_eq {α : Type} : ∀ (l : List α) (i : Nat), nth l i = l[i]?
  | [], i => by simp [nth]
  | x :: l, 0 => by simp [nth]
  | x :: l, i + 1 => by simp [nth, nth_eq l i]

def ev (env : Env) : Operand → Option Value
  | .tmp t => get env t
  | .const v => some v
  | .global g => some (.pointer (some ⟨g, 0, none⟩))
  | .func f => some (.func (.func f) #[] #[])

def evs (env : Env) : List Operand → Option (List Value)
  | [] => some []
  | x :: l => match ev env x with
    | none => none
    | some v => match evs env l with
      | none => none
      | some vs => some (v :: vs)

def Agrees (env : Env) (a : Act) : Prop := ∀ i v, get env i = some v → a.tmps[i]? = some v

theorem Agrees.ev {env : Env} {a : Act} (h : Agrees env a) {x : Operand} {v : Value} (hx : ev env x = some v) : a.eval x = v := by
  cases x with
  | tmp t => simp [Vc.ev] at hx; have := h t v hx; simp [Act.eval, Array.getD_eq_getD_getElem?, this]
  | const c => simp [Vc.ev] at hx; simpa [Act.eval] using hx
  | global g => simp [Vc.ev] at hx; simpa [Act.eval] using hx
  | func g => simp [Vc.ev] at hx; simpa [Act.eval] using hx

theorem Agrees.evs {env : Env} {a : Act} (h : Agrees env a) : ∀ {l : List Operand} {vs : List Value}, evs env l = some vs → l.map a.eval = vs
  | [], vs, hx => by simp [Vc.evs] at hx; simp [hx]
  | x :: l, vs, hx => by
    unfold Vc.evs at hx
    split at hx
    · cases hx
    · rename_i v hv
      split at hx
      · cases hx
      · rename_i us hu
        cases hx
        simp [h.ev hv, h.evs hu]

theorem get_cons (j : Nat) (v : Value) (l : Env) (i : Nat) : get ((j, v) :: l) i = if i = j then some v else get l i := by
  by_cases h : i = j
  · subst h; simp [get]
  · have : Nat.beq i j = false := by
      cases hb : Nat.beq i j
      · rfl
      · exact absurd (Nat.eq_of_beq_eq_true hb) h
    simp [get, this, h]

theorem Agrees.put {env : Env} {a : Act} (h : Agrees env a) {d : Nat} (hd : d < a.tmps.size) (v : Value) : Agrees ((d, v) :: env) (a.put (some d) v) := by
  intro i u hu
  rw [get_cons] at hu
  simp only [Act.put]
  rw [Array.getElem?_setIfInBounds]
  by_cases hi : i = d
  · subst hi
    simp at hu ⊢
    exact ⟨hd, hu⟩
  · rw [if_neg hi] at hu
    rw [if_neg (fun e => hi e.symm)]
    exact h i u hu

theorem Agrees.drop {env : Env} {a : Act} {j : Nat} {v : Value} (h : Agrees env a) (hv : a.tmps[j]? = some v) : Agrees ((j, v) :: env) a := by
  intro i u hu
  rw [get_cons] at hu
  by_cases hi : i = j
  · subst hi; simp at hu; subst hu; exact hv
  · rw [if_neg hi] at hu; exact h i u hu

/- ---------- the heads: what is asked of whoever proves ---------- -/
structure ArithH (k : IntKind) (e : Int) (K : Int → Prop) : Prop where out : K (k.wrap e)
structure IdxH (i : Int) (n : Nat) (K : Nat → Prop) : Prop where out : 0 ≤ i ∧ i < n ∧ K i.toNat
structure BndH (i : Int) (n : Nat) (K : Nat → Prop) : Prop where out : 0 ≤ i ∧ i ≤ n ∧ K i.toNat
structure QuoH (k : IntKind) (a c : Int) (K : Int → Prop) : Prop where out : c ≠ 0 ∧ K (k.wrap (a.tdiv c))
structure RemH (a c : Int) (K : Int → Prop) : Prop where out : c ≠ 0 ∧ K (a.tmod c)
structure NeedH (p : Prop) (K : Prop) : Prop where out : p ∧ K
structure CondH (b : Bool) (A B : Prop) : Prop where
  t : b = true → A
  f : b = false → B
structure SplitH (b : Bool) (K : Bool → Prop) : Prop where
  t : b = true → K true
  f : b = false → K false
structure ElemH (cs : Array Value) (i : Nat) (K : Value → Prop) : Prop where out : ∃ v, cs[i]? = some v ∧ K v
/-- an operation that looks at its operands alone -/
structure PureH (P : Program) (s : Sem Value) (K : Value → Prop) : Prop where out : ∃ v, (∀ w, s.run P w = .ok v w) ∧ K v

structure Same (w w' : World) : Prop where
  os : w'.os = w.os
  tape : w'.tape = w.tape
  output : w'.output = w.output
theorem Same.refl (w : World) : Same w w := ⟨rfl, rfl, rfl⟩
theorem Same.trans {a b c : World} (h : Same a b) (k : Same b c) : Same a c := ⟨k.os.trans h.os, k.tape.trans h.tape, k.output.trans h.output⟩

/-- an operation that reads or writes memory -/
structure SemH (P : Program) (s : Sem Value) (H : Heap) (K : Value → Heap → Prop) : Prop where
  out : ∀ w : World, w.heap = H → ∃ v w', s.run P w = .ok v w' ∧ Same w w' ∧ K v w'.heap
structure DoH (P : Program) (s : Sem Unit) (H : Heap) (K : Heap → Prop) : Prop where
  out : ∀ w : World, w.heap = H → ∃ w', s.run P w = .ok () w' ∧ Same w w' ∧ K w'.heap

/-- a call: whatever it enters returns -/
def Nexts (P : Program) (w : World) (R : Value → Heap → Prop) : Result Next → Prop
  | .ok (.value v) w' => Same w w' ∧ R v w'.heap
  | .ok (.enter g as) w' => Same w w' ∧ Calls P g as w' fun e w'' => Same w w'' ∧ ∃ v, e = .returned v ∧ R v w''.heap
  | _ => False
structure NextH (P : Program) (s : Sem Next) (H : Heap) (R : Value → Heap → Prop) : Prop where
  out : ∀ w : World, w.heap = H → Nexts P w R (s.run P w)
/-- the call of function f with these arguments over this heap returns, and R holds of its value and the heap behind it -/
structure CallH (P : Program) (f : FuncId) (args : List Value) (H : Heap) (R : Value → Heap → Prop) : Prop where
  out : ∀ w : World, w.heap = H → Nexts P w R ((callFunc f args.toArray).run P w)

/-- what must hold where a call panics -/
abbrev Panics := List PanicEntry → Heap → Prop
/-- a call that returns or panics -/
def NextsX (P : Program) (w : World) (R : Value → Heap → Prop) (X : Panics) : Result Next → Prop
  | .ok (.value v) w' => Same w w' ∧ R v w'.heap
  | .ok (.enter g as) w' => Same w w' ∧ Calls P g as w' fun e w'' => Same w w'' ∧ ((∃ v, e = .returned v ∧ R v w''.heap) ∨ ∃ c, e = .panicked c ∧ X c w''.heap)
  | .halt (.panic v) w' => Same w w' ∧ X [{ v, recovered := false }] w'.heap
  | _ => False
structure NextX (P : Program) (s : Sem Next) (H : Heap) (R : Value → Heap → Prop) (X : Panics) : Prop where
  out : ∀ w : World, w.heap = H → NextsX P w R X (s.run P w)
structure CallX (P : Program) (f : FuncId) (args : List Value) (H : Heap) (R : Value → Heap → Prop) (X : Panics) : Prop where
  out : ∀ w : World, w.heap = H → NextsX P w R X ((callFunc f args.toArray).run P w)
theorem Nexts.x {P : Program} {w : World} {R : Value → Heap → Prop} {X : Panics} {r : Result Next} (h : Nexts P w R r) : NextsX P w R X r := by
  cases r with
  | ok n w' =>
    cases n <;> simp only [Nexts, NextsX] at h ⊢
    · exact h
    · exact ⟨h.1, Calls.mono h.2 fun e w'' ⟨hs, hv⟩ => ⟨hs, .inl hv⟩⟩
  | halt x w' => exact h.elim
theorem CallX.of {P : Program} {f : FuncId} {args : List Value} {H : Heap} {R : Value → Heap → Prop} {X : Panics} (h : CallH P f args H R) : CallX P f args H R X := ⟨fun w hw => (h.out w hw).x⟩
theorem NextX.of {P : Program} {s : Sem Next} {H : Heap} {R : Value → Heap → Prop} {X : Panics} (h : NextH P s H R) : NextX P s H R X := ⟨fun w hw => (h.out w hw).x⟩
theorem NextsX.mono {P : Program} {w : World} {R R' : Value → Heap → Prop} {X X' : Panics} (h : ∀ v H, R v H → R' v H) (hX : ∀ c H, X c H → X' c H) {r : Result Next} (hr : NextsX P w R X r) : NextsX P w R' X' r := by
  cases r with
  | ok n w' =>
    cases n <;> simp only [NextsX] at hr ⊢
    · exact ⟨hr.1, h _ _ hr.2⟩
    · exact ⟨hr.1, Calls.mono hr.2 fun e w'' ⟨hs, hv⟩ => ⟨hs, hv.imp (fun ⟨v, he, hR⟩ => ⟨v, he, h _ _ hR⟩) fun ⟨c, he, hx⟩ => ⟨c, he, hX _ _ hx⟩⟩⟩
  | halt x w' =>
    cases x <;> simp only [NextsX] at hr ⊢
    exact ⟨hr.1, hX _ _ hr.2⟩
theorem CallX.mono {P : Program} {f : FuncId} {args : List Value} {H : Heap} {R R' : Value → Heap → Prop} {X X' : Panics} (hc : CallX P f args H R X) (h : ∀ v H, R v H → R' v H) (hX : ∀ c H, X c H → X' c H) : CallX P f args H R' X' :=
  ⟨fun w hw => (hc.out w hw).mono h hX⟩
/-- a call that panics with this value -/
structure PanicH (v : Value) (H : Heap) (X : Panics) : Prop where out : X [{ v, recovered := false }] H

theorem Nexts.mono {P : Program} {w : World} {R R' : Value → Heap → Prop} (h : ∀ v H, R v H → R' v H) {r : Result Next} (hr : Nexts P w R r) : Nexts P w R' r := by
  cases r with
  | ok n w' =>
    cases n <;> simp only [Nexts] at hr ⊢
    · exact ⟨hr.1, h _ _ hr.2⟩
    · exact ⟨hr.1, Calls.mono hr.2 fun e w'' ⟨hs, v, he, hR⟩ => ⟨hs, v, he, h _ _ hR⟩⟩
  | halt x w' => exact hr
theorem CallH.mono {P : Program} {f : FuncId} {args : List Value} {H : Heap} {R R' : Value → Heap → Prop} (hc : CallH P f args H R) (h : ∀ v H, R v H → R' v H) : CallH P f args H R' :=
  ⟨fun w hw => (hc.out w hw).mono h⟩
theorem SemH.mono {P : Program} {s : Sem Value} {H : Heap} {R R' : Value → Heap → Prop} (hc : SemH P s H R) (h : ∀ v H, R v H → R' v H) : SemH P s H R' :=
  ⟨fun w hw => let ⟨v, w', h1, h2, h3⟩ := hc.out w hw; ⟨v, w', h1, h2, h _ _ h3⟩⟩

/- ---------- operations that look at their operands alone ---------- -/
def bitB (k : IntKind) (op : BinOp) (x y : Int) : Int :=
  let a := BitVec.ofInt k.bits x
  let b := BitVec.ofInt k.bits y
  match op with
  | .and => k.wrap (a &&& b).toNat
  | .or => k.wrap (a ||| b).toNat
  | .xor => k.wrap (a ^^^ b).toNat
  | .andNot => k.wrap (a &&& ~~~b).toNat
  | _ => 0
def shlB (k : IntKind) (x y : Int) : Int := k.wrap (x * 2 ^ min y.toNat k.bits)
def shrB (k : IntKind) (x y : Int) : Int := x.fdiv (2 ^ min y.toNat k.bits)

def kindEq : IntKind → IntKind → Bool
  | .i8, .i8 | .i16, .i16 | .i32, .i32 | .i64, .i64 | .u8, .u8 | .u16, .u16 | .u32, .u32 | .u64, .u64 => true
  | _, _ => false
theorem kindEq_spec {a b : IntKind} (h : kindEq a b = true) : a = b := by
  cases a <;> cases b <;> first | rfl | (simp [kindEq] at h)

def vcInt (kx : IntKind) (b : BinOp) (a c : Int) (k : Value → Prop) : Prop :=
  match b with
  | .add => ArithH kx (a + c) fun n => k (.int kx n)
  | .sub => ArithH kx (a - c) fun n => k (.int kx n)
  | .mul => ArithH kx (a * c) fun n => k (.int kx n)
  | .quo => QuoH kx a c fun n => k (.int kx n)
  | .rem => RemH a c fun n => k (.int kx n)
  | .and => k (.int kx (bitB kx .and a c))
  | .or => k (.int kx (bitB kx .or a c))
  | .xor => k (.int kx (bitB kx .xor a c))
  | .andNot => k (.int kx (bitB kx .andNot a c))
  | .eql => k (.bool (a == c))
  | .neq => k (.bool (a != c))
  | .lss => k (.bool (decide (a < c)))
  | .leq => k (.bool (decide (a ≤ c)))
  | .gtr => k (.bool (decide (c < a)))
  | .geq => k (.bool (decide (c ≤ a)))
  | .shl => NeedH (0 ≤ c) (k (.int kx (shlB kx a c)))
  | .shr => NeedH (0 ≤ c) (k (.int kx (shrB kx a c)))

def isShift : BinOp → Bool
  | .shl | .shr => true
  | _ => false

def vcStr (b : BinOp) (s t : ByteArray) (k : Value → Prop) : Prop :=
  match b with
  | .add => NeedH (s.size + t.size ≤ 9223372036854775807) (k (.string (s ++ t)))
  | .eql => k (.bool (s.toList == t.toList))
  | .neq => k (.bool !(s.toList == t.toList))
  | .lss => k (.bool (Op.bytesLess s.toList t.toList))
  | .leq => k (.bool (Op.bytesLess s.toList t.toList || s.toList == t.toList))
  | .gtr => k (.bool !(Op.bytesLess s.toList t.toList || s.toList == t.toList))
  | .geq => k (.bool !(Op.bytesLess s.toList t.toList))
  | _ => False

def vcEq (b : BinOp) (r : Bool) (k : Value → Prop) : Prop :=
  match b with
  | .eql => k (.bool r)
  | .neq => k (.bool !r)
  | _ => False

def vcBin (P : Program) (b : BinOp) (xt : TypeId) (ox oy : Operand) (x y : Value) (k : Value → Prop) : Prop :=
  match x with
  | .int kx a => match y with
    | .int ky c => match isShift b with
      | true => vcInt kx b a c k
      | false => match kindEq kx ky with
        | true => vcInt kx b a c k
        | false => False
    | _ => False
  | .string s => match y with
    | .string t => vcStr b s t k
    | _ => False
  | .bool a => match y with
    | .bool c => match P.underlying xt with
      | some .bool => vcEq b (a == c) k
      | _ => False
    | _ => False
  | .nilIface => match y with
    | .nilIface => match P.underlying xt with
      | some (.interface _) => match oy with
        | .const _ => vcEq b true k
        | _ => PureH P (do eqGuard b xt ox oy x y; binOp b xt x y) k
      | _ => False
    | .iface _ _ => match P.underlying xt with
      | some (.interface _) => vcEq b false k
      | _ => False
    | _ => False
  | .iface _ _ => match y with
    | .nilIface => match P.underlying xt with
      | some (.interface _) => vcEq b false k
      | _ => False
    | _ => PureH P (do eqGuard b xt ox oy x y; binOp b xt x y) k
  | .pointer p => match y with
    | .pointer none => match P.underlying xt with
      | some (.pointer _) => match p with
        | none => vcEq b true k
        | some _ => vcEq b false k
      | _ => False
    | _ => PureH P (do eqGuard b xt ox oy x y; binOp b xt x y) k
  | .slice p _ _ => match y with
    | .slice none _ _ => match P.underlying xt with
      | some (.slice _) => vcEq b p.isNone k
      | _ => False
    | _ => False
  | _ => PureH P (do eqGuard b xt ox oy x y; binOp b xt x y) k

theorem vcInt_sound {P : Program} {b : BinOp} {xt : TypeId} {kx ky : IntKind} {a c : Int} {k : Value → Prop} (hk : isShift b = true ∨ kx = ky) (h : vcInt kx b a c k) :
    ∃ v, (∀ w, (binOp b xt (.int kx a) (.int ky c)).run P w = .ok v w) ∧ k v := by
  cases b <;> simp only [vcInt] at h
  case shl => exact ⟨_, fun w => by have := h.out.1; simp [binOp, Op.shift, Int.not_lt.2 this] <;> rfl, h.out.2⟩
  case shr => exact ⟨_, fun w => by have := h.out.1; simp [binOp, Op.shift, Int.not_lt.2 this] <;> rfl, h.out.2⟩
  all_goals obtain rfl : kx = ky := hk.resolve_left (by simp [isShift])
  case add => exact ⟨_, fun w => by simp [binOp, Op.intArith] <;> rfl, h.out⟩
  case sub => exact ⟨_, fun w => by simp [binOp, Op.intArith] <;> rfl, h.out⟩
  case mul => exact ⟨_, fun w => by simp [binOp, Op.intArith] <;> rfl, h.out⟩
  case quo => obtain ⟨h0, h⟩ := h.out; exact ⟨_, fun w => by simp [binOp, Op.intDiv, h0] <;> rfl, h⟩
  case rem => obtain ⟨h0, h⟩ := h.out; exact ⟨_, fun w => by simp [binOp, Op.intDiv, h0] <;> rfl, h⟩
  case and => exact ⟨_, fun w => by simp [binOp, Op.intBits] <;> rfl, h⟩
  case or => exact ⟨_, fun w => by simp [binOp, Op.intBits] <;> rfl, h⟩
  case xor => exact ⟨_, fun w => by simp [binOp, Op.intBits] <;> rfl, h⟩
  case andNot => exact ⟨_, fun w => by simp only [binOp, Op.intBits, ne_eq, not_true_eq_false, if_false]; rfl, h⟩
  all_goals exact ⟨_, fun w => by simp [binOp, Op.intCmp] <;> rfl, h⟩

theorem underlying_of {P : Program} {t : TypeId} {d : TypeDesc} (h : P.underlying t = some d) (w : World) : (underlying t).run P w = .ok d w := by
  unfold underlying
  simp only [Sem.run_bind, run_program, Result.andThen_ok, h]
  rfl
theorem vcEq_sound {P : Program} {b : BinOp} {xt : TypeId} {ox oy : Operand} {x y : Value} {r : Bool} {k : Value → Prop} (hg : ∀ w, (eqGuard b xt ox oy x y).run P w = .ok () w) (he : ∀ w, (Op.equal xt x y).run P w = .ok r w)
    (hb : ∀ w, (b = .eql → (binOp b xt x y).run P w = (do pure (.bool (← Op.equal xt x y)) : Sem Value).run P w) ∧ (b = .neq → (binOp b xt x y).run P w = (do pure (.bool (!(← Op.equal xt x y))) : Sem Value).run P w)) (h : vcEq b r k) :
    ∃ v, (∀ w, (do eqGuard b xt ox oy x y; binOp b xt x y : Sem Value).run P w = .ok v w) ∧ k v := by
  cases b <;> simp only [vcEq] at h
  case eql => exact ⟨_, fun w => by rw [Sem.run_bind, hg, Result.andThen_ok, (hb w).1 rfl]; simp [he], h⟩
  case neq => exact ⟨_, fun w => by rw [Sem.run_bind, hg, Result.andThen_ok, (hb w).2 rfl]; simp [he], h⟩
theorem equal_of {P : Program} {xt : TypeId} {x y : Value} {r : Bool} (h : ∀ d w, (Op.equalIn (d + 1) xt x y).run P w = .ok r w) (w : World) : (Op.equal xt x y).run P w = .ok r w := h 9999 w
theorem equal_slice_nil {P : Program} {xt e : TypeId} {p : Option Addr} {n c n' c' : Nat} (hu : P.underlying xt = some (.slice e)) (d : Nat) (w : World) : (Op.equalIn (d + 1) xt (.slice p n c) (.slice none n' c')).run P w = .ok p.isNone w := by
  cases p <;> simp [Op.equalIn, underlying_of hu]
theorem vcBin_sound {P : Program} {b : BinOp} {xt : TypeId} {ox oy : Operand} {x y : Value} {k : Value → Prop} (h : vcBin P b xt ox oy x y k) :
    ∃ v, (∀ w, (do eqGuard b xt ox oy x y; binOp b xt x y : Sem Value).run P w = .ok v w) ∧ k v := by
  unfold vcBin at h
  split at h
  · split at h
    · rename_i kx a _ ky c
      have g : ∀ w, (eqGuard b xt ox oy (.int kx a) (.int ky c)).run P w = .ok () w := fun w => by
        unfold eqGuard
        cases b <;> simp
      simp only [Sem.run_bind, g, Result.andThen_ok]
      split at h
      · exact vcInt_sound (.inl ‹_›) h
      · split at h
        · exact vcInt_sound (.inr (kindEq_spec ‹_›)) h
        · exact h.elim
    · exact h.elim
  · split at h
    · rename_i s _ t
      have g : ∀ w, (eqGuard b xt ox oy (.string s) (.string t)).run P w = .ok () w := fun w => by
        unfold eqGuard
        cases b <;> simp
      simp only [Sem.run_bind, g, Result.andThen_ok]
      cases b <;> simp only [vcStr] at h
      case add =>
        refine ⟨_, fun w => ?_, h.out.2⟩
        have := h.out.1
        simp only [binOp, Op.stringOp]
        rw [if_neg (by simp only [IntKind.max, IntKind.signed, IntKind.bits]; simp; omega)]
        rfl
      all_goals exact ⟨_, fun w => by simp only [binOp, Op.stringOp]; rfl, h⟩
    · exact h.elim
  · split at h
    · split at h
      · rename_i hu
        exact vcEq_sound (fun w => by simp [eqGuard]) (equal_of fun d w => by simp [Op.equalIn, underlying_of hu]) (fun w => ⟨fun e => by subst e; rfl, fun e => by subst e; rfl⟩) h
      · exact h.elim
    · exact h.elim
  · split at h
    · split at h
      · rename_i hu
        split at h
        · exact vcEq_sound (fun w => by simp [eqGuard]) (equal_of fun d w => by simp [Op.equalIn, underlying_of hu]) (fun w => ⟨fun e => by subst e; rfl, fun e => by subst e; rfl⟩) h
        · exact h.out
      · exact h.elim
    · split at h
      · rename_i hu
        exact vcEq_sound (fun w => by simp [eqGuard]) (equal_of fun d w => by simp [Op.equalIn, underlying_of hu]) (fun w => ⟨fun e => by subst e; rfl, fun e => by subst e; rfl⟩) h
      · exact h.elim
    · exact h.elim
  · split at h
    · split at h
      · rename_i hu
        exact vcEq_sound (fun w => by simp [eqGuard]) (equal_of fun d w => by simp [Op.equalIn, underlying_of hu]) (fun w => ⟨fun e => by subst e; rfl, fun e => by subst e; rfl⟩) h
      · exact h.elim
    · exact h.out
  · split at h
    · split at h
      · rename_i hu
        split at h
        · exact vcEq_sound (fun w => by simp [eqGuard]) (equal_of fun d w => by simp [Op.equalIn, underlying_of hu]) (fun w => ⟨fun e => by subst e; rfl, fun e => by subst e; rfl⟩) h
        · exact vcEq_sound (fun w => by simp [eqGuard]) (equal_of fun d w => by simp [Op.equalIn, underlying_of hu]) (fun w => ⟨fun e => by subst e; rfl, fun e => by subst e; rfl⟩) h
      · exact h.elim
    · exact h.out
  · split at h
    · split at h
      · rename_i hu
        exact vcEq_sound (fun w => by simp [eqGuard]) (equal_of fun d w => equal_slice_nil hu d w) (fun w => ⟨fun e => by subst e; rfl, fun e => by subst e; rfl⟩) h
      · exact h.elim
    · exact h.elim
  · exact h.out

/-- the numbers of a type and a field, taken out where they stand written -/
def sizeK (i : TypeInfo) (K : Nat → Prop) : Prop := match i with
  | ⟨_, _, s, _, _, _, _, _, _, _⟩ => K s
theorem sizeK_eq (i : TypeInfo) (K : Nat → Prop) : sizeK i K = K i.size := by cases i; rfl
def fieldK (f : Field) (K : TypeId → Nat → Prop) : Prop := match f with
  | ⟨_, t, o, _, _, _, _⟩ => K t o
theorem fieldK_eq (f : Field) (K : TypeId → Nat → Prop) : fieldK f K = K f.type f.offset := by cases f; rfl

def fieldOf (P : Program) (t : TypeId) (f : Nat) : Option (Field × Nat) :=
  match P.underlying t with
  | some (.struct fs) => match nth fs.toList f with
    | some fl => match P.info? fl.type with
      | some i => some (fl, i.size)
      | none => none
    | none => none
  | _ => none

def aggB (P : Program) (t : TypeId) : Option Bool :=
  match P.underlying t with
  | some (.struct _) => some true
  | some (.array _ _) => some true
  | some _ => some false
  | none => none

def cut (l : List Value) (off n : Nat) : List Value := (l.drop off).take n

/-- part of a value that lies in cells -/
def vcPart (P : Program) (t : TypeId) (cs : Array Value) (off : Nat) (k : Value → Prop) : Prop :=
  match aggB P t with
  | some true => match P.info? t with
    | some i => sizeK i fun s => k (.agg (cs.extract off (off + s)))
    | none => False
  | some false => ElemH cs off k
  | none => False

theorem typeInfo_of {P : Program} {t : TypeId} {d : TypeInfo} (h : P.info? t = some d) (w : World) : (typeInfo t).run P w = .ok d w := by
  unfold typeInfo
  simp only [Sem.run_bind, run_program, Result.andThen_ok, h]
  rfl
theorem sizeOf_of {P : Program} {t : TypeId} {i : TypeInfo} (h : P.info? t = some i) (w : World) : (sizeOf t).run P w = .ok i.size w := by
  simp [sizeOf, typeInfo_of h]
theorem isAgg_of {P : Program} {t : TypeId} {b : Bool} (h : aggB P t = some b) (w : World) : (isAgg t).run P w = .ok b w := by
  unfold aggB at h
  unfold isAgg
  cases hd : P.underlying t with
  | none => rw [hd] at h; cases h
  | some d =>
    rw [hd] at h
    simp only [Sem.run_bind, underlying_of hd, Result.andThen_ok]
    cases d <;> cases h <;> rfl

theorem vcPart_sound {P : Program} {t : TypeId} {cs : Array Value} {off : Nat} {k : Value → Prop} (h : vcPart P t cs off k) :
    ∃ v, (∀ w, (part t cs off).run P w = .ok v w) ∧ k v := by
  unfold vcPart at h
  split at h
  · rename_i hb
    split at h
    · rename_i i hi
      rw [sizeK_eq] at h
      exact ⟨_, fun w => by simp [part, isAgg_of hb, sizeOf_of hi], h⟩
    · exact h.elim
  · rename_i hb
    obtain ⟨v, hv, hk⟩ := h.out
    exact ⟨v, fun w => by simp [part, isAgg_of hb, hv], hk⟩
  · exact h.elim


structure IdxA (a : Option Addr) (n size : Nat) (i : Int) (K : Addr → Prop) : Prop where
  out : 0 ≤ i ∧ i < n ∧ ∃ p, a = some p ∧ K (p.add (i.toNat * size))
def sliceBase (a : Option Addr) (m l size : Nat) : Option Addr := if m = l then a else a.map (·.add (l * size))

/-- go on with an address some cells on -/
def atK (p : Addr) (n : Nat) (K : Addr → Prop) : Prop := match p with
  | ⟨b, o, s⟩ => match s with
    | none => K ⟨b, o + n, none⟩
    | some _ => False
/-- an address some cells on -/
def padd (p : Addr) (n : Nat) : Addr := match p with
  | ⟨b, o, none⟩ => ⟨b, o + n, none⟩
  | a => a.add n
theorem padd_eq (p : Addr) (n : Nat) : padd p n = p.add n := by
  obtain ⟨b, o, s⟩ := p
  cases s with
  | none =>
    simp only [padd, Addr.add]
    split
    · rename_i h; simp [h]
    · rfl
  | some _ => rfl
theorem atK_spec {p : Addr} {n : Nat} {K : Addr → Prop} (h : atK p n K) : K (p.add n) := by
  obtain ⟨b, o, s⟩ := p
  cases s with
  | none =>
    rw [← padd_eq]
    exact h
  | some _ => exact h.elim

def vcBounds (cap len : Nat) (lo hi : Option Value) (K : Nat → Nat → Prop) : Prop :=
  match hi with
  | none => match lo with
    | none => K 0 len
    | some (.int _ i) => BndH i len fun l => K l len
    | some _ => False
  | some (.int _ j) => BndH j cap fun h => match lo with
    | none => K 0 h
    | some (.int _ i) => BndH i h fun l => K l h
    | some _ => False
  | some _ => False

def evO (env : Env) : Option Operand → Option (Option Value)
  | none => some none
  | some x => match ev env x with
    | some v => some (some v)
    | none => none

def vcSlice (P : Program) (t : TypeId) (x : Value) (lo hi : Option Value) (k : Value → Prop) : Prop :=
  match P.underlying t with
  | some .string => match x with
    | .string s => vcBounds s.size s.size lo hi fun l h => k (.string (s.extract l h))
    | _ => False
  | some (.slice e) => match x with
    | .slice a len cap => match P.info? e with
      | some i => match lo with
        | none => vcBounds cap len none hi fun _ h => k (.slice a h cap)
        | some l => sizeK i fun s => vcBounds cap len (some l) hi fun l h => k (.slice (sliceBase a cap l s) (h - l) (cap - l))
      | none => False
    | _ => False
  | some (.array n e) => match x with
    | .pointer (some a) => match P.info? e with
      | some i => match lo with
        | none => vcBounds n n none hi fun _ h => k (.slice (some a) h n)
        | some l => sizeK i fun s => vcBounds n n (some l) hi fun l h => k (.slice (sliceBase (some a) n l s) (h - l) (n - l))
      | none => False
    | _ => False
  | _ => False

/-- x[:h:m] of a slice -/
def vcSlice3 (P : Program) (t : TypeId) (x : Value) (hi mx : Value) (k : Value → Prop) : Prop :=
  match P.underlying t with
  | some (.slice e) => match x with
    | .slice a _ cap => match P.info? e with
      | some _ => match mx with
        | .int _ m => match hi with
          | .int _ j => BndH m cap fun m => BndH j m fun h => k (.slice a h m)
          | _ => False
        | _ => False
      | none => False
    | _ => False
  | _ => False

def vcConv (P : Program) (s d : TypeId) (x : Value) (k : Value → Prop) : Prop :=
  match x with
  | .int _ n => match P.underlying s with
    | some (.int _) => match P.underlying d with
      | some (.int kd) => ArithH kd n fun n => k (.int kd n)
      | _ => False
    | _ => False
  | .string t => match P.underlying s with
    | some .string => match P.underlying d with
      | some .string => k (.string t)
      | _ => False
    | _ => False
  | _ => False

def isIfaceB (P : Program) (t : TypeId) : Bool :=
  match P.underlying t with
  | some (.interface _) => true
  | some _ => false
  | none => true

def vcLen (P : Program) (t : TypeId) (x : Value) (k : Value → Prop) : Prop :=
  match x with
  | .slice _ n _ => match P.underlying t with
    | some (.slice _) => k (.int .i64 n)
    | _ => False
  | .string s => match P.underlying t with
    | some .string => k (.int .i64 s.size)
    | _ => False
  | .map none => match P.underlying t with
    | some (.map _ _) => k (.int .i64 0)
    | _ => False
  | _ => False

def vcUn (op : UnOp) (x : Value) (k : Value → Prop) : Prop :=
  match x with
  | .bool b => match op with
    | .not => k (.bool !b)
    | _ => False
  | .int kd n => match op with
    | .neg => ArithH kd (0 - n) fun n => k (.int kd n)
    | .xor => k (.int kd (bitB kd .xor (if kd.signed then -1 else kd.max) n))
    | _ => False
  | _ => False

def vcField (P : Program) (t : TypeId) (x : Value) (f : Nat) (k : Value → Prop) : Prop :=
  match x with
  | .agg cs => match P.underlying t with
    | some (.struct fs) => match nth fs.toList f with
      | some fl => fieldK fl fun t o => vcPart P t cs o k
      | none => False
    | _ => False
  | _ => False

def vcIndex (P : Program) (t : TypeId) (x i : Value) (k : Value → Prop) : Prop :=
  match i with
  | .int _ j => match x with
    | .string s => match P.underlying t with
      | some .string => IdxH j s.size fun n => k (.int .u8 (s.data.toList.getD n 0).toNat)
      | _ => False
    | .agg cs => match P.underlying t with
      | some (.array len e) => match P.info? e with
        | some i => sizeK i fun s => match s with
          | 1 => IdxH j len fun n => vcPart P e cs n k
          | s => IdxH j len fun n => vcPart P e cs (n * s) k
        | none => False
      | _ => False
    | _ => False
  | _ => False

def vcIndexAddr (P : Program) (t : TypeId) (x i : Value) (k : Value → Prop) : Prop :=
  match i with
  | .int _ j => match x with
    | .slice a len _ => match P.underlying t with
      | some (.slice e) => match P.info? e with
        | some i => sizeK i fun s => match s with
          | 1 => IdxA a len 1 j fun p => k (.pointer (some p))
          | s => IdxA a len s j fun p => k (.pointer (some p))
        | none => False
      | _ => False
    | .pointer (some p) => match P.underlying t with
      | some (.array len e) => match P.info? e with
        | some i => sizeK i fun s => match s with
          | 1 => IdxH j len fun n => atK p n fun p => k (.pointer (some p))
          | s => IdxH j len fun n => atK p (n * s) fun p => k (.pointer (some p))
        | none => False
      | _ => False
    | _ => False
  | _ => False

def vcFieldAddr (P : Program) (t : TypeId) (x : Value) (f : Nat) (k : Value → Prop) : Prop :=
  match x with
  | .pointer (some p) => match fieldOf P t f with
    | some (fl, n) => match n with
      | 0 => False
      | _ + 1 => fieldK fl fun _ o => atK p o fun p => k (.pointer (some p))
    | none => False
  | _ => False

def isNilB : Value → Bool
  | .pointer none => true
  | .nilIface => true
  | .nilFunc => true
  | .func (.method _) _ _ => true
  | _ => false

def vcNil (x : Value) (k : Value → Prop) : Prop :=
  match x with
  | .pointer (some p) => k (.pointer (some p))
  | .slice a n c => k (.slice a n c)
  | .iface t v => k (.iface t v)
  | .map r => k (.map r)
  | .func (.func f) a c => k (.func (.func f) a c)
  | _ => False

def vcMinMax (mx : Bool) (x y : Value) (k : Value → Prop) : Prop :=
  match x with
  | .int kd a => match y with
    | .int _ b => match mx with
      | true => k (.int kd (max a b))
      | false => k (.int kd (min a b))
    | _ => False
  | _ => False

/-- the operations of kind 0 -/
def vcPure (P : Program) (env : Env) (op : Op) (k : Value → Prop) : Prop :=
  match op with
  | .move x | .assign x => match ev env x with
    | some v => k v
    | none => False
  | .nilCheck x => match ev env x with
    | some v => vcNil v k
    | none => False
  | .binOp b xt x y _ => match ev env x with
    | some vx => match ev env y with
      | some vy => vcBin P b xt x y vx vy k
      | none => False
    | none => False
  | .unOp u _ x => match ev env x with
    | some vx => vcUn u vx k
    | none => False
  | .makeInterface t x => match ev env x with
    | some vx => match isIfaceB P t with
      | false => k (.iface t vx)
      | true => False
    | none => False
  | .slice t x lo hi mx => match mx with
    | none => match ev env x with
      | some vx => match evO env lo with
        | some l => match evO env hi with
          | some h => vcSlice P t vx l h k
          | none => False
        | none => False
      | none => False
    | some mx => match lo with
      | none => match hi with
        | some hi => match ev env x with
          | some vx => match ev env hi with
            | some vh => match ev env mx with
              | some vm => vcSlice3 P t vx vh vm k
              | none => False
            | none => False
          | none => False
        | none => False
      | some _ => False
  | .field t x f => match ev env x with
    | some vx => vcField P t vx f k
    | none => False
  | .indexAddr t x i => match ev env x with
    | some vx => match ev env i with
      | some vi => vcIndexAddr P t vx vi k
      | none => False
    | none => False
  | .index t x i => match ev env x with
    | some vx => match ev env i with
      | some vi => vcIndex P t vx vi k
      | none => False
    | none => False
  | .extract x i => match ev env x with
    | some (.tuple vs) => match nth vs.toList i with
      | some v => k v
      | none => False
    | _ => False
  | .typeAssert x xt at_ ok => match ev env x with
    | some vx => PureH P (Instr.typeAssert vx xt at_ ok) k
    | none => False
  | .fieldAddr t x f => match ev env x with
    | some vx => vcFieldAddr P t vx f k
    | none => False
  | .convert s d x => match ev env x with
    | some vx => vcConv P s d vx k
    | none => False
  | .call c => match c.callee with
    | .builtin .len => match evs env c.args.toList with
      | some [v] => match nth c.argTypes.toList 0 with
        | some t => vcLen P t v k
        | none => False
      | _ => False
    | .builtin .min => match evs env c.args.toList with
      | some [x, y] => vcMinMax false x y k
      | _ => False
    | .builtin .max => match evs env c.args.toList with
      | some [x, y] => vcMinMax true x y k
      | _ => False
    | _ => False
  | _ => False

theorem vcBounds_sound {P : Program} {b : Bool} {cap len : Nat} {lo hi : Option Value} {K : Nat → Nat → Prop} (h : vcBounds cap len lo hi K) (hb : b = true ∨ cap = len) :
    ∃ l u, (∀ w, (Instr.sliceBounds b len cap lo hi none).run P w = .ok (l, u, cap) w) ∧ (lo = none → l = 0) ∧ K l u := by
  have bound : ∀ {k : IntKind} {i : Int} {n : Nat} {c : BoundsCode}, 0 ≤ i → i ≤ n → ∀ w, (Instr.sliceBound (.int k i) n c).run P w = .ok i.toNat w := by
    intro k i n c h0 h1 w
    simp [Instr.sliceBound, asIntOf, h0, h1]
  unfold vcBounds at h
  split at h
  · split at h
    · exact ⟨0, len, fun w => by simp [Instr.sliceBounds], fun _ => rfl, h⟩
    · obtain ⟨h0, h1, hk⟩ := h.out
      exact ⟨_, len, fun w => by simp [Instr.sliceBounds, bound h0 h1], fun e => (by cases e), hk⟩
    · exact h.elim
  · obtain ⟨h0, h1, h⟩ := h.out
    split at h
    · exact ⟨0, _, fun w => by simp [Instr.sliceBounds, bound h0 h1], fun _ => rfl, h⟩
    · obtain ⟨g0, g1, hk⟩ := h.out
      exact ⟨_, _, fun w => by simp [Instr.sliceBounds, bound h0 h1, bound g0 g1], fun e => (by cases e), hk⟩
    · exact h.elim
  · exact h.elim

theorem vcSlice_sound {P : Program} {t : TypeId} {x : Value} {lo hi : Option Value} {k : Value → Prop} (h : vcSlice P t x lo hi k) :
    ∃ v, (∀ w, (Instr.sliceAt t x lo hi none).run P w = .ok v w) ∧ k v := by
  unfold vcSlice at h
  split at h
  · rename_i hu
    split at h
    · rename_i s
      obtain ⟨l, u, hr, _, hk⟩ := vcBounds_sound (P := P) (b := false) h (.inr rfl)
      exact ⟨_, fun w => by simp [Instr.sliceAt, Instr.slice, underlying_of hu, hr], hk⟩
    · exact h.elim
  · rename_i e hu
    split at h
    · rename_i a len cap
      split at h
      · rename_i i hi
        split at h
        · obtain ⟨l, u, hr, h0, hk⟩ := vcBounds_sound (P := P) (b := true) h (.inl rfl)
          have h0 := h0 rfl
          subst h0
          refine ⟨_, fun w => ?_, hk⟩
          simp [Instr.sliceAt, Instr.slice, underlying_of hu, hr, sizeOf_of hi]
          cases a <;> simp [Addr.add]
        · rw [sizeK_eq] at h
          obtain ⟨l, u, hr, h0, hk⟩ := vcBounds_sound (P := P) (b := true) h (.inl rfl)
          exact ⟨_, fun w => by simp [Instr.sliceAt, Instr.slice, underlying_of hu, hr, sizeOf_of hi, sliceBase], hk⟩
      · exact h.elim
    · exact h.elim
  · rename_i n e hu
    split at h
    · rename_i a
      split at h
      · rename_i i hi
        split at h
        · obtain ⟨l, u, hr, h0, hk⟩ := vcBounds_sound (P := P) (b := false) h (.inr rfl)
          have h0 := h0 rfl
          subst h0
          refine ⟨_, fun w => ?_, hk⟩
          simp [Instr.sliceAt, underlying_of hu, Instr.sureAddr, hr, sizeOf_of hi]
          simp [Addr.add]
        · rw [sizeK_eq] at h
          obtain ⟨l, u, hr, h0, hk⟩ := vcBounds_sound (P := P) (b := false) h (.inr rfl)
          refine ⟨_, fun w => ?_, hk⟩
          simp [Instr.sliceAt, underlying_of hu, Instr.sureAddr, hr, sizeOf_of hi, sliceBase]
          split <;> rfl
      · exact h.elim
    · exact h.elim
  · exact h.elim


theorem vcSlice3_sound {P : Program} {t : TypeId} {x hi mx : Value} {k : Value → Prop} (h : vcSlice3 P t x hi mx k) :
    ∃ v, (∀ w, (Instr.sliceAt t x none (some hi) (some mx)).run P w = .ok v w) ∧ k v := by
  have bound : ∀ {k : IntKind} {i : Int} {n : Nat} {c : BoundsCode}, 0 ≤ i → i ≤ n → ∀ w, (Instr.sliceBound (.int k i) n c).run P w = .ok i.toNat w := by
    intro k i n c h0 h1 w
    simp [Instr.sliceBound, asIntOf, h0, h1]
  unfold vcSlice3 at h
  split at h
  · rename_i e hu
    split at h
    · rename_i a len cap
      split at h
      · rename_i i hi
        split at h
        · split at h
          · obtain ⟨h0, h1, h⟩ := h.out
            obtain ⟨g0, g1, hk⟩ := h.out
            refine ⟨_, fun w => ?_, hk⟩
            simp [Instr.sliceAt, Instr.slice, Instr.sliceBounds, underlying_of hu, bound h0 h1, bound g0 g1, sizeOf_of hi]
            cases a <;> simp [Addr.add]
          · exact h.elim
        · exact h.elim
      · exact h.elim
    · exact h.elim
  · exact h.elim

theorem value_of {P : Program} {s : Sem Value} {v : Value} (h : ∀ w, s.run P w = .ok v w) (w : World) : (do pure (.value (← s)) : Sem Next).run P w = .ok (.value v) w := by
  simp [h]

theorem vcConv_sound {P : Program} {s d : TypeId} {x : Value} {k : Value → Prop} (h : vcConv P s d x k) : ∃ v, (∀ w, (convert s d x).run P w = .ok v w) ∧ k v := by
  unfold vcConv at h
  split at h
  · split at h
    · rename_i hs
      split at h
      · rename_i hd
        exact ⟨_, fun w => by simp [convert, underlying_of hs, underlying_of hd, Conv.intToInt] <;> rfl, h.out⟩
      · exact h.elim
    · exact h.elim
  · split at h
    · rename_i hs
      split at h
      · rename_i hd
        exact ⟨_, fun w => by simp [convert, underlying_of hs, underlying_of hd], h⟩
      · exact h.elim
    · exact h.elim
  · exact h.elim

theorem vcLen_sound {P : Program} {t : TypeId} {ts : Array TypeId} {ty : TypeId} {x : Value} {k : Value → Prop} (ht : nth ts.toList 0 = some t) (h : vcLen P t x k) :
    ∃ v, (∀ w, (Builtin.len_ ts ty #[x]).run P w = .ok v w) ∧ k v := by
  have ht : ts[0]? = some t := by rw [nth_eq] at ht; simpa using ht
  unfold vcLen at h
  split at h
  all_goals (try exact h.elim)
  all_goals
    split at h
    · rename_i hu
      exact ⟨_, fun w => by simp [Builtin.len_, ht, underlying_of hu, goInt], h⟩
    · exact h.elim

theorem vcUn_sound {P : Program} {op : UnOp} {x : Value} {k : Value → Prop} (h : vcUn op x k) : ∃ v, (∀ w, (Op.unary op x).run P w = .ok v w) ∧ k v := by
  unfold vcUn at h
  split at h
  · split at h
    · exact ⟨_, fun w => by simp [Op.unary], h⟩
    · exact h.elim
  · split at h
    · exact ⟨_, fun w => by simp [Op.unary, Op.intArith] <;> rfl, h.out⟩
    · exact ⟨_, fun w => by simp only [Op.unary, Op.intBits]; rfl, h⟩
    · exact h.elim
  · exact h.elim

theorem vcField_sound {P : Program} {t : TypeId} {x : Value} {f : Nat} {k : Value → Prop} (h : vcField P t x f k) : ∃ v, (∀ w, (Instr.field t x f).run P w = .ok v w) ∧ k v := by
  unfold vcField at h
  split at h
  · split at h
    · rename_i fs hu
      split at h
      · rename_i fl hf
        rw [nth_eq] at hf
        have hf : fs[f]? = some fl := by simpa using hf
        rw [fieldK_eq] at h
        obtain ⟨v, hv, hk⟩ := vcPart_sound h
        exact ⟨v, fun w => by simp [Instr.field, underlying_of hu, hf, asAgg, hv], hk⟩
      · exact h.elim
    · exact h.elim
  · exact h.elim

theorem vcIndex_sound {P : Program} {t : TypeId} {x i : Value} {k : Value → Prop} (h : vcIndex P t x i k) : ∃ v, (∀ w, (Instr.index t x i).run P w = .ok v w) ∧ k v := by
  unfold vcIndex at h
  split at h
  · split at h
    · rename_i j _ s
      split at h
      · rename_i hu
        obtain ⟨h0, h1, hk⟩ := h.out
        refine ⟨_, fun w => ?_, hk⟩
        have hlt : j.toNat < s.size := by omega
        have hlt' : j.toNat < s.data.toList.length := by simpa using hlt
        have e1 : s[j.toNat]? = some (s.data.toList.getD j.toNat 0) := by
          rw [getElem?_pos s j.toNat hlt, List.getD_eq_getElem?_getD, List.getElem?_eq_getElem hlt']
          rfl
        simp only [Instr.index, asIntOf, Sem.run_bind, Sem.run_pure, Result.andThen_ok, underlying_of hu, if_pos h0, e1]
      · exact h.elim
    · rename_i kk j _ cs
      split at h
      · rename_i len e hu
        split at h
        · rename_i i hi
          rw [sizeK_eq] at h
          have h : IdxH j len fun n => vcPart P e cs (n * i.size) k := by
            split at h
            · rename_i hs; rw [hs]; simpa using h
            · exact h
          obtain ⟨h0, h1, hk⟩ := h.out
          obtain ⟨v, hv, hk⟩ := vcPart_sound hk
          refine ⟨v, fun w => ?_, hk⟩
          simp only [Instr.index, asIntOf, Sem.run_bind, Sem.run_pure, Result.andThen_ok, underlying_of hu, if_pos (And.intro h0 h1), sizeOf_of hi, hv]
        · exact h.elim
      · exact h.elim
    · exact h.elim
  · exact h.elim

theorem vcIndexAddr_sound {P : Program} {t : TypeId} {x i : Value} {k : Value → Prop} (h : vcIndexAddr P t x i k) : ∃ v, (∀ w, (Instr.indexAt t x i).run P w = .ok v w) ∧ k v := by
  unfold vcIndexAddr at h
  split at h
  · split at h
    · rename_i kk j _ a len cap
      split at h
      · rename_i e hu
        split at h
        · rename_i i hi
          rw [sizeK_eq] at h
          have h : IdxA a len i.size j fun p => k (.pointer (some p)) := by
            split at h
            · rename_i hs; rw [hs]; exact h
            · exact h
          obtain ⟨h0, h1, p, rfl, hk⟩ := h.out
          refine ⟨_, fun w => ?_, hk⟩
          simp only [Instr.indexAt, asIntOf, Sem.run_bind, Sem.run_pure, Result.andThen_ok, underlying_of hu, if_pos (And.intro h0 h1), sizeOf_of hi]
        · exact h.elim
      · exact h.elim
    · rename_i kk j _ p
      split at h
      · rename_i len e hu
        split at h
        · rename_i i hi
          rw [sizeK_eq] at h
          have h : IdxH j len fun n => atK p (n * i.size) fun p => k (.pointer (some p)) := by
            split at h
            · rename_i hs; rw [hs]; simpa using h
            · exact h
          obtain ⟨h0, h1, hk⟩ := h.out
          have hk := atK_spec hk
          refine ⟨_, fun w => ?_, hk⟩
          simp only [Instr.indexAt, asIntOf, Sem.run_bind, Sem.run_pure, Result.andThen_ok, underlying_of hu, Instr.sureAddr, if_pos (And.intro h0 h1), sizeOf_of hi]
        · exact h.elim
      · exact h.elim
    · exact h.elim
  · exact h.elim

theorem vcFieldAddr_sound {P : Program} {t : TypeId} {x : Value} {f : Nat} {k : Value → Prop} (h : vcFieldAddr P t x f k) : ∃ v, (∀ w, (Instr.fieldAt t x f).run P w = .ok v w) ∧ k v := by
  unfold vcFieldAddr at h
  split at h
  · rename_i p
    split at h
    · rename_i fl n hf
      split at h
      · exact h.elim
      · rename_i m
        unfold fieldOf at hf
        split at hf
        · rename_i fs hu
          split at hf
          · rename_i fl' hn
            split at hf
            · rename_i i hi
              obtain ⟨rfl, hsz⟩ : fl' = fl ∧ i.size = m + 1 := by simpa using hf
              rw [nth_eq] at hn
              have hn : fs[f]? = some fl' := by simpa using hn
              rw [fieldK_eq] at h
              refine ⟨_, fun w => ?_, atK_spec h⟩
              have hz : i.size ≠ 0 := by omega
              simp only [Instr.fieldAt, Sem.run_bind, Sem.run_pure, Result.andThen_ok, underlying_of hu, hn, Instr.sureAddr, fieldPlace, sizeOf_of hi, if_neg hz]
            · cases hf
          · cases hf
        · cases hf
    · exact h.elim
  · exact h.elim

theorem vcPure_sound {P : Program} {env : Env} {a : Act} (ha : Agrees env a) {o : Oper} {k : Value → Prop} (h : vcPure P env o.op k) :
    ∃ v, (∀ w, (execOp a.eval o).run P w = .ok (.value v) w) ∧ k v := by
  obtain ⟨dst, op, type, pos, after, guard⟩ := o
  cases op <;> simp only [vcPure] at h <;> try exact h.elim
  case move x =>
    split at h
    · rename_i v hv
      exact ⟨v, fun w => by simp [execOp, ha.ev hv], h⟩
    · exact h.elim
  case assign x =>
    split at h
    · rename_i v hv
      exact ⟨v, fun w => by simp [execOp, ha.ev hv], h⟩
    · exact h.elim
  case nilCheck x =>
    split at h
    · rename_i v hv
      unfold vcNil at h
      simp only [execOp, ha.ev hv]
      split at h <;> first | exact h.elim | exact ⟨_, fun w => rfl, h⟩
    · exact h.elim
  case binOp b xt x y yt =>
    split at h
    · rename_i vx hx
      split at h
      · rename_i vy hy
        obtain ⟨v, hv, hk⟩ := vcBin_sound h
        refine ⟨v, fun w => ?_, hk⟩
        have := hv w
        simp only [Sem.run_bind] at this
        simp only [execOp, ha.ev hx, ha.ev hy, Sem.run_bind]
        rw [this]
        rfl
      · exact h.elim
    · exact h.elim
  case unOp u t x =>
    split at h
    · rename_i vx hx
      obtain ⟨v, hv, hk⟩ := vcUn_sound (P := P) h
      exact ⟨v, fun w => by simp only [execOp, ha.ev hx]; exact value_of hv w, hk⟩
    · exact h.elim
  case convert s d x =>
    split at h
    · rename_i vx hx
      obtain ⟨v, hv, hk⟩ := vcConv_sound h
      exact ⟨v, fun w => by simp only [execOp, ha.ev hx]; exact value_of hv w, hk⟩
    · exact h.elim
  case makeInterface t x =>
    split at h
    · rename_i vx hx
      split at h
      · rename_i hi
        unfold isIfaceB at hi
        cases hu : P.underlying t with
        | none => rw [hu] at hi; cases hi
        | some d =>
          rw [hu] at hi
          refine ⟨_, fun w => ?_, h⟩
          simp only [execOp, ha.ev hx, Instr.makeInterface, Sem.run_bind, underlying_of hu, Result.andThen_ok]
          cases d <;> first | rfl | (cases hi)
      · exact h.elim
    · exact h.elim
  case slice t x lo hi mx =>
    split at h
    · split at h
      · rename_i vx hx
        split at h
        · rename_i l hl
          split at h
          · rename_i u hu
            obtain ⟨v, hv, hk⟩ := vcSlice_sound h
            refine ⟨v, fun w => ?_, hk⟩
            have e1 : lo.map a.eval = l := by
              cases lo with
              | none => simp [evO] at hl; exact hl
              | some y =>
                simp only [evO] at hl
                split at hl
                · rename_i u hu; cases hl; simp [ha.ev hu]
                · cases hl
            have e2 : hi.map a.eval = u := by
              cases hi with
              | none => simp [evO] at hu; exact hu
              | some y =>
                simp only [evO] at hu
                split at hu
                · rename_i u hu'; cases hu; simp [ha.ev hu']
                · cases hu
            simp only [execOp, ha.ev hx, e1, e2, Option.map_none]
            exact value_of hv w
          · exact h.elim
        · exact h.elim
      · exact h.elim
    · split at h
      · split at h
        · split at h
          · rename_i vx hx
            split at h
            · rename_i vh hh
              split at h
              · rename_i vm hm
                obtain ⟨v, hv, hk⟩ := vcSlice3_sound h
                refine ⟨v, fun w => ?_, hk⟩
                simp only [execOp, ha.ev hx, ha.ev hh, ha.ev hm, Option.map_none, Option.map_some]
                exact value_of hv w
              · exact h.elim
            · exact h.elim
          · exact h.elim
        · exact h.elim
      · exact h.elim
  case fieldAddr t x f =>
    split at h
    · rename_i vx hx
      obtain ⟨v, hv, hk⟩ := vcFieldAddr_sound h
      exact ⟨v, fun w => by simp only [execOp, ha.ev hx]; exact value_of hv w, hk⟩
    · exact h.elim
  case field t x f =>
    split at h
    · rename_i vx hx
      obtain ⟨v, hv, hk⟩ := vcField_sound h
      exact ⟨v, fun w => by simp only [execOp, ha.ev hx]; exact value_of hv w, hk⟩
    · exact h.elim
  case indexAddr t x i =>
    split at h
    · rename_i vx hx
      split at h
      · rename_i vi hi
        obtain ⟨v, hv, hk⟩ := vcIndexAddr_sound h
        exact ⟨v, fun w => by simp only [execOp, ha.ev hx, ha.ev hi]; exact value_of hv w, hk⟩
      · exact h.elim
    · exact h.elim
  case index t x i =>
    split at h
    · rename_i vx hx
      split at h
      · rename_i vi hi
        obtain ⟨v, hv, hk⟩ := vcIndex_sound h
        exact ⟨v, fun w => by simp only [execOp, ha.ev hx, ha.ev hi]; exact value_of hv w, hk⟩
      · exact h.elim
    · exact h.elim
  case typeAssert x xt at_ ok =>
    split at h
    · rename_i vx hx
      obtain ⟨v, hv, hk⟩ := h.out
      exact ⟨v, fun w => by simp only [execOp, ha.ev hx]; exact value_of hv w, hk⟩
    · exact h.elim
  case extract x i =>
    split at h
    · rename_i vs hx
      split at h
      · rename_i v hv
        rw [nth_eq] at hv
        have hv : vs[i]? = some v := by simpa using hv
        exact ⟨v, fun w => by simp only [execOp, ha.ev hx]; exact value_of (fun w => by simp [Instr.extract, hv]) w, h⟩
      · exact h.elim
    · exact h.elim
  case call c =>
    obtain ⟨callee, args, argTypes⟩ := c
    have eargs : ∀ {vs : List Value}, evs env args.toList = some vs → args.map a.eval = vs.toArray := fun {vs} he => by
      have := ha.evs he
      apply Array.toList_inj.1
      rw [Array.toList_map, this]
    cases callee <;> simp only at h <;> try exact h.elim
    rename_i b
    cases b <;> simp only at h <;> try exact h.elim
    case len =>
      split at h
      · rename_i v hv
        split at h
        · rename_i t ht
          obtain ⟨u, hu, hk⟩ := vcLen_sound (ty := type) ht h
          refine ⟨u, fun w => ?_, hk⟩
          simp only [execOp, resolve, eargs hv, Sem.run_bind, Sem.run_pure, Result.andThen_ok, invoke, builtin, hu]
        · exact h.elim
      · exact h.elim
    case min =>
      split at h
      · rename_i x y hv
        unfold vcMinMax at h
        split at h
        · split at h
          · rename_i kd a1 _ _ b1
            refine ⟨_, fun w => ?_, h⟩
            simp only [execOp, resolve, eargs hv, Sem.run_bind, Sem.run_pure, Result.andThen_ok, invoke, builtin, Builtin.min_, List.foldlM, Builtin.min2]
            have : (if b1 < a1 then b1 else a1) = min a1 b1 := by omega
            rw [this]
          · exact h.elim
        · exact h.elim
      · exact h.elim
    case max =>
      split at h
      · rename_i x y hv
        unfold vcMinMax at h
        split at h
        · split at h
          · rename_i kd a1 _ _ b1
            refine ⟨_, fun w => ?_, h⟩
            simp only [execOp, resolve, eargs hv, Sem.run_bind, Sem.run_pure, Result.andThen_ok, invoke, builtin, Builtin.max_, List.foldlM, Builtin.max2]
            have : (if b1 > a1 then b1 else a1) = max a1 b1 := by omega
            rw [this]
          · exact h.elim
        · exact h.elim
      · exact h.elim


/- ---------- one operation, whatever its kind ---------- -/
def putE (env : Env) (dst : Option Tmp) (v : Value) : Env :=
  match dst with
  | some d => (d, v) :: env
  | none => env

/-- which calls are left to whoever proves, and what they are asked -/
def vcOp (P : Program) (o : Oper) (env : Env) (H : Heap) (X : Panics) (k : Value → Heap → Prop) : Prop :=
  match o.op with
  | .load t x => match ev env x with
    | some v => SemH P (Instr.loadAt t v) H k
    | none => False
  | .store t x y => match ev env x with
    | some vx => match ev env y with
      | some vy => DoH P (Instr.storeAt t vx vy) H fun H' => k undef H'
      | none => False
    | none => False
  | .alloc t => SemH P (Instr.alloc t true (.tuple #[])) H k
  | .box t x => match ev env x with
    | some v => SemH P (Instr.box t v) H k
    | none => False
  | .buildSlice t n parts => match evs env (parts.toList.map (·.2)) with
    | some vs => SemH P (Instr.buildSlice t n ((parts.toList.map (·.1)).zip vs).toArray) H k
    | none => False
  | .build t parts => match evs env (parts.toList.map (·.2)) with
    | some vs => PureH P (Instr.build t ((parts.toList.map (·.1)).zip vs).toArray) fun v => k v H
    | none => False
  | .makeSlice t l c => match ev env l with
    | some vl => match ev env c with
      | some vc => SemH P (Instr.makeSlice t vl vc) H k
      | none => False
    | none => False
  | .makeMap t r => match evO env r with
    | some r => SemH P (Instr.makeMap t r) H k
    | none => False
  | .makeFunc fn first captured => match evs env first.toList with
    | some f => match evs env captured.toList with
      | some c => SemH P (Instr.makeFunc fn f.toArray c.toArray) H k
      | none => False
    | none => False
  | .pick c x y => match ev env c with
    | some (.bool true) => match ev env x with
      | some v => k v H
      | none => False
    | some (.bool false) => match ev env y with
      | some v => k v H
      | none => False
    | _ => False
  | .lookup t m i ok => match ev env m with
    | some vm => match ev env i with
      | some vi => SemH P (Instr.lookup t vm vi ok) H k
      | none => False
    | none => False
  | .mapUpdate t m i x | .insert t m i x => match ev env m with
    | some vm => match ev env i with
      | some vi => match ev env x with
        | some vx => DoH P (Instr.mapUpdate t vm vi vx) H fun H' => k undef H'
        | none => False
      | none => False
    | none => False
  | .mapEntry t m i => match ev env m with
    | some vm => match ev env i with
      | some vi => SemH P (Instr.mapEntry t vm vi) H k
      | none => False
    | none => False
  | .entryStore t m i x => match ev env m with
    | some vm => match ev env i with
      | some vi => match ev env x with
        | some vx => DoH P (Instr.entryStore t vm vi vx) H fun H' => k undef H'
        | none => False
      | none => False
    | none => False
  | .range t x => match ev env x with
    | some v => SemH P (Instr.range t v) H k
    | none => False
  | .next x s => match ev env x with
    | some v => SemH P (Instr.next v s o.type) H k
    | none => False
  | .entry x => match ev env x with
    | some v => SemH P (Instr.entry v) H k
    | none => False
  | .sliceToArrayPointer t x => match ev env x with
    | some v => SemH P (Instr.arrayAt t v) H k
    | none => False
  | .panic x => match ev env x with
    | some (.iface t v) => PanicH (.iface t v) H X
    | _ => False
  | .waits g => SemH P (Instr.waits g) H k
  | .ready g => DoH P (Instr.ready g) H fun H' => k undef H'
  | .convert s d x => match ev env x with
    | some (.int kd n) => vcConv P s d (.int kd n) fun v => k v H
    | some (.string t) => match P.underlying d with
      | some .string => vcConv P s d (.string t) fun v => k v H
      | _ => SemH P (convert s d (.string t)) H k
    | some (.slice a n c) => match P.underlying s with
      | some (.slice _) => SemH P (convert s d (.slice a n c)) H k
      | _ => False
    | _ => False
  | .call c => match c.callee with
    | .value f => match evs env c.args.toList with
      | some vs => match ev env f with
        | some (.func (.func g) first captured) => match first.toList, captured.toList with
          | [], [] => CallX P g vs H k X
          | fs, cs => CallX P g (fs ++ vs ++ cs) H k X
        | some v => NextX P (do let d ← Deferred.ofValue v vs.toArray; invoke d.target d.args) H k X
        | none => False
      | none => False
    | .invoke r name => match ev env r with
      | some v => match evs env c.args.toList with
        | some vs => NextX P (callMethod v name vs.toArray) H k X
        | none => False
      | none => False
    | .builtin .len => match evs env c.args.toList with
      | some [v] => match v with
        | .map (some r) => match lenReads P c.argTypes with
          | true => SemH P (Builtin.len_ c.argTypes o.type #[.map (some r)]) H k
          | false => False
        | v => match nth c.argTypes.toList 0 with
          | some t => vcLen P t v fun v => k v H
          | none => False
      | _ => False
    | .builtin .min => match evs env c.args.toList with
      | some [x, y] => vcMinMax false x y fun v => k v H
      | _ => False
    | .builtin .max => match evs env c.args.toList with
      | some [x, y] => vcMinMax true x y fun v => k v H
      | _ => False
    | .builtin b => match evs env c.args.toList with
      | some vs => NextH P (builtin b c.argTypes o.type (c.args.map fun | .const _ => true | _ => false) vs.toArray) H k
      | none => False
  | op => vcPure P env op fun v => k v H


/-- what an operation comes to, told apart by whether it looks at memory -/
def Comes1 (P : Program) (o : Oper) (a : Act) (w : World) (X : Panics) (k : Value → Heap → Prop) : Prop :=
  (∃ v, (∀ w, (execOp a.eval o).run P w = .ok (.value v) w) ∧ k v w.heap) ∨
  (kind P o.op ≠ 0 ∧ (kind P o.op = 1 → sane a.eval o.op = true) ∧
    match (execOp a.eval o).run P w with
    | .ok (.value v) w' => Same w w' ∧ k v w'.heap
    | .ok .skip w' => Same w w' ∧ k undef w'.heap
    | .ok (.enter g as) w' => Same w w' ∧ Calls P g as w' fun e w'' => Same w w'' ∧ ((∃ v, e = .returned v ∧ k v w''.heap) ∨ ∃ c, e = .panicked c ∧ X c w''.heap)
    | .halt (.panic v) w' => Same w w' ∧ X [{ v, recovered := false }] w'.heap
    | _ => False)

theorem comes_sem {P : Program} {o : Oper} {a : Act} {w : World} {X : Panics} {k : Value → Heap → Prop} {s : Sem Value} (hk : kind P o.op ≠ 0) (hs : kind P o.op = 1 → sane a.eval o.op = true)
    (he : execOp a.eval o = (do pure (.value (← s)) : Sem Next)) {H : Heap} (h : SemH P s H k) (hw : w.heap = H) : Comes1 P o a w X k := by
  refine .inr ⟨hk, hs, ?_⟩
  obtain ⟨v, w', hr, hsame, hkv⟩ := h.out w hw
  rw [he]
  simp only [Sem.run_bind, hr, Result.andThen_ok, Sem.run_pure]
  exact ⟨hsame, hkv⟩
theorem comes_do {P : Program} {o : Oper} {a : Act} {w : World} {X : Panics} {k : Value → Heap → Prop} {s : Sem Unit} (hk : kind P o.op = 2)
    (he : execOp a.eval o = (do s; pure .skip : Sem Next)) {H : Heap} (h : DoH P s H fun H' => k undef H') (hw : w.heap = H) : Comes1 P o a w X k := by
  refine .inr ⟨by omega, by omega, ?_⟩
  obtain ⟨w', hr, hsame, hkv⟩ := h.out w hw
  rw [he]
  simp only [Sem.run_bind, hr, Result.andThen_ok, Sem.run_pure]
  exact ⟨hsame, hkv⟩
theorem comes_next {P : Program} {o : Oper} {a : Act} {w : World} {X : Panics} {k : Value → Heap → Prop} {s : Sem Next} (hk : kind P o.op = 2)
    (he : execOp a.eval o = s) (h : NextsX P w k X (s.run P w)) : Comes1 P o a w X k := by
  refine .inr ⟨by omega, by omega, ?_⟩
  rw [he]
  generalize s.run P w = r at h
  cases r with
  | ok n w' => cases n <;> first | exact h | exact (h : False).elim
  | halt x w' => cases x <;> first | exact h | exact (h : False).elim

theorem map_evs {env : Env} {a : Act} (ha : Agrees env a) {l : Array Operand} {vs : List Value} (h : evs env l.toList = some vs) : l.map a.eval = vs.toArray := by
  have := ha.evs h
  apply Array.toList_inj.1
  rw [Array.toList_map, this]
theorem map_parts {env : Env} {a : Act} (ha : Agrees env a) {l : Array (Nat × Operand)} {vs : List Value} (h : evs env (l.toList.map (·.2)) = some vs) :
    l.map (fun (i, x) => (i, a.eval x)) = ((l.toList.map (·.1)).zip vs).toArray := by
  have := ha.evs h
  apply Array.toList_inj.1
  rw [Array.toList_map, ← this]
  simp only [List.map_map]
  generalize l.toList = m
  induction m with
  | nil => rfl
  | cons x m ih => obtain ⟨i, y⟩ := x; simp; simpa using ih
theorem map_evO {env : Env} {a : Act} (ha : Agrees env a) {x : Option Operand} {v : Option Value} (h : evO env x = some v) : x.map a.eval = v := by
  cases x with
  | none => simp [evO] at h; simp [h]
  | some y =>
    simp only [evO] at h
    split at h
    · rename_i u hu; cases h; simp [ha.ev hu]
    · cases h

theorem vcOp_sound {P : Program} {o : Oper} {env : Env} {H : Heap} {X : Panics} {k : Value → Heap → Prop} (h : vcOp P o env H X k) {a : Act} (ha : Agrees env a) {w : World} (hw : w.heap = H) : Comes1 P o a w X k := by
  have pure1 : vcPure P env o.op (fun v => k v H) → Comes1 P o a w X k := fun h => by
    obtain ⟨v, hv, hk⟩ := vcPure_sound ha h
    exact .inl ⟨v, hv, hw ▸ hk⟩
  obtain ⟨dst, op, type, pos, after, guard⟩ := o
  cases op <;> simp only [vcOp] at h <;> try exact pure1 h
  case pick c x y =>
    split at h
    · rename_i hc
      split at h
      · rename_i v hv
        exact .inl ⟨v, fun w => by simp [execOp, ha.ev hc, ha.ev hv, asBool], hw ▸ h⟩
      · exact h.elim
    · rename_i hc
      split at h
      · rename_i v hv
        exact .inl ⟨v, fun w => by simp [execOp, ha.ev hc, ha.ev hv, asBool], hw ▸ h⟩
      · exact h.elim
    · exact h.elim
  case alloc t => exact comes_sem (by simp [kind]) (by simp [kind]) rfl h hw
  case box t x =>
    split at h
    · rename_i v hv; exact comes_sem (by simp [kind]) (by simp [kind]) (by simp only [execOp, ha.ev hv]) h hw
    · exact h.elim
  case build t ps =>
    split at h
    · rename_i vs hv
      obtain ⟨v, hr, hk⟩ := h.out
      exact .inl ⟨v, fun w => by simp only [execOp, map_parts ha hv]; exact value_of hr w, hw ▸ hk⟩
    · exact h.elim
  case buildSlice t n ps =>
    split at h
    · rename_i vs hv; exact comes_sem (by simp [kind]) (by simp [kind]) (by simp only [execOp, map_parts ha hv]) h hw
    · exact h.elim
  case insert t m i x =>
    split at h
    · rename_i vm hm
      split at h
      · rename_i vi hi
        split at h
        · rename_i vx hx; exact comes_do (by simp [kind]) (by simp only [execOp, ha.ev hm, ha.ev hi, ha.ev hx]) h hw
        · exact h.elim
      · exact h.elim
    · exact h.elim
  case load t x =>
    split at h
    · rename_i v hv; exact comes_sem (by simp [kind]) (fun _ => rfl) (by simp only [execOp, ha.ev hv]) h hw
    · exact h.elim
  case store t x y =>
    split at h
    · rename_i vx hx
      split at h
      · rename_i vy hy; exact comes_do (by simp [kind]) (by simp only [execOp, ha.ev hx, ha.ev hy]) h hw
      · exact h.elim
    · exact h.elim
  case panic x =>
    split at h
    · rename_i t v hx
      refine comes_next (s := do pure (.value (← Instr.panic (.iface t v)))) (by simp [kind]) (by simp only [execOp, ha.ev hx]) ?_
      exact ⟨Same.refl w, by rw [hw]; exact h.out⟩
    · exact h.elim
  case ready g => exact comes_do (by simp [kind]) rfl h hw
  case waits g => exact comes_sem (by simp [kind]) (by simp [kind]) rfl h hw
  case convert s d x =>
    split at h
    · rename_i kd n hx
      obtain ⟨v, hv, hk⟩ := vcConv_sound h
      exact .inl ⟨v, fun w => by simp only [execOp, ha.ev hx]; exact value_of hv w, hw ▸ hk⟩
    · rename_i t hx
      split at h
      · obtain ⟨v, hv, hk⟩ := vcConv_sound h
        exact .inl ⟨v, fun w => by simp only [execOp, ha.ev hx]; exact value_of hv w, hw ▸ hk⟩
      · rename_i hd
        by_cases h0 : kind P (.convert s d x) = 0
        · exfalso
          obtain ⟨v, w', hr, _⟩ := h.out w hw
          simp only [kind] at h0
          split at h0
          · rename_i hs hd'
            simp [convert, underlying_of hs, underlying_of hd'] at hr
          · rename_i hs hd'; exact hd hd'
          · cases h0
          · cases h0
        · exact comes_sem h0 (fun _ => by simp [sane, ha.ev hx]) (by simp only [execOp, ha.ev hx]) h hw
    · rename_i a1 n c hx
      split at h
      · rename_i e hs
        exact comes_sem (by simp only [kind, hs]; split <;> simp_all) (fun _ => by simp [sane, ha.ev hx]) (by simp only [execOp, ha.ev hx]) h hw
      · exact h.elim
    · exact h.elim
  case sliceToArrayPointer t x =>
    split at h
    · rename_i v hv; exact comes_sem (by simp [kind]) (by simp [kind]) (by simp only [execOp, ha.ev hv]) h hw
    · exact h.elim
  case makeFunc fn f c =>
    split at h
    · rename_i vf hf
      split at h
      · rename_i vc hc; exact comes_sem (by simp [kind]) (by simp [kind]) (by simp only [execOp, map_evs ha hf, map_evs ha hc]) h hw
      · exact h.elim
    · exact h.elim
  case makeMap t r =>
    split at h
    · rename_i v hv; exact comes_sem (by simp [kind]) (by simp [kind]) (by simp only [execOp, map_evO ha hv]) h hw
    · exact h.elim
  case makeSlice t l c =>
    split at h
    · rename_i vl hl
      split at h
      · rename_i vc hc; exact comes_sem (by simp [kind]) (by simp [kind]) (by simp only [execOp, ha.ev hl, ha.ev hc]) h hw
      · exact h.elim
    · exact h.elim
  case lookup t m i ok =>
    split at h
    · rename_i vm hm
      split at h
      · rename_i vi hi; exact comes_sem (by simp [kind]) (by simp [kind]) (by simp only [execOp, ha.ev hm, ha.ev hi]) h hw
      · exact h.elim
    · exact h.elim
  case mapUpdate t m i x =>
    split at h
    · rename_i vm hm
      split at h
      · rename_i vi hi
        split at h
        · rename_i vx hx; exact comes_do (by simp [kind]) (by simp only [execOp, ha.ev hm, ha.ev hi, ha.ev hx]) h hw
        · exact h.elim
      · exact h.elim
    · exact h.elim
  case mapEntry t m i =>
    split at h
    · rename_i vm hm
      split at h
      · rename_i vi hi; exact comes_sem (by simp [kind]) (by simp [kind]) (by simp only [execOp, ha.ev hm, ha.ev hi]) h hw
      · exact h.elim
    · exact h.elim
  case entryStore t m i x =>
    split at h
    · rename_i vm hm
      split at h
      · rename_i vi hi
        split at h
        · rename_i vx hx; exact comes_do (by simp [kind]) (by simp only [execOp, ha.ev hm, ha.ev hi, ha.ev hx]) h hw
        · exact h.elim
      · exact h.elim
    · exact h.elim
  case range t x =>
    split at h
    · rename_i v hv; exact comes_sem (by simp [kind]) (by simp [kind]) (by simp only [execOp, ha.ev hv]) h hw
    · exact h.elim
  case next x s =>
    split at h
    · rename_i v hv; exact comes_sem (by simp [kind]) (by simp [kind]) (by simp only [execOp, ha.ev hv]) h hw
    · exact h.elim
  case entry x =>
    split at h
    · rename_i v hv; exact comes_sem (by simp [kind]) (by simp [kind]) (by simp only [execOp, ha.ev hv]) h hw
    · exact h.elim
  case call c =>
    obtain ⟨callee, args, argTypes⟩ := c
    cases callee <;> simp only at h
    case value f =>
      split at h
      · rename_i vs hvs
        split at h
        · rename_i g first captured hf
          have key : CallX P g (first.toList ++ vs ++ captured.toList) H k X := by
            split at h
            · rename_i h1 h2; rw [h1, h2]; simpa using h
            · exact h
          refine comes_next (s := callFunc g (first ++ vs.toArray ++ captured)) (by simp [kind]) ?_ ?_
          · simp only [execOp, resolve, ha.ev hf, map_evs ha hvs, Deferred.ofValue]
            rfl
          · have := key.out w hw
            have e : (first.toList ++ vs ++ captured.toList).toArray = first ++ vs.toArray ++ captured := by
              apply Array.toList_inj.1; simp
            rwa [e] at this
        · rename_i v hf
          refine comes_next (by simp [kind]) ?_ (h.out w hw)
          simp only [execOp, resolve, ha.ev hf, map_evs ha hvs]
        · exact h.elim
      · exact h.elim
    case invoke r name =>
      split at h
      · rename_i v hv
        split at h
        · rename_i vs hvs
          refine comes_next (s := callMethod v name vs.toArray) (by simp [kind]) ?_ (h.out w hw)
          simp only [execOp, resolve, ha.ev hv, map_evs ha hvs]
          simp [invoke]
        · exact h.elim
      · exact h.elim
    case builtin b =>
      have gen : ∀ {vs : List Value}, evs env args.toList = some vs → execOp a.eval { dst := dst, op := .call { callee := .builtin b, args := args, argTypes := argTypes }, type := type, pos := pos, after := after, guard := guard } =
          builtin b argTypes type (args.map fun | .const _ => true | _ => false) vs.toArray := fun {vs} hvs => by
        simp only [execOp, resolve, map_evs ha hvs]
        rfl
      cases b <;> simp only at h
      case len =>
        split at h
        · rename_i v hvs
          have ga := gen hvs
          have hsz : args.size = 1 := by
            have := congrArg Array.size (map_evs ha hvs); simpa using this
          split at h
          · rename_i r
            split at h
            · rename_i hl
              refine comes_sem (s := Builtin.len_ argTypes type #[.map (some r)]) (by simp [kind, hl]) (by simp [kind, hl]) ?_ h hw
              rw [ga]
              rfl
            · exact h.elim
          · split at h
            · rename_i t ht
              obtain ⟨u, hu, hk⟩ := vcLen_sound (ty := type) ht h
              exact .inl ⟨u, fun w => by rw [ga]; simp only [builtin]; exact value_of hu w, hw ▸ hk⟩
            · exact h.elim
        · exact h.elim
      case min =>
        split at h
        · rename_i x y hvs
          unfold vcMinMax at h
          split at h
          · split at h
            · rename_i kd a1 _ _ b1
              refine .inl ⟨_, fun w => ?_, hw ▸ h⟩
              rw [gen hvs]
              simp only [builtin, Builtin.min_, List.foldlM, Builtin.min2]
              have : (if b1 < a1 then b1 else a1) = min a1 b1 := by omega
              rw [this]
              rfl
            · exact h.elim
          · exact h.elim
        · exact h.elim
      case max =>
        split at h
        · rename_i x y hvs
          unfold vcMinMax at h
          split at h
          · split at h
            · rename_i kd a1 _ _ b1
              refine .inl ⟨_, fun w => ?_, hw ▸ h⟩
              rw [gen hvs]
              simp only [builtin, Builtin.max_, List.foldlM, Builtin.max2]
              have : (if b1 > a1 then b1 else a1) = max a1 b1 := by omega
              rw [this]
              rfl
            · exact h.elim
          · exact h.elim
        · exact h.elim
      all_goals
        split at h
        · rename_i vs hvs
          exact comes_next (by simp [kind]) (gen hvs) (h.out w hw).x
        · exact h.elim


/- ---------- a region ---------- -/
def beqB (b c : Bool) : Bool := match b with
  | true => c
  | false => match c with
    | true => false
    | false => true
theorem beqB_eq (b c : Bool) : beqB b c = (b == c) := by cases b <;> cases c <;> rfl

/-- is the operation wanted; none: not known -/
def wants (ops : List Oper) (env : Env) (o : Oper) : Option Bool :=
  match o.guard with
  | none => some true
  | some (j, want) => match nth ops j with
    | some oj => match oj.dst with
      | some d => match get env d with
        | some (.bool b) => some (beqB b want)
        | some (.tuple _) => some false
        | _ => none
      | none => none
    | none => none

theorem wants_spec {ops : Array Oper} {env : Env} {o : Oper} {b : Bool} (h : wants ops.toList env o = some b) {a : Act} (ha : Agrees env a) : Region.wanted o (yielded ops a.tmps) = b := by
  unfold wants at h
  unfold Region.wanted
  split at h
  · rename_i hg; cases h; simp [hg]
  · rename_i j want hg
    simp only [hg]
    split at h
    · rename_i oj hj
      split at h
      · rename_i d hd
        split at h
        · rename_i c hc
          cases h
          rw [nth_eq] at hj
          have hj : ops[j]? = some oj := by simpa using hj
          have := ha _ _ hc
          simp only [yielded, hj, Option.bind_some, hd, this, beqB_eq]
          simp
        · rename_i c hc
          cases h
          rw [nth_eq] at hj
          have hj : ops[j]? = some oj := by simpa using hj
          have := ha _ _ hc
          simp only [yielded, hj, Option.bind_some, hd, this]
          simp
        · cases h
      · cases h
    · cases h

/-- does a guard of the region look at the operation i -/
def isSrc (ops : List Oper) (i : Nat) : Bool :=
  match ops with
  | [] => false
  | o :: l => match o.guard with
    | some (j, _) => match Nat.beq i j with
      | true => true
      | false => isSrc l i
    | none => isSrc l i

/-- a Bool that guards look at is told apart -/
def vcSplit (src : Bool) (v : Value) (K : Value → Prop) : Prop :=
  match src with
  | false => K v
  | true => match v with
    | .bool b => SplitH b fun b => K (.bool b)
    | v => K v

theorem vcSplit_sound {src : Bool} {v : Value} {K : Value → Prop} (h : vcSplit src v K) : K v := by
  unfold vcSplit at h
  split at h
  · exact h
  · split at h
    · rename_i b
      cases b
      · exact h.f rfl
      · exact h.t rfl
    · exact h


def vcOps (P : Program) (ops : List Oper) (X : Panics) : Nat → List Oper → Env → Heap → (Env → Heap → Prop) → Prop
  | _, [], env, H, k => k env H
  | i, o :: l, env, H, k => match wants ops env o with
    | some true => match o.dst with
      | some d => match isSrc ops i with
        | true => vcOp P o env H X fun v H' => vcSplit true v fun v => vcOps P ops X (i + 1) l ((d, v) :: env) H' k
        | false => vcOp P o env H X fun v H' => vcOps P ops X (i + 1) l ((d, v) :: env) H' k
      | none => vcOp P o env H X fun _ H' => vcOps P ops X (i + 1) l env H' k
    | some false => match o.dst with
      | some d => vcOps P ops X (i + 1) l ((d, undef) :: env) H k
      | none => vcOps P ops X (i + 1) l env H k
    | none => False

/-- the frame and the world that an environment and a heap stand for -/
def Lift (w0 : World) (n : Nat) (a0 : Act) (ms : List Nat) (k : Env → Heap → Prop) (a : Act) (w : World) : Prop :=
  a.defers = a0.defers ∧ a.tmps.size = n ∧ Same w0 w ∧ (∀ i, i ∉ ms → a.tmps[i]? = a0.tmps[i]?) ∧ ∃ env, Agrees env a ∧ k env w.heap

/-- the slots that a piece of code writes -/
def modsO : List Oper → List Nat
  | [] => []
  | o :: l => match o.dst with
    | some d => d :: modsO l
    | none => modsO l
def mods : Code → List Nat
  | .region _ ops _ => modsO ops.toList
  | .seq x y => mods x ++ mods y
  | .cond _ x y => mods x ++ mods y
  | .block _ x => mods x
  | .loop x => mods x
  | _ => []
theorem modsO_mem {o : Oper} {d : Nat} : ∀ {l : List Oper}, o ∈ l → o.dst = some d → d ∈ modsO l
  | [], h, _ => by cases h
  | x :: l, h, hd => by
    have ih := modsO_mem (l := l) (o := o) (d := d)
    rcases List.mem_cons.1 h with rfl | h
    · simp [modsO, hd]
    · have := ih h hd
      unfold modsO
      split
      · exact List.mem_cons_of_mem _ this
      · exact this
/-- what a piece of code leaves alone -/
theorem put_other {a : Act} {d : Option Tmp} {v : Value} {i : Nat} (h : ∀ t, d = some t → t ≠ i) : (a.put d v).tmps[i]? = a.tmps[i]? := by
  cases d with
  | none => rfl
  | some t =>
    simp only [Act.put]
    rw [Array.getElem?_setIfInBounds, if_neg (h t rfl)]
theorem put_frame {a a0 : Act} {ms : List Nat} (h : ∀ i, i ∉ ms → a.tmps[i]? = a0.tmps[i]?) {d : Option Tmp} (hd : ∀ t, d = some t → t ∈ ms) (v : Value) :
    ∀ i, i ∉ ms → (a.put d v).tmps[i]? = a0.tmps[i]? := fun i hi => (put_other fun t ht e => by subst e; exact hi (hd _ ht)).trans (h i hi)

def fitsO (n : Nat) (o : Oper) : Bool := match o.dst with
  | some d => Nat.blt d n
  | none => true

theorem put_size (a : Act) (d : Option Tmp) (v : Value) : (a.put d v).tmps.size = a.tmps.size := by cases d <;> simp [Act.put]
theorem put_defers' (a : Act) (d : Option Tmp) (v : Value) : (a.put d v).defers = a.defers := by cases d <;> simp [Act.put]
theorem Agrees.putE {env : Env} {a : Act} (h : Agrees env a) {o : Oper} {n : Nat} (hn : a.tmps.size = n) (hf : fitsO n o = true) (v : Value) : Agrees (putE env o.dst v) (a.put o.dst v) := by
  unfold fitsO at hf
  unfold Vc.putE
  cases hd : o.dst with
  | none => simpa [Act.put] using h
  | some d =>
    rw [hd] at hf
    exact h.put (by have := Nat.lt_of_lt_of_le (Nat.le_of_ble_eq_true hf) (Nat.le_of_eq hn.symm); omega) v

theorem calls_ret {P : Program} {g : FuncId} {as : Array Value} {w : World} {R : Value → World → Prop} {S : Ending → World → Prop}
    (h : Calls P g as w fun e w' => ∃ v, e = .returned v ∧ R v w') (hs : ∀ v w', R v w' → S (.returned v) w') : Calls P g as w S :=
  Calls.mono h fun e w' ⟨v, he, hr⟩ => he ▸ hs v w' hr

abbrev NoX : Panics := fun _ _ => False
theorem step_of_comes {P : Program} {ops : Array Oper} {i : Nat} {o : Oper} {a : Act} {w : World} {k : Value → Heap → Prop} {K : Act → World → Prop} (ho : ops[i]? = some o)
    (hw : Region.wanted o (yielded ops a.tmps) = true) (h : Comes1 P o a w NoX k) (hnext : ∀ v w', Same w w' → k v w'.heap → K (a.put o.dst v) w') : Lx.step P ops i K a w := by
  unfold Lx.step
  simp only [ho]
  rcases h with ⟨v, hv, hk⟩ | ⟨h0, h1, h⟩
  · have hK := hnext v w (Same.refl w) hk
    split
    · exact ⟨v, .inl ⟨hw, hv⟩, hK⟩
    · split
      · exact ⟨v, .inl ⟨hw, hv w⟩, hK⟩
      · try rw [if_pos hw]
        unfold Oper.wp
        rw [hv w]
        exact hK
  · rw [if_neg h0]
    split
    · rename_i hk1
      cases hr : (execOp a.eval o).run P w with
      | halt x w' => rw [hr] at h; cases x <;> first | exact h.elim | exact h.2.elim
      | ok n w' =>
        obtain ⟨rfl, v, rfl⟩ := readOp o hk1 (h1 hk1) hr
        rw [hr] at h
        exact ⟨v, .inl ⟨hw, hr⟩, hnext v _ h.1 h.2⟩
    · try rw [if_pos hw]
      unfold Oper.wp
      cases hr : (execOp a.eval o).run P w with
      | halt x w' => rw [hr] at h; cases x <;> first | exact h.elim | exact h.2.elim
      | ok n w' =>
        rw [hr] at h
        cases n <;> simp only at h <;> try exact h.elim
        · exact hnext _ _ h.1 h.2
        · exact hnext _ _ h.1 h.2
        · show Calls P _ _ _ _
          refine Calls.mono h.2 fun e w'' ⟨hs, hv⟩ => ?_
          rcases hv with ⟨v, he, hk⟩ | ⟨c, he, hx⟩
          · exact he ▸ hnext v w'' hs hk
          · exact hx.elim

theorem wpOp_of_comes {P : Program} {ops : Array Oper} {i : Nat} {o : Oper} {a : Act} {w : World} {X : Panics} {k : Value → Heap → Prop} {K : Act → World → Prop} {Q : Exit → Act → World → Prop} (ho : ops[i]? = some o)
    (hw : Region.wanted o (yielded ops a.tmps) = true) (h : Comes1 P o a w X k) (hnext : ∀ v w', Same w w' → k v w'.heap → K (a.put o.dst v) w') (hx : ∀ c w', Same w w' → X c w'.heap → Q (.panic c) a w') : wpOp P ops Q i K a w := by
  unfold wpOp
  simp only [ho, if_pos hw]
  refine .inl ?_
  unfold Oper.wp
  rcases h with ⟨v, hv, hk⟩ | ⟨h0, h1, h⟩
  · rw [hv w]
    exact hnext v w (Same.refl w) hk
  · cases hr : (execOp a.eval o).run P w with
    | halt x w' =>
      rw [hr] at h
      cases x <;> first | exact h.elim | exact hx _ _ h.1 h.2
    | ok n w' =>
      rw [hr] at h
      cases n <;> simp only at h <;> try exact h.elim
      · exact hnext _ _ h.1 h.2
      · exact hnext _ _ h.1 h.2
      · show Calls P _ _ _ _
        refine Calls.mono h.2 fun e w'' ⟨hs, hv⟩ => ?_
        rcases hv with ⟨v, he, hk⟩ | ⟨c, he, hxc⟩
        · exact he ▸ hnext v w'' hs hk
        · exact he ▸ hx c w'' hs hxc

theorem vcOps_sound {P : Program} {ops : Array Oper} {n : Nat} {k : Env → Heap → Prop} {w0 : World} {a0 : Act} {Q : Exit → Act → World → Prop} (hQ : ∀ a w, Lift w0 n a0 (modsO ops.toList) k a w → Q .normal a w) (hfit : ∀ o ∈ ops.toList, fitsO n o = true) :
    ∀ (l : List Oper) (i : Nat), ops.toList.drop i = l → ∀ (env : Env) (H : Heap), vcOps P ops.toList NoX i l env H k → ∀ (a : Act) (w : World), Agrees env a → a.defers = a0.defers → a.tmps.size = n → Same w0 w →
      (∀ i, i ∉ modsO ops.toList → a.tmps[i]? = a0.tmps[i]?) → w.heap = H → T P ops Q (List.range' i l.length) a w
  | [], i, _, env, H, h, a, w, ha, hd, hn, hs, hfr, hw => hQ a w ⟨hd, hn, hs, hfr, env, ha, hw ▸ h⟩
  | o :: l, i, hl, env, H, h, a, w, ha, hd, hn, hs, hfr, hw => by
    have ho : ops[i]? = some o := by
      have : (ops.toList.drop i)[0]? = some o := by rw [hl]; rfl
      simpa using this
    have hl' : ops.toList.drop (i + 1) = l := by
      have := congrArg List.tail hl
      simpa [List.tail_drop] using this
    have hmem : o ∈ ops.toList := List.mem_of_mem_drop (i := i) (by rw [hl]; simp)
    have hf := hfit o hmem
    have hm : ∀ t, o.dst = some t → t ∈ modsO ops.toList := fun t ht => modsO_mem hmem ht
    show Lx.step P ops i (T P ops Q (List.range' (i + 1) l.length)) a w
    simp only [vcOps] at h
    split at h
    · rename_i hwt
      have hwt := wants_spec hwt ha
      have h : vcOp P o env H NoX fun v H' => vcSplit (isSrc ops.toList i && o.dst.isSome) v fun v => vcOps P ops.toList NoX (i + 1) l (putE env o.dst v) H' k := by
        cases hd : o.dst with
        | none => simp only [hd] at h; simpa [vcSplit, putE] using h
        | some d =>
          simp only [hd] at h
          cases hs : isSrc ops.toList i
          · simp only [hs] at h; simpa [vcSplit, putE] using h
          · simp only [hs] at h; simpa [putE] using h
      refine step_of_comes ho hwt (vcOp_sound h ha hw) ?_
      intro v w' hsame hk
      have hk := vcSplit_sound hk
      exact vcOps_sound hQ hfit l (i + 1) hl' _ _ hk _ _ (ha.putE hn hf v) (by rw [put_defers']; exact hd) (by rw [put_size]; exact hn) (hs.trans hsame) (put_frame hfr hm v) rfl
    · rename_i hwt
      have hwt := wants_spec hwt ha
      have h : vcOps P ops.toList NoX (i + 1) l (putE env o.dst undef) H k := by
        cases hd : o.dst with
        | none => simp only [hd] at h; simpa [putE] using h
        | some d => simp only [hd] at h; simpa [putE] using h
      have hrest := vcOps_sound hQ hfit l (i + 1) hl' _ _ h _ _ (ha.putE hn hf undef) (by rw [put_defers']; exact hd) (by rw [put_size]; exact hn) hs (put_frame hfr hm undef) hw
      unfold Lx.step
      simp only [ho, hwt, Bool.false_eq_true, if_false]
      split
      · exact ⟨_, .inr ⟨hwt, rfl⟩, hrest⟩
      · split
        · exact ⟨_, .inr ⟨hwt, rfl⟩, hrest⟩
        · exact hrest
    · exact h.elim

theorem vcOpsX_sound {P : Program} {ops : Array Oper} {n : Nat} {k : Env → Heap → Prop} {w0 : World} {a0 : Act} {Q : Exit → Act → World → Prop} {X : Panics} (hQ : ∀ a w, Lift w0 n a0 (modsO ops.toList) k a w → Q .normal a w) (hX : ∀ c a w, Lift w0 n a0 (modsO ops.toList) (fun _ H => X c H) a w → Q (.panic c) a w) (hfit : ∀ o ∈ ops.toList, fitsO n o = true) :
    ∀ (l : List Oper) (i : Nat), ops.toList.drop i = l → ∀ (env : Env) (H : Heap), vcOps P ops.toList X i l env H k → ∀ (a : Act) (w : World), Agrees env a → a.defers = a0.defers → a.tmps.size = n → Same w0 w →
      (∀ i, i ∉ modsO ops.toList → a.tmps[i]? = a0.tmps[i]?) → w.heap = H → wpOps P ops Q (List.range' i l.length) a w
  | [], i, _, env, H, h, a, w, ha, hd, hn, hs, hfr, hw => hQ a w ⟨hd, hn, hs, hfr, env, ha, hw ▸ h⟩
  | o :: l, i, hl, env, H, h, a, w, ha, hd, hn, hs, hfr, hw => by
    have ho : ops[i]? = some o := by
      have : (ops.toList.drop i)[0]? = some o := by rw [hl]; rfl
      simpa using this
    have hl' : ops.toList.drop (i + 1) = l := by
      have := congrArg List.tail hl
      simpa [List.tail_drop] using this
    have hmem : o ∈ ops.toList := List.mem_of_mem_drop (i := i) (by rw [hl]; simp)
    have hf := hfit o hmem
    have hm : ∀ t, o.dst = some t → t ∈ modsO ops.toList := fun t ht => modsO_mem hmem ht
    show wpOps P ops Q (i :: List.range' (i + 1) l.length) a w
    rw [wpOps_cons]
    simp only [vcOps] at h
    split at h
    · rename_i hwt
      have hwt := wants_spec hwt ha
      have h : vcOp P o env H X fun v H' => vcSplit (isSrc ops.toList i && o.dst.isSome) v fun v => vcOps P ops.toList X (i + 1) l (putE env o.dst v) H' k := by
        cases hd : o.dst with
        | none => simp only [hd] at h; simpa [vcSplit, putE] using h
        | some d =>
          simp only [hd] at h
          cases hs : isSrc ops.toList i
          · simp only [hs] at h; simpa [vcSplit, putE] using h
          · simp only [hs] at h; simpa [putE] using h
      refine wpOp_of_comes ho hwt (vcOp_sound h ha hw) ?_ fun c w' hsame hx => hX c a w' ⟨hd, hn, hs.trans hsame, hfr, [], fun i v hi => (by cases hi), hx⟩
      intro v w' hsame hk
      have hk := vcSplit_sound hk
      exact vcOpsX_sound hQ hX hfit l (i + 1) hl' _ _ hk _ _ (ha.putE hn hf v) (by rw [put_defers']; exact hd) (by rw [put_size]; exact hn) (hs.trans hsame) (put_frame hfr hm v) rfl
    · rename_i hwt
      have hwt := wants_spec hwt ha
      have h : vcOps P ops.toList X (i + 1) l (putE env o.dst undef) H k := by
        cases hd : o.dst with
        | none => simp only [hd] at h; simpa [putE] using h
        | some d => simp only [hd] at h; simpa [putE] using h
      have hrest := vcOpsX_sound hQ hX hfit l (i + 1) hl' _ _ h _ _ (ha.putE hn hf undef) (by rw [put_defers']; exact hd) (by rw [put_size]; exact hn) hs (put_frame hfr hm undef) hw
      unfold wpOp
      simp only [ho, hwt, Bool.false_eq_true, if_false]
      exact hrest
    · exact h.elim

theorem wpOps_of_T {P : Program} {ops : Array Oper} {Q : Exit → Act → World → Prop} : ∀ (l : List Nat) (a : Act) (w : World), T P ops Q l a w → wpOps P ops Q l a w
  | [], a, w, h => h
  | i :: l, a, w, h => by
    rw [wpOps_cons]
    exact wpOp_of_step (step_mono (fun a w => wpOps_of_T l a w) h)

/- ---------- code ---------- -/
abbrev Post := Exit → Env → Heap → Prop

def LiftQ (w0 : World) (n : Nat) (a0 : Act) (ms : List Nat) (Q : Post) (e : Exit) (a : Act) (w : World) : Prop := Lift w0 n a0 ms (Q e) a w

def fitsC (n : Nat) : Code → Bool
  | .region _ ops _ => ops.toList.all (fitsO n)
  | .seq x y => fitsC n x && fitsC n y
  | .cond _ x y => fitsC n x && fitsC n y
  | .block _ x => fitsC n x
  | .loop x => fitsC n x
  | _ => true

/-- what is asked of a piece of code, told by the model's own run -/
structure CodeH (P : Program) (n : Nat) (c : Code) (env : Env) (H : Heap) (Q : Post) : Prop where
  out : ∀ (w0 : World) (a : Act) (w : World), Agrees env a → a.defers = a.defers → a.tmps.size = n → Same w0 w → w.heap = H → c.wp P (LiftQ w0 n a (mods c) Q) a w
structure LoopH (P : Program) (n : Nat) (c : Code) (env : Env) (H : Heap) (Q : Post) : Prop where
  out : fitsC n (.loop c) = true → CodeH P n (.loop c) env H Q
/-- a region that draws its order -/
structure DrawH (P : Program) (n : Nat) (id : Nat) (ops : Array Oper) (env : Env) (H : Heap) (k : Env → Heap → Prop) : Prop where
  out : fitsC n (.region id ops true) = true → CodeH P n (.region id ops true) env H fun e env H => e = .normal ∧ k env H
structure SeqH (P : Program) (n : Nat) (x y : Code) (env : Env) (H : Heap) (Q : Post) : Prop where
  out : fitsC n (.seq x y) = true → CodeH P n (.seq x y) env H Q

def noGuard : List Oper → Bool
  | [] => true
  | o :: l => match o.guard with
    | none => noGuard l
    | some _ => false
/-- may one walk on through it with no thought of a cut -/
def simpleC : Code → Bool
  | .skip => true
  | .ret => true
  | .exit _ => true
  | .region _ ops draw => match draw with
    | false => noGuard ops.toList
    | true => false
  | _ => false

def vcCode (P : Program) (n : Nat) (c : Code) (env : Env) (H : Heap) (Q : Post) : Prop :=
  match c with
  | .skip => Q .normal env H
  | .region id ops draw => match draw with
    | false => vcOps P ops.toList (fun c H => Q (.panic c) [] H) 0 ops.toList env H (Q .normal)
    | true => DrawH P n id ops env H (Q .normal)
  | .seq x y => match simpleC x with
    | true => vcCode P n x env H fun e env H => match e with
      | .normal => vcCode P n y env H Q
      | e => Q e env H
    | false => SeqH P n x y env H Q
  | .cond c x y => match ev env c with
    | some (.bool b) => CondH b (vcCode P n x env H Q) (vcCode P n y env H Q)
    | _ => False
  | .block id x => vcCode P n x env H fun e env H => match e with
    | .exit j => match Nat.beq j id with
      | true => Q .normal env H
      | false => Q (.exit j) env H
    | e => Q e env H
  | .loop x => LoopH P n x env H Q
  | .exit id => Q (.exit id) env H
  | .ret => Q .ret env H
  | _ => False

theorem Lift.mono {w0 : World} {n : Nat} {a0 : Act} {ms : List Nat} {k k' : Env → Heap → Prop} {a : Act} {w : World} (h : Lift w0 n a0 ms k a w) (hk : ∀ env H, k env H → k' env H) : Lift w0 n a0 ms k' a w :=
  let ⟨h1, h2, h3, h4, env, h5, h6⟩ := h; ⟨h1, h2, h3, h4, env, h5, hk _ _ h6⟩
theorem CodeH.mono {P : Program} {n : Nat} {c : Code} {env : Env} {H : Heap} {Q Q' : Post} (h : CodeH P n c env H Q) (hq : ∀ e env H, Q e env H → Q' e env H) : CodeH P n c env H Q' :=
  ⟨fun w0 a w ha hd hn hs hw => wp_mono (h.out w0 a w ha hd hn hs hw) fun e a w h => Lift.mono h (hq e)⟩

theorem CodeH.seq {P : Program} {n : Nat} {x y : Code} {env : Env} {H : Heap} {Q Q1 : Post} (hx : CodeH P n x env H Q1) (hn : ∀ env' H', Q1 .normal env' H' → CodeH P n y env' H' Q) (he : ∀ e env' H', e ≠ .normal → Q1 e env' H' → Q e env' H') :
    CodeH P n (.seq x y) env H Q := by
  refine ⟨fun w0 a w ha hd hsz hs hw => wp_seq (wp_mono (hx.out w0 a w ha hd hsz hs hw) ?_)⟩
  intro e a' w' ⟨h1, h2, h3, hfr, env', h4, h5⟩
  have other : e ≠ .normal → LiftQ w0 n a (mods (.seq x y)) Q e a' w' := fun hne => ⟨h1, h2, h3, fun i hi => hfr i (fun hm => hi (by simp [mods, hm])), env', h4, he _ _ _ hne h5⟩
  cases e with
  | normal =>
    refine wp_mono ((hn _ _ h5).out w0 a' w' h4 rfl h2 h3 rfl) ?_
    intro e a2 w2 ⟨g1, g2, g3, gfr, env2, g4, g5⟩
    exact ⟨g1.trans h1, g2, g3, fun i hi => (gfr i (fun hm => hi (by simp [mods, hm]))).trans (hfr i (fun hm => hi (by simp [mods, hm]))), env2, g4, g5⟩
  | exit j => exact other (by simp)
  | goto j => exact other (by simp)
  | ret => exact other (by simp)
  | panic c => exact other (by simp)
  | outgrown => exact other (by simp)

theorem vcCode_sound {P : Program} {n : Nat} : ∀ (c : Code) (env : Env) (H : Heap) (Q : Post), fitsC n c = true → vcCode P n c env H Q → CodeH P n c env H Q
  | .skip, env, H, Q, _, h => ⟨fun w0 a w ha hd hn hs hw => wp_skip ⟨hd, hn, hs, fun _ _ => rfl, env, ha, hw ▸ h⟩⟩
  | .region id ops draw, env, H, Q, hf, h => by
    cases draw with
    | false =>
      refine ⟨fun w0 a w ha hd hn hs hw => wp_region ?_⟩
      have := vcOpsX_sound (a0 := a) (Q := LiftQ w0 n a (modsO ops.toList) Q) (fun _ _ h => h) (fun c _ _ ⟨h1, h2, h3, h4, _, _, h6⟩ => ⟨h1, h2, h3, h4, [], fun i v hi => (by cases hi), h6⟩) (List.all_eq_true.1 hf) ops.toList 0 rfl env H h a w ha hd hn hs (fun _ _ => rfl) hw
      rw [← List.range_eq_range', Array.length_toList] at this
      exact this
    | true => exact CodeH.mono (h.out hf) fun e env H ⟨he, hk⟩ => he ▸ hk
  | .seq x y, env, H, Q, hf, h => by
    have hf' := hf
    simp only [fitsC, Bool.and_eq_true] at hf'
    unfold vcCode at h
    split at h
    · exact CodeH.seq (vcCode_sound x env H _ hf'.1 h) (fun env' H' h => vcCode_sound y env' H' Q hf'.2 h) (fun e env' H' hne h => by cases e <;> first | exact absurd rfl hne | exact h)
    · exact h.out hf
  | .cond c x y, env, H, Q, hf, h => by
    simp only [fitsC, Bool.and_eq_true] at hf
    simp only [vcCode] at h
    split at h
    · rename_i b hb
      refine ⟨fun w0 a w ha hd hn hs hw => wp_cond (ha.ev hb) ?_⟩
      cases b with
      | true => exact wp_mono ((vcCode_sound x env H Q hf.1 (h.t rfl)).out w0 a w ha hd hn hs hw) fun e a' w' ⟨h1, h2, h3, h4, h5⟩ => ⟨h1, h2, h3, fun i hi => h4 i (fun hm => hi (by simp [mods, hm])), h5⟩
      | false => exact wp_mono ((vcCode_sound y env H Q hf.2 (h.f rfl)).out w0 a w ha hd hn hs hw) fun e a' w' ⟨h1, h2, h3, h4, h5⟩ => ⟨h1, h2, h3, fun i hi => h4 i (fun hm => hi (by simp [mods, hm])), h5⟩
    · exact h.elim
  | .block id x, env, H, Q, hf, h => by
    have hx := vcCode_sound x env H _ hf h
    refine ⟨fun w0 a w ha hd hn hs hw => wp_block (wp_mono (hx.out w0 a w ha hd hn hs hw) ?_)⟩
    intro e a' w' ⟨h1, h2, h3, hfr, env', h4, h5⟩
    cases e with
    | exit j =>
      show if j = id then _ else _
      dsimp only at h5
      split at h5
      · rename_i hb
        rw [if_pos (Nat.eq_of_beq_eq_true hb)]
        exact ⟨h1, h2, h3, hfr, env', h4, h5⟩
      · rename_i hb
        rw [if_neg (fun e => by subst e; simp at hb)]
        exact ⟨h1, h2, h3, hfr, env', h4, h5⟩
    | _ => exact ⟨h1, h2, h3, hfr, env', h4, h5⟩
  | .loop x, env, H, Q, hf, h => h.out hf
  | .exit id, env, H, Q, _, h => ⟨fun w0 a w ha hd hn hs hw => wp_exit ⟨hd, hn, hs, fun _ _ => rfl, env, ha, hw ▸ h⟩⟩
  | .ret, env, H, Q, _, h => ⟨fun w0 a w ha hd hn hs hw => wp_ret ⟨hd, hn, hs, fun _ _ => rfl, env, ha, hw ▸ h⟩⟩

/- ---------- a function ---------- -/
def vcRes (P : Program) (env : Env) (H : Heap) : List ResultVar → (List Value → Prop) → Prop
  | [], k => k []
  | r :: l, k => match r with
    | .tmp t => match get env t with
      | some v => vcRes P env H l fun vs => k (v :: vs)
      | none => False
    | .cell t ty => match get env t with
      | some (.pointer (some p)) => SemH P (Instr.loadAt ty (.pointer (some p))) H fun v H' => NeedH (H' = H) (vcRes P env H l fun vs => k (v :: vs))
      | _ => False

def one (vs : List Value) : Value := match vs with
  | [v] => v
  | vs => .tuple vs.toArray

def vcPost (P : Program) (rs : List ResultVar) (R : Value → Heap → Prop) : Post := fun e env H => match e with
  | .normal => vcRes P env H rs fun vs => R (one vs) H
  | .ret => vcRes P env H rs fun vs => R (one vs) H
  | _ => False

def argEnv : Nat → List Value → Env
  | _, [] => []
  | i, v :: l => (i, v) :: argEnv (i + 1) l

theorem argEnv_get : ∀ (l : List Value) (i j : Nat) (v : Value), get (argEnv i l) j = some v → i ≤ j ∧ l[j - i]? = some v
  | [], i, j, v, h => by simp [argEnv, get] at h
  | x :: l, i, j, v, h => by
    unfold argEnv at h
    rw [get_cons] at h
    by_cases hj : j = i
    · subst hj; simp at h; subst h; simp
    · rw [if_neg hj] at h
      obtain ⟨h1, h2⟩ := argEnv_get l (i + 1) j v h
      refine ⟨by omega, ?_⟩
      rw [show j - i = (j - (i + 1)) + 1 by omega]
      simpa using h2

def resOne (tmps : Array Value) (r : ResultVar) : Sem Value := match r with
  | .tmp t => pure (tmps.getD t undef)
  | .cell a t => do loadVar t (← asAddr (tmps.getD a undef))

theorem vcRes_sound {P : Program} {env : Env} {a : Act} (ha : Agrees env a) {w : World} : ∀ (l : List ResultVar) (k : List Value → Prop), vcRes P env w.heap l k →
    ∃ vs, (l.mapM (resOne a.tmps) : Sem (List Value)).run P w = .ok vs w ∧ k vs
  | [], k, h => ⟨[], by simp, h⟩
  | r :: l, k, h => by
    unfold vcRes at h
    cases r with
    | tmp t =>
      simp only at h
      split at h
      · rename_i v hv
        obtain ⟨vs, hr, hk⟩ := vcRes_sound ha l _ h
        refine ⟨v :: vs, ?_, hk⟩
        have e : a.tmps.getD t undef = v := by simp [Array.getD_eq_getD_getElem?, ha _ _ hv]
        have e1 : (resOne a.tmps (.tmp t)).run P w = .ok v w := by simp [resOne, e]
        simp only [List.mapM_cons, Sem.run_bind, Sem.run_pure, Result.andThen_ok, hr, e1]
      · exact h.elim
    | cell c t =>
      simp only at h
      split at h
      · rename_i p hv
        obtain ⟨v, w', hr1, hs, hk⟩ := h.out w rfl
        obtain ⟨heq, hk⟩ := hk.out
        obtain ⟨vs, hr, hk⟩ := vcRes_sound ha l _ hk
        refine ⟨v :: vs, ?_, hk⟩
        have e : a.tmps.getD c undef = .pointer (some p) := by simp [Array.getD_eq_getD_getElem?, ha _ _ hv]
        have hl : (loadVar t p).run P w = .ok v w' := by
          simpa [Instr.loadAt, Instr.sureAddr] using hr1
        have hww : w' = w := Steady.loadVar t p _ _ _ hl
        subst hww
        have e1 : (resOne a.tmps (.cell c t)).run P w' = .ok v w' := by simp [resOne, e, asAddr, hl]
        simp only [List.mapM_cons, Sem.run_bind, Sem.run_pure, Result.andThen_ok, hr, e1]
      · exact h.elim

theorem results_eq (fn : Func) (tmps : Array Value) : results fn tmps = (do
    let vs ← fn.results.mapM (resOne tmps)
    pure (if h : vs.size = 1 then vs[0] else .tuple vs)) := by
  unfold results
  have : (fun x => match x with
    | ResultVar.tmp t => pure (tmps.getD t undef)
    | ResultVar.cell a t => do loadVar t (← asAddr (tmps.getD a undef))) = resOne tmps := by funext r; cases r <;> rfl
  rw [← this]
  rfl

theorem vcPost_sound {P : Program} {fn : Func} {R : Value → Heap → Prop} {w0 : World} {n : Nat} {e : Exit} {a : Act} {w : World}
    {a0 : Act} {ms : List Nat} (h0 : a0.defers = []) (h : LiftQ w0 n a0 ms (vcPost P fn.results.toList R) e a w) : bodyPost P fn (fun e w' => Same w0 w' ∧ ∃ v, e = .returned v ∧ R v w'.heap) e a w := by
  obtain ⟨hd, hn, hs, _, env, ha, hk⟩ := h
  have hd := hd.trans h0
  have key : vcRes P env w.heap fn.results.toList (fun vs => R (one vs) w.heap) → a.defers = [] ∧ ∃ v, (results fn a.tmps).run P w = .ok v w ∧ Same w0 w ∧ ∃ u, Ending.returned v = .returned u ∧ R u w.heap := fun hk => by
    obtain ⟨vs, hr, hR⟩ := vcRes_sound ha _ _ hk
    refine ⟨hd, one vs, ?_, hs, _, rfl, hR⟩
    rw [results_eq, Array.mapM_eq_mapM_toList]
    simp only [bind_assoc, map_eq_pure_bind, pure_bind, Sem.run_bind]
    rw [hr]
    simp only [Result.andThen_ok, Sem.run_pure]
    rcases vs with _ | ⟨x, _ | ⟨y, l⟩⟩ <;> simp [one]
  cases e <;> first | exact key hk | exact hk.elim

/-- A CALL FROM ITS BODY. -/
theorem CallH.body {P : Program} {f : FuncId} {fn : Func} {c : Code} {args : List Value} {H : Heap} {R : Value → Heap → Prop} (hf : P.funcs[f]? = some fn)
    (hc : ∀ (args : Array Value) (w : World), (callFunc f args).run P w = .ok (.enter f args) w) (hb : fn.body = some c) (hfit : fitsC fn.ntmps c = true) (hargs : Nat.ble args.length fn.ntmps = true)
    (h : vcCode P fn.ntmps c (argEnv 0 args) H (vcPost P fn.results.toList R)) : CallH P f args H R := by
  have hargs := Nat.le_of_ble_eq_true hargs
  refine ⟨fun w hw => ?_⟩
  rw [hc]
  refine ⟨Same.refl w, ?_⟩
  refine calls_of_wp hf hb ?_
  have hcode := (vcCode_sound c _ H _ hfit h).out w { tmps := args.toArray ++ Array.replicate (fn.ntmps - args.toArray.size) undef, defers := [] } w ?_ rfl (by simp; omega) (Same.refl w) hw
  · exact wp_mono hcode fun e a w h => vcPost_sound rfl h
  · intro i v hv
    obtain ⟨_, h2⟩ := argEnv_get args 0 i v hv
    have h2 : args[i]? = some v := by simpa using h2
    have hlt : i < args.length := by
      rcases Nat.lt_or_ge i args.length with h | h
      · exact h
      · rw [List.getElem?_eq_none h] at h2; cases h2
    simp only
    rw [Array.getElem?_append_left (by simpa using hlt)]
    simpa using h2

def vcPostX (P : Program) (rs : List ResultVar) (R : Value → Heap → Prop) (X : Panics) : Post := fun e env H => match e with
  | .normal => vcRes P env H rs fun vs => R (one vs) H
  | .ret => vcRes P env H rs fun vs => R (one vs) H
  | .panic c => X c H
  | _ => False
theorem vcPostX_sound {P : Program} {fn : Func} {R : Value → Heap → Prop} {X : Panics} {w0 : World} {n : Nat} {e : Exit} {a : Act} {w : World} {a0 : Act} {ms : List Nat} (h0 : a0.defers = []) (h : LiftQ w0 n a0 ms (vcPostX P fn.results.toList R X) e a w) :
    bodyPost P fn (fun e w' => Same w0 w' ∧ ((∃ v, e = .returned v ∧ R v w'.heap) ∨ ∃ c, e = .panicked c ∧ X c w'.heap)) e a w := by
  obtain ⟨hd, hn, hs, hfr, env, ha, hk⟩ := h
  cases e with
  | panic c => exact ⟨hd.trans h0, hs, .inr ⟨c, rfl, hk⟩⟩
  | normal =>
    have := vcPost_sound (P := P) (fn := fn) (R := R) (e := .normal) (a0 := a0) (ms := ms) (w0 := w0) (n := n) h0 ⟨hd, hn, hs, hfr, env, ha, hk⟩
    exact ⟨this.1, let ⟨v, h1, h2, h3⟩ := this.2; ⟨v, h1, h2, .inl h3⟩⟩
  | ret =>
    have := vcPost_sound (P := P) (fn := fn) (R := R) (e := .ret) (a0 := a0) (ms := ms) (w0 := w0) (n := n) h0 ⟨hd, hn, hs, hfr, env, ha, hk⟩
    exact ⟨this.1, let ⟨v, h1, h2, h3⟩ := this.2; ⟨v, h1, h2, .inl h3⟩⟩
  | exit j => exact hk.elim
  | goto j => exact hk.elim
  | outgrown => exact hk.elim
/-- a call from its body, where it may panic (and has no deferred calls) -/
theorem CallX.body {P : Program} {f : FuncId} {fn : Func} {c : Code} {args : List Value} {H : Heap} {R : Value → Heap → Prop} {X : Panics} (hf : P.funcs[f]? = some fn)
    (hc : ∀ (args : Array Value) (w : World), (callFunc f args).run P w = .ok (.enter f args) w) (hb : fn.body = some c) (hfit : fitsC fn.ntmps c = true) (hargs : Nat.ble args.length fn.ntmps = true)
    (h : vcCode P fn.ntmps c (argEnv 0 args) H (vcPostX P fn.results.toList R X)) : CallX P f args H R X := by
  have hargs := Nat.le_of_ble_eq_true hargs
  refine ⟨fun w hw => ?_⟩
  rw [hc]
  refine ⟨Same.refl w, ?_⟩
  refine calls_of_wp hf hb ?_
  have hcode := (vcCode_sound c _ H _ hfit h).out w { tmps := args.toArray ++ Array.replicate (fn.ntmps - args.toArray.size) undef, defers := [] } w ?_ rfl (by simp; omega) (Same.refl w) hw
  · exact wp_mono hcode fun e a w h => vcPostX_sound rfl h
  · intro i v hv
    obtain ⟨_, h2⟩ := argEnv_get args 0 i v hv
    have h2 : args[i]? = some v := by simpa using h2
    have hlt : i < args.length := by
      rcases Nat.lt_or_ge i args.length with h | h
      · exact h
      · rw [List.getElem?_eq_none h] at h2; cases h2
    simp only
    rw [Array.getElem?_append_left (by simpa using hlt)]
    simpa using h2

/- ---------- loops and cuts ---------- -/
def hasN (i : Nat) : List Nat → Bool
  | [] => false
  | j :: l => match Nat.beq i j with
    | true => true
    | false => hasN i l
/-- an environment without these slots -/
def less (ms : List Nat) : Env → Env
  | [] => []
  | (j, v) :: l => match hasN j ms with
    | true => less ms l
    | false => (j, v) :: less ms l

/-- the environment bears these slots -/
def Bears (env : Env) : Env → Prop
  | [] => True
  | (j, v) :: l => (match get env j with | some u => u = v | none => False) ∧ Bears env l

theorem hasN_iff {i : Nat} : ∀ {l : List Nat}, hasN i l = true ↔ i ∈ l
  | [] => by simp [hasN]
  | j :: l => by
    unfold hasN
    by_cases h : i = j
    · subst h; simp
    · have : Nat.beq i j = false := by
        cases hb : Nat.beq i j
        · rfl
        · exact absurd (Nat.eq_of_beq_eq_true hb) h
      simp [this, h, hasN_iff (l := l)]

theorem less_get {ms : List Nat} : ∀ {env : Env} {i : Nat} {v : Value}, get (less ms env) i = some v → i ∉ ms
  | [], i, v, h => by simp [less, get] at h
  | (j, u) :: l, i, v, h => by
    unfold less at h
    split at h
    · exact less_get h
    · rename_i hj
      rw [get_cons] at h
      by_cases hij : i = j
      · subst hij; intro hm; rw [hasN_iff.2 hm] at hj; cases hj
      · rw [if_neg hij] at h; exact less_get h
theorem less_get' {ms : List Nat} : ∀ {env : Env} {i : Nat} {v : Value}, get (less ms env) i = some v → get env i = some v
  | [], i, v, h => by simp [less, get] at h
  | (j, u) :: l, i, v, h => by
    have hi := less_get h
    unfold less at h
    rw [get_cons]
    split at h
    · rename_i hj
      have : i ≠ j := fun e => hi (e ▸ hasN_iff.1 hj)
      rw [if_neg this]
      exact less_get' h
    · rw [get_cons] at h
      by_cases hij : i = j
      · subst hij; simpa using h
      · rw [if_neg hij] at h ⊢; exact less_get' h

theorem bears_get {env : Env} {a : Act} (ha : Agrees env a) : ∀ {S : Env}, Bears env S → ∀ p ∈ S, a.tmps[p.1]? = some p.2
  | [], _, p, hp => by cases hp
  | (j, v) :: l, h, p, hp => by
    obtain ⟨h1, h2⟩ := h
    cases hp with
    | head =>
      dsimp only
      cases hg : get env j with
      | none => rw [hg] at h1; exact h1.elim
      | some u => rw [hg] at h1; dsimp only at h1; subst h1; exact ha _ _ hg
    | tail _ hp => exact bears_get ha h2 p hp

theorem agrees_app {a : Act} {E : Env} (hE : Agrees E a) : ∀ {S : Env}, (∀ p ∈ S, a.tmps[p.1]? = some p.2) → Agrees (S ++ E) a
  | [], _ => hE
  | (j, v) :: l, h => by
    intro i u hu
    rw [List.cons_append, get_cons] at hu
    by_cases hi : i = j
    · subst hi; simp at hu; subst hu; exact h (i, v) (by simp)
    · rw [if_neg hi] at hu
      exact agrees_app hE (fun p hp => h p (by simp [hp])) i u hu



theorem less_agrees {env : Env} {a a' : Act} {ms : List Nat} (ha : Agrees env a) (h : ∀ i, i ∉ ms → a'.tmps[i]? = a.tmps[i]?) : Agrees (less ms env) a' :=
  fun i v hv => (h i (less_get hv)).trans (ha i v (less_get' hv))

/- the environment at a loop's head or behind a cut, written out at once -/
def forceL : List Nat → List Nat → (List Nat → Prop) → Prop
  | [], acc, K => K acc
  | x :: l, acc, K => forceL l (x :: acc) K
def hasE (i : Nat) : Env → Bool
  | [] => false
  | (j, _) :: l => match Nat.beq i j with
    | true => true
    | false => hasE i l
def lessK (ms : List Nat) : Env → Env → (Env → Prop) → Prop
  | [], acc, K => K acc
  | (j, v) :: l, acc, K => match hasN j ms with
    | true => lessK ms l acc K
    | false => match hasE j acc with
      | true => lessK ms l acc K
      | false => lessK ms l ((j, v) :: acc) K
def appR : Env → Env → (Env → Prop) → Prop
  | [], E, K => K E
  | p :: l, E, K => appR l (p :: E) K
def enterK (ms : List Nat) (env S : Env) (K : Env → Prop) : Prop := forceL ms [] fun ms => lessK ms env [] fun E => appR S E K

theorem forceL_spec {K : List Nat → Prop} : ∀ (l acc : List Nat), forceL l acc K → ∃ r, K r ∧ ∀ x, x ∈ r ↔ x ∈ l ∨ x ∈ acc
  | [], acc, h => ⟨acc, h, fun x => by simp⟩
  | y :: l, acc, h => by
    obtain ⟨r, hr, hm⟩ := forceL_spec l (y :: acc) h
    refine ⟨r, hr, fun x => ?_⟩
    rw [hm]
    simp only [List.mem_cons]
    constructor
    · rintro (h | h | h)
      · exact .inl (.inr h)
      · exact .inl (.inl h)
      · exact .inr h
    · rintro ((h | h) | h)
      · exact .inr (.inl h)
      · exact .inl h
      · exact .inr (.inr h)
theorem hasE_false {i : Nat} : ∀ {E : Env}, hasE i E = false → get E i = none
  | [], _ => rfl
  | (j, v) :: l, h => by
    unfold hasE at h
    rw [get_cons]
    split at h
    · cases h
    · rename_i hb
      rw [if_neg (fun e => by subst e; simp at hb)]
      exact hasE_false h
/-- all that an act bears of an environment written out -/
theorem lessK_spec {ms : List Nat} {K : Env → Prop} {a : Act} {env0 : Env} (ha : ∀ i v, i ∉ ms → get env0 i = some v → a.tmps[i]? = some v) : ∀ (l acc : Env), lessK ms l acc K → Agrees acc a → (∀ i, i ∉ ms → get acc i = none → get env0 i = get l i) → ∃ E, K E ∧ Agrees E a
  | [], acc, h, hacc, _ => ⟨acc, h, hacc⟩
  | (j, v) :: l, acc, h, hacc, hrest => by
    unfold lessK at h
    split at h
    · rename_i hj
      refine lessK_spec ha l acc h hacc fun i hi hn => ?_
      rw [hrest i hi hn, get_cons, if_neg (fun e => by subst e; exact hi (hasN_iff.1 hj))]
    · rename_i hj
      have hjm : j ∉ ms := fun hm => by rw [hasN_iff.2 hm] at hj; cases hj
      split at h
      · rename_i hja
        refine lessK_spec ha l acc h hacc fun i hi hn => ?_
        rw [hrest i hi hn, get_cons, if_neg]
        intro e
        subst e
        have : ∀ {E : Env}, hasE i E = true → get E i ≠ none := by
          intro E
          induction E with
          | nil => intro h; cases h
          | cons p l ih =>
            obtain ⟨k, u⟩ := p
            intro h
            unfold hasE at h
            rw [get_cons]
            split at h
            · rename_i hb; rw [if_pos (Nat.eq_of_beq_eq_true hb)]; simp
            · rename_i hb
              rw [if_neg (fun e => by subst e; simp at hb)]
              exact ih h
        exact this hja hn
      · rename_i hja
        have hjn := hasE_false hja
        have hjv : get env0 j = some v := by rw [hrest j hjm hjn, get_cons, if_pos rfl]
        refine lessK_spec ha l _ h ?_ fun i hi hn => ?_
        · intro i u hu
          rw [get_cons] at hu
          by_cases e : i = j
          · subst e; simp at hu; subst hu; exact ha i v hjm hjv
          · rw [if_neg e] at hu; exact hacc i u hu
        · rw [get_cons] at hn
          by_cases e : i = j
          · subst e; simp at hn
          · rw [if_neg e] at hn
            rw [hrest i hi hn, get_cons, if_neg e]
theorem appR_spec {K : Env → Prop} {a : Act} : ∀ (S E : Env), appR S E K → (∀ p ∈ S, a.tmps[p.1]? = some p.2) → Agrees E a → ∃ E', K E' ∧ Agrees E' a
  | [], E, h, _, hE => ⟨E, h, hE⟩
  | (j, v) :: l, E, h, hS, hE => appR_spec l _ h (fun p hp => hS p (by simp [hp])) (hE.drop (hS (j, v) (by simp)))
theorem forceL_mono {K K' : List Nat → Prop} (h : ∀ r, K r → K' r) : ∀ (l acc : List Nat), forceL l acc K → forceL l acc K'
  | [], acc, hk => h _ hk
  | x :: l, acc, hk => forceL_mono h l _ hk
theorem lessK_mono {ms : List Nat} {K K' : Env → Prop} (h : ∀ r, K r → K' r) : ∀ (l acc : Env), lessK ms l acc K → lessK ms l acc K'
  | [], acc, hk => h _ hk
  | (j, v) :: l, acc, hk => by
    unfold lessK at hk ⊢
    split
    · rename_i hj; rw [hj] at hk; exact lessK_mono h l _ hk
    · rename_i hj
      rw [hj] at hk
      dsimp only at hk
      split
      · rename_i ha; rw [ha] at hk; exact lessK_mono h l _ hk
      · rename_i ha; rw [ha] at hk; exact lessK_mono h l _ hk
theorem appR_mono {K K' : Env → Prop} (h : ∀ r, K r → K' r) : ∀ (S E : Env), appR S E K → appR S E K'
  | [], E, hk => h _ hk
  | p :: l, E, hk => appR_mono h l _ hk
theorem enterK_mono {ms : List Nat} {env S : Env} {K K' : Env → Prop} (h : ∀ r, K r → K' r) (hk : enterK ms env S K) : enterK ms env S K' :=
  forceL_mono (fun _ hk => lessK_mono (fun _ hk => appR_mono h _ _ hk) _ _ hk) _ _ hk
theorem enterK_spec {ms : List Nat} {env S : Env} {K : Env → Prop} (h : enterK ms env S K) {a a' : Act} (ha : Agrees env a) (hfr : ∀ i, i ∉ ms → a'.tmps[i]? = a.tmps[i]?) (hS : ∀ p ∈ S, a'.tmps[p.1]? = some p.2) : ∃ E, K E ∧ Agrees E a' := by
  obtain ⟨ms', h, hm⟩ := forceL_spec ms [] h
  have hm : ∀ x, x ∈ ms' ↔ x ∈ ms := fun x => by rw [hm]; simp
  obtain ⟨E, h, hE⟩ := lessK_spec (a := a') (env0 := env) (fun i v hi hv => by rw [hfr i (fun h => hi ((hm i).2 h))]; exact ha i v hv) env [] h (fun i v hv => by simp [get] at hv) (fun i _ _ => rfl)
  exact appR_spec S E h hS hE

/-- A LOOP, by its states: the slots and the heap that belong to a state; every round lowers the measure. -/
theorem LoopH.intro {σ : Type} {P : Program} {n : Nat} {c : Code} {env : Env} {H : Heap} {Q : Post} (S : σ → Env) (I : σ → Heap → Prop) (μ : σ → Nat) (s0 : σ) (h0 : Bears env (S s0)) (hI : I s0 H)
    (round : ∀ s H, I s H → enterK (mods c) env (S s) fun E => vcCode P n c E H fun e env' H' => match e with
      | .normal => ∃ s', Bears env' (S s') ∧ I s' H' ∧ μ s' < μ s
      | e => Q e env' H') : LoopH P n c env H Q := by
  refine ⟨fun hf => ⟨fun w0 a w ha hd hn hs hw => ?_⟩⟩
  let J : Nat → Act → World → Prop := fun m a' w' => a'.defers = a.defers ∧ a'.tmps.size = n ∧ Same w0 w' ∧ (∀ i, i ∉ mods c → a'.tmps[i]? = a.tmps[i]?) ∧ ∃ s, (∀ p ∈ S s, a'.tmps[p.1]? = some p.2) ∧ I s w'.heap ∧ μ s = m
  intro b k cs
  have key : ∀ m a' w', J m a' w' → ∃ e a2 w2, LiftQ w0 n a (mods (.loop c)) Q e a2 w2 ∧ Arrives P (lone (b.at a' (.code c :: .inLoop c :: k)) cs w') b k cs e a2 w2 := by
    intro m
    induction m using Nat.strongRecOn with
    | _ m ih =>
      intro a' w' ⟨h1, h2, h3, h4, s, h5, h6, h7⟩
      obtain ⟨E, hcode, hE⟩ := enterK_spec (round s _ h6) ha h4 h5
      obtain ⟨e, a1, w1, ⟨g1', g2, g3, g4, env1, g5, g6⟩, harr⟩ := (vcCode_sound c _ _ _ hf hcode).out w0 a' w' hE rfl h2 h3 rfl b (.inLoop c :: k) cs
      have g1 := g1'.trans h1
      have hfr : ∀ i, i ∉ mods c → a1.tmps[i]? = a.tmps[i]? := fun i hi => (g4 i hi).trans (h4 i hi)
      cases e with
      | normal =>
        obtain ⟨s', hb, hI', hlt⟩ := g6
        obtain ⟨e2, a2, w2, hq2, harr2⟩ := ih (μ s') (h7 ▸ hlt) a1 w1 ⟨g1, g2, g3, hfr, s', bears_get g5 hb, hI', rfl⟩
        exact ⟨e2, a2, w2, hq2, .of_steps (Steps.trans harr (.one step_inLoop)) harr2⟩
      | exit id => exact ⟨_, a1, w1, ⟨g1, g2, g3, hfr, env1, g5, g6⟩, .pass (x := .inLoop c) rfl (fun _ _ => .inl (by simp)) harr⟩
      | goto l => exact ⟨_, a1, w1, ⟨g1, g2, g3, hfr, env1, g5, g6⟩, .pass (x := .inLoop c) rfl (fun _ _ => .inl (by simp)) harr⟩
      | ret => exact ⟨_, a1, w1, ⟨g1, g2, g3, hfr, env1, g5, g6⟩, .pass (x := .inLoop c) rfl (fun _ _ => .inl (by simp)) harr⟩
      | panic ch => exact ⟨_, a1, w1, ⟨g1, g2, g3, hfr, env1, g5, g6⟩, .pass (x := .inLoop c) rfl (fun _ _ => .inl (by simp)) harr⟩
      | outgrown => exact ⟨_, a1, w1, ⟨g1, g2, g3, hfr, env1, g5, g6⟩, .pass (x := .inLoop c) rfl (fun _ _ => .inl (by simp)) harr⟩
  obtain ⟨e, a', w', hq, harr⟩ := key (μ s0) a w ⟨hd, hn, hs, fun _ _ => rfl, s0, bears_get ha h0, hw ▸ hI, rfl⟩
  exact ⟨e, a', w', hq, .of_steps (.one step_loop) harr⟩

theorem SeqH.go {P : Program} {n : Nat} {x y : Code} {env : Env} {H : Heap} {Q : Post} (h : vcCode P n x env H fun e env H => match e with
      | .normal => vcCode P n y env H Q
      | e => Q e env H) : SeqH P n x y env H Q := by
  refine ⟨fun hf => ?_⟩
  simp only [fitsC, Bool.and_eq_true] at hf
  exact CodeH.seq (vcCode_sound x env H _ hf.1 h) (fun env' H' h => vcCode_sound y env' H' Q hf.2 h) (fun e env' H' hne h => by cases e <;> first | exact absurd rfl hne | exact h)

theorem CodeH.cut {σ : Type} {P : Program} {n : Nat} {x y : Code} {env : Env} {H : Heap} {Q : Post} (S : σ → Env) (J : σ → Heap → Prop) (hx : CodeH P n x env H fun e env' H' => match e with
      | .normal => ∃ s, Bears env' (S s) ∧ J s H'
      | e => Q e env' H') (hy : ∀ s H', J s H' → enterK (mods x) env (S s) fun E => CodeH P n y E H' Q) : CodeH P n (.seq x y) env H Q := by
  refine ⟨fun w0 a w ha hd hsz hs hw => wp_seq (wp_mono (hx.out w0 a w ha hd hsz hs hw) ?_)⟩
  intro e a' w' ⟨h1, h2, h3, hfr, env', h4, h5⟩
  cases e with
  | normal =>
    obtain ⟨s, hb, hJ⟩ := h5
    obtain ⟨E, hcode, hE⟩ := enterK_spec (hy s _ hJ) ha hfr (bears_get h4 hb)
    refine wp_mono (hcode.out w0 a' w' hE rfl h2 h3 rfl) ?_
    intro e a2 w2 ⟨g1, g2, g3, gfr, env2, g4, g5⟩
    exact ⟨g1.trans h1, g2, g3, fun i hi => (gfr i (fun hm => hi (by simp [mods, hm]))).trans (hfr i (fun hm => hi (by simp [mods, hm]))), env2, g4, g5⟩
  | exit j => exact ⟨h1, h2, h3, fun i hi => hfr i (fun hm => hi (by simp [mods, hm])), env', h4, h5⟩
  | goto j => exact ⟨h1, h2, h3, fun i hi => hfr i (fun hm => hi (by simp [mods, hm])), env', h4, h5⟩
  | ret => exact ⟨h1, h2, h3, fun i hi => hfr i (fun hm => hi (by simp [mods, hm])), env', h4, h5⟩
  | panic c => exact ⟨h1, h2, h3, fun i hi => hfr i (fun hm => hi (by simp [mods, hm])), env', h4, h5⟩
  | outgrown => exact ⟨h1, h2, h3, fun i hi => hfr i (fun hm => hi (by simp [mods, hm])), env', h4, h5⟩

/-- A CUT: what is known behind the first piece, by states. -/
theorem SeqH.cut {σ : Type} {P : Program} {n : Nat} {x y : Code} {env : Env} {H : Heap} {Q : Post} (S : σ → Env) (J : σ → Heap → Prop) (hx : vcCode P n x env H fun e env' H' => match e with
      | .normal => ∃ s, Bears env' (S s) ∧ J s H'
      | e => Q e env' H') (hy : ∀ s H', J s H' → enterK (mods x) env (S s) fun E => vcCode P n y E H' Q) : SeqH P n x y env H Q := by
  refine ⟨fun hf => ?_⟩
  simp only [fitsC, Bool.and_eq_true] at hf
  exact CodeH.cut S J (vcCode_sound x env H _ hf.1 hx) fun s H' hJ => enterK_mono (fun E h => vcCode_sound y E H' Q hf.2 h) (hy s H' hJ)

/-- A CUT behind two pieces. -/
theorem SeqH.cut2 {σ : Type} {P : Program} {n : Nat} {x y z : Code} {env : Env} {H : Heap} {Q : Post} (S : σ → Env) (J : σ → Heap → Prop) (hx : vcCode P n x env H fun e env' H' => match e with
      | .normal => vcCode P n y env' H' fun e env' H' => match e with
        | .normal => ∃ s, Bears env' (S s) ∧ J s H'
        | e => Q e env' H'
      | e => Q e env' H') (hz : ∀ s H', J s H' → enterK (mods x ++ mods y) env (S s) fun E => vcCode P n z E H' Q) : SeqH P n x (.seq y z) env H Q := by
  refine ⟨fun hf => ?_⟩
  simp only [fitsC, Bool.and_eq_true] at hf
  refine ⟨fun w0 a w ha hd hsz hs hw => wp_seq (wp_mono ((vcCode_sound x env H _ hf.1 hx).out w0 a w ha hd hsz hs hw) ?_)⟩
  intro e a' w' ⟨h1, h2, h3, hfr, env', h4, h5⟩
  have up : ∀ {e a' w' env'}, a'.defers = a.defers → a'.tmps.size = n → Same w0 w' → (∀ i, i ∉ mods x ++ mods y → a'.tmps[i]? = a.tmps[i]?) → Agrees env' a' → Q e env' w'.heap → LiftQ w0 n a (mods (.seq x (.seq y z))) Q e a' w' :=
    fun g1 g2 g3 g4 g5 g6 => ⟨g1, g2, g3, fun i hi => g4 i (fun hm => hi (by simp only [mods, List.mem_append] at hm ⊢; rcases hm with h | h <;> simp [h])), _, g5, g6⟩
  have lft : ∀ i, i ∉ mods x ++ mods y → a'.tmps[i]? = a.tmps[i]? := fun i hi => hfr i fun hm => hi (by simp [hm])
  cases e with
  | normal =>
    refine wp_seq (wp_mono ((vcCode_sound y env' w'.heap _ hf.2.1 h5).out w0 a' w' h4 rfl h2 h3 rfl) ?_)
    intro e a2 w2 ⟨g1', g2, g3, gfr, env2, g4, g5⟩
    have g1 := g1'.trans h1
    have fr2 : ∀ i, i ∉ mods x ++ mods y → a2.tmps[i]? = a.tmps[i]? := fun i hi => (gfr i fun hm => hi (by simp [hm])).trans (lft i hi)
    cases e with
    | normal =>
      obtain ⟨s, hb, hJ⟩ := g5
      obtain ⟨E, hcode, hE⟩ := enterK_spec (hz s _ hJ) ha fr2 (bears_get g4 hb)
      refine wp_mono ((vcCode_sound z _ w2.heap Q hf.2.2 hcode).out w0 a2 w2 hE rfl g2 g3 rfl) ?_
      intro e a3 w3 ⟨k1, k2, k3, kfr, env3, k4, k5⟩
      exact ⟨k1.trans g1, k2, k3, fun i hi => (kfr i fun hm => hi (by simp [mods, hm])).trans (fr2 i fun hm => hi (by simp only [mods, List.mem_append] at hm ⊢; rcases hm with h | h <;> simp [h])), env3, k4, k5⟩
    | exit j => exact up g1 g2 g3 fr2 g4 g5
    | goto j => exact up g1 g2 g3 fr2 g4 g5
    | ret => exact up g1 g2 g3 fr2 g4 g5
    | panic c => exact up g1 g2 g3 fr2 g4 g5
    | outgrown => exact up g1 g2 g3 fr2 g4 g5
  | exit j => exact up h1 h2 h3 lft h4 h5
  | goto j => exact up h1 h2 h3 lft h4 h5
  | ret => exact up h1 h2 h3 lft h4 h5
  | panic c => exact up h1 h2 h3 lft h4 h5
  | outgrown => exact up h1 h2 h3 lft h4 h5

/-- A REGION THAT DRAWS ITS ORDER, walked in the text's order: its operations commute where they are unordered. -/
theorem DrawH.text {P : Program} {n id : Nat} {l : List Oper} {env : Env} {H : Heap} {k : Env → Heap → Prop} (hm : P.follows .mixedOrders = true) (hB : lexOk P l.toArray = true)
    (h : vcOps P l NoX 0 l env H k) : DrawH P n id l.toArray env H k := by
  refine ⟨fun hf => ⟨fun w0 a w ha hd hn hs hw => wp_region_any hm ?_⟩⟩
  have hf : ∀ o ∈ l.toArray.toList, fitsO n o = true := List.all_eq_true.1 hf
  have hT := vcOps_sound (ops := l.toArray) (a0 := a) (w0 := w0) (Q := LiftQ w0 n a (mods (.region id l.toArray true)) fun e env H => e = .normal ∧ k env H)
    (fun a w h => Lift.mono h fun _ _ h => ⟨rfl, h⟩) hf l 0 (by simp) env H (by simpa using h) a { w with drawn := w.drawn + 1 } ha hd hn (hs.trans ⟨rfl, rfl, rfl⟩) (fun _ _ => rfl) hw
  refine wpAny_of_T hB l.toArray.size (List.range' 0 l.length) (Array.replicate l.toArray.size false) a _ (by simp) ?_ hT
  refine ⟨List.pairwise_lt_range', fun j hj => by simpa using hj, fun j hj => ?_, by simp, fun j oj hoj hl => ?_⟩
  · have hj' : j < l.length := by simpa using hj
    simp [hj']
  · exfalso
    rw [getD_replicate] at hl
    cases hl

/- ---------- rules of the heads ---------- -/
theorem wrap_i64 {e : Int} (h1 : -9223372036854775808 ≤ e) (h2 : e ≤ 9223372036854775807) : IntKind.i64.wrap e = e := by
  simp only [IntKind.wrap, IntKind.bits, IntKind.signed]
  have : (2 : Int) ^ 64 = 18446744073709551616 := by decide
  have h63 : (2 : Int) ^ (64 - 1) = 9223372036854775808 := by decide
  simp only [this, h63]
  by_cases h : 0 ≤ e
  · rw [Int.emod_eq_of_lt h (by omega)]
    rw [if_neg (by simp; omega)]
  · have : e % 18446744073709551616 = e + 18446744073709551616 := by omega
    rw [this, if_pos (by simp; omega)]
    omega
theorem ArithH.i64 {e : Int} {K : Int → Prop} (h1 : -9223372036854775808 ≤ e ∧ e ≤ 9223372036854775807) (h : K e) : ArithH .i64 e K := ⟨by rw [wrap_i64 h1.1 h1.2]; exact h⟩
theorem wrap_small (k : IntKind) {e : Int} (hs : k.signed = false) (h1 : 0 ≤ e) (h2 : e < 2 ^ k.bits) : k.wrap e = e := by
  simp only [IntKind.wrap, hs]
  rw [Int.emod_eq_of_lt h1 h2]
  simp
theorem ArithH.u8 {e : Int} {K : Int → Prop} (h1 : 0 ≤ e ∧ e < 256) (h : K e) : ArithH .u8 e K := ⟨by rw [wrap_small .u8 rfl h1.1 (by simpa [IntKind.bits] using h1.2)]; exact h⟩
theorem ArithH.u32 {e : Int} {K : Int → Prop} (h1 : 0 ≤ e ∧ e < 4294967296) (h : K e) : ArithH .u32 e K := ⟨by rw [wrap_small .u32 rfl h1.1 (by simpa [IntKind.bits] using h1.2)]; exact h⟩
theorem ArithH.u64 {e : Int} {K : Int → Prop} (h1 : 0 ≤ e ∧ e < 18446744073709551616) (h : K e) : ArithH .u64 e K := ⟨by rw [wrap_small .u64 rfl h1.1 (by simpa [IntKind.bits] using h1.2)]; exact h⟩
theorem ArithH.u32m {e : Int} {K : Int → Prop} (h : K (e % 4294967296)) : ArithH .u32 e K := ⟨h⟩
theorem ArithH.u64m {e : Int} {K : Int → Prop} (h : K (e % 18446744073709551616)) : ArithH .u64 e K := ⟨h⟩
theorem ArithH.u8m {e : Int} {K : Int → Prop} (h : K (e % 256)) : ArithH .u8 e K := ⟨h⟩
theorem ArithH.byte32 {x : UInt8} {K : Int → Prop} (h : K x.toNat) : ArithH .u32 x.toNat K := by
  have := x.toNat_lt
  exact ArithH.u32 (by omega) h
theorem ArithH.byte64 {x : UInt8} {K : Int → Prop} (h : K x.toNat) : ArithH .u64 x.toNat K := by
  have := x.toNat_lt
  exact ArithH.u64 (by omega) h
theorem ArithH.byteInt {x : UInt8} {K : Int → Prop} (h : K x.toNat) : ArithH .i64 x.toNat K := by
  have := x.toNat_lt
  exact ArithH.i64 (by omega) h
theorem ArithH.byte8 {x : UInt8} {K : Int → Prop} (h : K x.toNat) : ArithH .u8 x.toNat K := by
  have := x.toNat_lt
  exact ArithH.u8 (by omega) h
theorem QuoH.i64 {a c : Int} {K : Int → Prop} (h : (0 ≤ a ∧ a ≤ 9223372036854775807) ∧ 0 < c) (hk : K (a / c)) : QuoH .i64 a c K := by
  refine ⟨by omega, ?_⟩
  rw [Int.tdiv_eq_ediv_of_nonneg h.1.1]
  have h1 : 0 ≤ a / c := Int.ediv_nonneg h.1.1 (by omega)
  have h2 : a / c ≤ a := Int.ediv_le_self _ h.1.1
  rw [wrap_i64 (by omega) (by omega)]
  exact hk
theorem RemH.pos {a c : Int} {K : Int → Prop} (h : 0 ≤ a ∧ 0 < c) (hk : K (a % c)) : RemH a c K := by
  refine ⟨by omega, ?_⟩
  rw [Int.tmod_eq_emod_of_nonneg h.1]
  exact hk
theorem IdxH.int {i : Int} {n : Nat} {K : Nat → Prop} (h0 : 0 ≤ i) (h : i < n) (hk : K i.toNat) : IdxH i n K := ⟨h0, h, hk⟩
theorem BndH.int {i : Int} {n : Nat} {K : Nat → Prop} (h0 : 0 ≤ i) (h : i ≤ n) (hk : K i.toNat) : BndH i n K := ⟨h0, h, hk⟩
theorem IdxH.nat {i : Int} {n : Nat} {K : Nat → Prop} (j : Nat) (hi : i = j) (h : j < n) (hk : K j) : IdxH i n K := ⟨by omega, by omega, by subst hi; exact hk⟩
theorem BndH.nat {i : Int} {n : Nat} {K : Nat → Prop} (j : Nat) (hi : i = j) (h : j ≤ n) (hk : K j) : BndH i n K := ⟨by omega, by omega, by subst hi; exact hk⟩
theorem SplitH.lit_t {K : Bool → Prop} (h : K true) : SplitH true K := ⟨fun _ => h, fun h => by cases h⟩
theorem SplitH.lit_f {K : Bool → Prop} (h : K false) : SplitH false K := ⟨fun h => (by cases h), fun _ => h⟩
theorem CondH.pos {b : Bool} {A B : Prop} (hb : b = true) (h : A) : CondH b A B := ⟨fun _ => h, fun h => by rw [hb] at h; cases h⟩
theorem CondH.neg {b : Bool} {A B : Prop} (hb : b = false) (h : B) : CondH b A B := ⟨fun h => (by rw [hb] at h; cases h), fun _ => h⟩
theorem CondH.lit_t {A B : Prop} (h : A) : CondH true A B := ⟨fun _ => h, fun h => by cases h⟩
theorem CondH.lit_f {A B : Prop} (h : B) : CondH false A B := ⟨fun h => (by cases h), fun _ => h⟩

theorem CondH.bnot {b : Bool} {A B : Prop} (h : CondH b B A) : CondH (!b) A B := ⟨fun e => h.f (by simpa using e), fun e => h.t (by simpa using e)⟩
theorem SplitH.pos {b : Bool} {K : Bool → Prop} (hb : b = true) (h : K true) : SplitH b K := by subst hb; exact SplitH.lit_t h
theorem SplitH.neg {b : Bool} {K : Bool → Prop} (hb : b = false) (h : K false) : SplitH b K := by subst hb; exact SplitH.lit_f h
end Go.Vc
