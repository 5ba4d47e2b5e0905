import Derived.Still
import Derived.Tactics
import Derived.Laws.Sem
namespace Go.Lx

def Calm {α : Type} (P : Program) (s : Sem α) : Prop := (∃ v, ∀ w, s.run P w = .ok v w) ∨ (∀ w v w', s.run P w ≠ .ok v w')
def Never {α : Type} (P : Program) (s : Sem α) : Prop := ∀ w v w', s.run P w ≠ .ok v w'
def Steady {α : Type} (P : Program) (s : Sem α) : Prop := ∀ w v w', s.run P w = .ok v w' → w' = w

section
variable {P : Program} {α β : Type}

theorem Calm.ok {s : Sem α} (v : α) (h : ∀ w, s.run P w = .ok v w) : Calm P s := .inl ⟨v, h⟩
theorem Calm.never {s : Sem α} (h : Never P s) : Calm P s := .inr h
theorem Calm.pure (v : α) : Calm P (Pure.pure v : Sem α) := .inl ⟨v, fun _ => rfl⟩
theorem Never.halt (h : Halt) : Never P (Sem.halt h : Sem α) := fun w v w' => by simp
theorem Never.bind {x : Sem α} {f : α → Sem β} (hx : Never P x) : Never P (x >>= f) := fun w u w' h => by
  simp only [Sem.run_bind] at h
  cases hr : x.run P w with
  | ok a w1 => exact hx _ _ _ hr
  | halt _ _ => rw [hr] at h; simp at h
theorem Never.bind2 {x : Sem α} {f : α → Sem β} (hf : ∀ v, Never P (f v)) : Never P (x >>= f) := fun w u w' h => by
  simp only [Sem.run_bind] at h
  cases hr : x.run P w with
  | ok a w1 => rw [hr] at h; exact hf _ _ _ _ h
  | halt _ _ => rw [hr] at h; simp at h
theorem Calm.bind {x : Sem α} {f : α → Sem β} (hx : Calm P x) (hf : ∀ v, Calm P (f v)) : Calm P (x >>= f) := by
  rcases hx with ⟨v, hv⟩ | hn
  · rcases hf v with ⟨u, hu⟩ | hn
    · exact .inl ⟨u, fun w => by simp [hv, hu]⟩
    · exact .inr fun w u w' => by simp only [Sem.run_bind, hv, Result.andThen_ok]; exact hn w u w'
  · exact .inr (Never.bind hn)
theorem Calm.ite {c : Prop} [Decidable c] {x y : Sem α} (hx : c → Calm P x) (hy : ¬ c → Calm P y) : Calm P (if c then x else y) := by
  split
  · exact hx ‹_›
  · exact hy ‹_›
theorem Calm.program : Calm P program := .inl ⟨P, fun _ => rfl⟩
theorem Calm.stuck (s : String) : Calm P (stuck s : Sem α) := .inr (Never.halt _)
theorem Calm.unsupported (u : Unsupported) : Calm P (unsupported u : Sem α) := .inr (Never.halt _)
theorem Calm.typeInfo (t : TypeId) : Calm P (typeInfo t) := by
  unfold Go.typeInfo
  refine Calm.bind Calm.program fun p => ?_
  split
  · exact Calm.pure _
  · exact Calm.stuck _
theorem Calm.underlying (t : TypeId) : Calm P (underlying t) := by
  unfold Go.underlying
  refine Calm.bind Calm.program fun p => ?_
  split
  · exact Calm.pure _
  · exact Calm.stuck _
theorem Calm.zeroValue (t : TypeId) : Calm P (zeroValue t) := by
  unfold Go.zeroValue
  refine Calm.bind (Calm.typeInfo t) fun p => ?_
  split
  · exact Calm.pure _
  · exact Calm.unsupported _
theorem Calm.sizeOf (t : TypeId) : Calm P (sizeOf t) := by
  unfold Go.sizeOf
  exact Calm.bind (Calm.typeInfo t) fun p => Calm.pure _
theorem Calm.isAgg (t : TypeId) : Calm P (isAgg t) := by
  unfold Go.isAgg
  refine Calm.bind (Calm.underlying t) fun p => ?_
  split <;> exact Calm.pure _
theorem Calm.part (t : TypeId) (cs : Array Value) (off : Nat) : Calm P (part t cs off) := by
  unfold Go.part
  refine Calm.bind (Calm.isAgg t) fun b => ?_
  split
  · exact Calm.bind (Calm.sizeOf t) fun _ => Calm.pure _
  · split
    · exact Calm.pure _
    · exact Calm.stuck _
theorem Calm.asIntOf (v : Value) : Calm P (asIntOf v) := by
  unfold Go.asIntOf
  split
  · exact Calm.pure _
  · exact Calm.unsupported _
  · exact Calm.stuck _
theorem Calm.asBool (v : Value) : Calm P (asBool v) := by
  unfold Go.asBool
  split
  · exact Calm.pure _
  · exact Calm.stuck _
theorem Calm.asAgg (v : Value) : Calm P (asAgg v) := by
  unfold Go.asAgg
  split
  · exact Calm.pure _
  · exact Calm.stuck _
theorem Never.goPanic (v : Value) : Never P (goPanic v : Sem α) := Never.halt _
theorem Never.runtimePanic (e : RuntimeError) : Never P (runtimePanic e : Sem α) := by
  unfold Go.runtimePanic
  refine Never.bind2 fun p => ?_
  cases e <;> dsimp only <;> first
    | exact Never.goPanic _
    | (refine Never.bind2 fun _ => ?_; first | exact Never.goPanic _ | (refine Never.bind2 fun _ => ?_; exact Never.goPanic _))
theorem Never.boundsPanic (k : IntKind) (x y : Int) (c : BoundsCode) : Never P (boundsPanic k x y c : Sem α) := by
  unfold Go.boundsPanic
  dsimp only
  split
  · exact Never.bind2 fun _ => Never.runtimePanic _
  · exact Never.bind2 fun _ => Never.runtimePanic _
theorem Calm.runtimePanic (e : RuntimeError) : Calm P (runtimePanic e : Sem α) := .inr (Never.runtimePanic _)
theorem Calm.boundsPanic (k : IntKind) (x y : Int) (c : BoundsCode) : Calm P (boundsPanic k x y c : Sem α) := .inr (Never.boundsPanic _ _ _ _)
theorem Calm.asAddr (v : Value) : Calm P (asAddr v) := by
  unfold Go.asAddr
  repeat' (with_reducible first
    | exact Calm.pure _ | exact Calm.stuck _ | exact Calm.unsupported _ | exact Calm.runtimePanic _ | exact Calm.boundsPanic _ _ _ _ | exact Calm.program
    | exact Calm.underlying _ | exact Calm.sizeOf _ | exact Calm.zeroValue _ | exact Calm.typeInfo _ | exact Calm.isAgg _ | exact Calm.part _ _ _ | exact Calm.asIntOf _ | exact Calm.asBool _ | exact Calm.asAgg _ 
    | refine Calm.bind ?_ (fun _ => ?_) | refine Calm.ite (fun _ => ?_) (fun _ => ?_) | split | dsimp only)
theorem Calm.sureAddr (v : Value) : Calm P (Instr.sureAddr v) := by
  unfold Go.Instr.sureAddr
  repeat' (with_reducible first
    | exact Calm.pure _ | exact Calm.stuck _ | exact Calm.unsupported _ | exact Calm.runtimePanic _ | exact Calm.boundsPanic _ _ _ _ | exact Calm.program
    | exact Calm.underlying _ | exact Calm.sizeOf _ | exact Calm.zeroValue _ | exact Calm.typeInfo _ | exact Calm.isAgg _ | exact Calm.part _ _ _ | exact Calm.asIntOf _ | exact Calm.asBool _ | exact Calm.asAgg _ 
    | refine Calm.bind ?_ (fun _ => ?_) | refine Calm.ite (fun _ => ?_) (fun _ => ?_) | split | dsimp only)
theorem Calm.sliceBound (x : Value) (y : Nat) (c : BoundsCode) : Calm P (Instr.sliceBound x y c) := by
  unfold Instr.sliceBound
  repeat' (with_reducible first
    | exact Calm.pure _ | exact Calm.stuck _ | exact Calm.unsupported _ | exact Calm.runtimePanic _ | exact Calm.boundsPanic _ _ _ _ | exact Calm.program
    | exact Calm.underlying _ | exact Calm.sizeOf _ | exact Calm.zeroValue _ | exact Calm.typeInfo _ | exact Calm.isAgg _ | exact Calm.part _ _ _ | exact Calm.asIntOf _ | exact Calm.asBool _ | exact Calm.asAgg _ 
    | refine Calm.bind ?_ (fun _ => ?_) | refine Calm.ite (fun _ => ?_) (fun _ => ?_) | split | dsimp only)
theorem Calm.sliceBounds (b : Bool) (n c : Nat) (l h m : Option Value) : Calm P (Instr.sliceBounds b n c l h m) := by
  unfold Instr.sliceBounds
  repeat' (with_reducible first
    | exact Calm.pure _ | exact Calm.stuck _ | exact Calm.unsupported _ | exact Calm.runtimePanic _ | exact Calm.boundsPanic _ _ _ _ | exact Calm.program
    | exact Calm.underlying _ | exact Calm.sizeOf _ | exact Calm.zeroValue _ | exact Calm.typeInfo _ | exact Calm.isAgg _ | exact Calm.part _ _ _ | exact Calm.asIntOf _ | exact Calm.asBool _ | exact Calm.asAgg _ | exact Calm.sliceBound _ _ _
    | refine Calm.bind ?_ (fun _ => ?_) | refine Calm.ite (fun _ => ?_) (fun _ => ?_) | split | dsimp only)
theorem Calm.slice (t : TypeId) (x : Value) (l h m : Option Value) : Calm P (Instr.slice t x l h m) := by
  unfold Instr.slice
  repeat' (with_reducible first
    | exact Calm.pure _ | exact Calm.stuck _ | exact Calm.unsupported _ | exact Calm.runtimePanic _ | exact Calm.boundsPanic _ _ _ _ | exact Calm.program
    | exact Calm.underlying _ | exact Calm.sizeOf _ | exact Calm.zeroValue _ | exact Calm.typeInfo _ | exact Calm.isAgg _ | exact Calm.part _ _ _ | exact Calm.asIntOf _ | exact Calm.asBool _ | exact Calm.asAgg _ | exact Calm.sliceBounds _ _ _ _ _ _ | exact Calm.asAddr _
    | refine Calm.bind ?_ (fun _ => ?_) | refine Calm.ite (fun _ => ?_) (fun _ => ?_) | split | dsimp only)
theorem Calm.sliceAt (t : TypeId) (x : Value) (l h m : Option Value) : Calm P (Instr.sliceAt t x l h m) := by
  unfold Instr.sliceAt
  repeat' (with_reducible first
    | exact Calm.pure _ | exact Calm.stuck _ | exact Calm.unsupported _ | exact Calm.runtimePanic _ | exact Calm.boundsPanic _ _ _ _ | exact Calm.program
    | exact Calm.underlying _ | exact Calm.sizeOf _ | exact Calm.zeroValue _ | exact Calm.typeInfo _ | exact Calm.isAgg _ | exact Calm.part _ _ _ | exact Calm.asIntOf _ | exact Calm.asBool _ | exact Calm.asAgg _ | exact Calm.slice _ _ _ _ _ | exact Calm.sliceBounds _ _ _ _ _ _ | exact Calm.sureAddr _
    | refine Calm.bind ?_ (fun _ => ?_) | refine Calm.ite (fun _ => ?_) (fun _ => ?_) | split | dsimp only)
theorem Calm.index (t : TypeId) (x ix : Value) : Calm P (Instr.index t x ix) := by
  unfold Instr.index
  repeat' (with_reducible first
    | exact Calm.pure _ | exact Calm.stuck _ | exact Calm.unsupported _ | exact Calm.runtimePanic _ | exact Calm.boundsPanic _ _ _ _ | exact Calm.program
    | exact Calm.underlying _ | exact Calm.sizeOf _ | exact Calm.zeroValue _ | exact Calm.typeInfo _ | exact Calm.isAgg _ | exact Calm.part _ _ _ | exact Calm.asIntOf _ | exact Calm.asBool _ | exact Calm.asAgg _ 
    | refine Calm.bind ?_ (fun _ => ?_) | refine Calm.ite (fun _ => ?_) (fun _ => ?_) | split | dsimp only)
theorem Calm.indexAt (t : TypeId) (x ix : Value) : Calm P (Instr.indexAt t x ix) := by
  unfold Instr.indexAt
  repeat' (with_reducible first
    | exact Calm.pure _ | exact Calm.stuck _ | exact Calm.unsupported _ | exact Calm.runtimePanic _ | exact Calm.boundsPanic _ _ _ _ | exact Calm.program
    | exact Calm.underlying _ | exact Calm.sizeOf _ | exact Calm.zeroValue _ | exact Calm.typeInfo _ | exact Calm.isAgg _ | exact Calm.part _ _ _ | exact Calm.asIntOf _ | exact Calm.asBool _ | exact Calm.asAgg _ | exact Calm.sureAddr _
    | refine Calm.bind ?_ (fun _ => ?_) | refine Calm.ite (fun _ => ?_) (fun _ => ?_) | split | dsimp only)
theorem Calm.field (t : TypeId) (x : Value) (f : Nat) : Calm P (Instr.field t x f) := by
  unfold Instr.field
  repeat' (with_reducible first
    | exact Calm.pure _ | exact Calm.stuck _ | exact Calm.unsupported _ | exact Calm.runtimePanic _ | exact Calm.boundsPanic _ _ _ _ | exact Calm.program
    | exact Calm.underlying _ | exact Calm.sizeOf _ | exact Calm.zeroValue _ | exact Calm.typeInfo _ | exact Calm.isAgg _ | exact Calm.part _ _ _ | exact Calm.asIntOf _ | exact Calm.asBool _ | exact Calm.asAgg _ 
    | refine Calm.bind ?_ (fun _ => ?_) | refine Calm.ite (fun _ => ?_) (fun _ => ?_) | split | dsimp only)
theorem Calm.extract (t : Value) (i : Nat) : Calm P (Instr.extract t i) := by
  unfold Instr.extract
  repeat' (with_reducible first
    | exact Calm.pure _ | exact Calm.stuck _ | exact Calm.unsupported _ | exact Calm.runtimePanic _ | exact Calm.boundsPanic _ _ _ _ | exact Calm.program
    | exact Calm.underlying _ | exact Calm.sizeOf _ | exact Calm.zeroValue _ | exact Calm.typeInfo _ | exact Calm.isAgg _ | exact Calm.part _ _ _ | exact Calm.asIntOf _ | exact Calm.asBool _ | exact Calm.asAgg _ 
    | refine Calm.bind ?_ (fun _ => ?_) | refine Calm.ite (fun _ => ?_) (fun _ => ?_) | split | dsimp only)
theorem Calm.makeInterface (t : TypeId) (x : Value) : Calm P (Instr.makeInterface t x) := by
  unfold Instr.makeInterface
  repeat' (with_reducible first
    | exact Calm.pure _ | exact Calm.stuck _ | exact Calm.unsupported _ | exact Calm.runtimePanic _ | exact Calm.boundsPanic _ _ _ _ | exact Calm.program
    | exact Calm.underlying _ | exact Calm.sizeOf _ | exact Calm.zeroValue _ | exact Calm.typeInfo _ | exact Calm.isAgg _ | exact Calm.part _ _ _ | exact Calm.asIntOf _ | exact Calm.asBool _ | exact Calm.asAgg _ 
    | refine Calm.bind ?_ (fun _ => ?_) | refine Calm.ite (fun _ => ?_) (fun _ => ?_) | split | dsimp only)
theorem Calm.typeAssert (x : Value) (t u : TypeId) (b : Bool) : Calm P (Instr.typeAssert x t u b) := by
  unfold Instr.typeAssert
  repeat' (with_reducible first
    | exact Calm.pure _ | exact Calm.stuck _ | exact Calm.unsupported _ | exact Calm.runtimePanic _ | exact Calm.boundsPanic _ _ _ _ | exact Calm.program
    | exact Calm.underlying _ | exact Calm.sizeOf _ | exact Calm.zeroValue _ | exact Calm.typeInfo _ | exact Calm.isAgg _ | exact Calm.part _ _ _ | exact Calm.asIntOf _ | exact Calm.asBool _ | exact Calm.asAgg _ 
    | refine Calm.bind ?_ (fun _ => ?_) | refine Calm.ite (fun _ => ?_) (fun _ => ?_) | split | dsimp only)
theorem Calm.shift (op : BinOp) (k : IntKind) (x : Int) (yk : IntKind) (y : Int) : Calm P (Op.shift op k x yk y) := by
  unfold Op.shift
  repeat' (with_reducible first
    | exact Calm.pure _ | exact Calm.stuck _ | exact Calm.unsupported _ | exact Calm.runtimePanic _ | exact Calm.boundsPanic _ _ _ _ | exact Calm.program
    | exact Calm.underlying _ | exact Calm.sizeOf _ | exact Calm.zeroValue _ | exact Calm.typeInfo _ | exact Calm.isAgg _ | exact Calm.part _ _ _ | exact Calm.asIntOf _ | exact Calm.asBool _ | exact Calm.asAgg _ 
    | refine Calm.bind ?_ (fun _ => ?_) | refine Calm.ite (fun _ => ?_) (fun _ => ?_) | split | dsimp only)
theorem Calm.intArith (op : BinOp) (k : IntKind) (x y : Int) : Calm P (Op.intArith op k x y) := by
  unfold Op.intArith
  repeat' (with_reducible first
    | exact Calm.pure _ | exact Calm.stuck _ | exact Calm.unsupported _ | exact Calm.runtimePanic _ | exact Calm.boundsPanic _ _ _ _ | exact Calm.program
    | exact Calm.underlying _ | exact Calm.sizeOf _ | exact Calm.zeroValue _ | exact Calm.typeInfo _ | exact Calm.isAgg _ | exact Calm.part _ _ _ | exact Calm.asIntOf _ | exact Calm.asBool _ | exact Calm.asAgg _ 
    | refine Calm.bind ?_ (fun _ => ?_) | refine Calm.ite (fun _ => ?_) (fun _ => ?_) | split | dsimp only)
theorem Calm.intDiv (op : BinOp) (k : IntKind) (x y : Int) : Calm P (Op.intDiv op k x y) := by
  unfold Op.intDiv
  repeat' (with_reducible first
    | exact Calm.pure _ | exact Calm.stuck _ | exact Calm.unsupported _ | exact Calm.runtimePanic _ | exact Calm.boundsPanic _ _ _ _ | exact Calm.program
    | exact Calm.underlying _ | exact Calm.sizeOf _ | exact Calm.zeroValue _ | exact Calm.typeInfo _ | exact Calm.isAgg _ | exact Calm.part _ _ _ | exact Calm.asIntOf _ | exact Calm.asBool _ | exact Calm.asAgg _ 
    | refine Calm.bind ?_ (fun _ => ?_) | refine Calm.ite (fun _ => ?_) (fun _ => ?_) | split | dsimp only)
theorem Calm.intBits (op : BinOp) (k : IntKind) (x y : Int) : Calm P (Op.intBits op k x y) := by
  unfold Op.intBits
  repeat' (with_reducible first
    | exact Calm.pure _ | exact Calm.stuck _ | exact Calm.unsupported _ | exact Calm.runtimePanic _ | exact Calm.boundsPanic _ _ _ _ | exact Calm.program
    | exact Calm.underlying _ | exact Calm.sizeOf _ | exact Calm.zeroValue _ | exact Calm.typeInfo _ | exact Calm.isAgg _ | exact Calm.part _ _ _ | exact Calm.asIntOf _ | exact Calm.asBool _ | exact Calm.asAgg _ 
    | refine Calm.bind ?_ (fun _ => ?_) | refine Calm.ite (fun _ => ?_) (fun _ => ?_) | split | dsimp only)
theorem Calm.intCmp (op : BinOp) (x y : Int) : Calm P (Op.intCmp op x y) := by
  unfold Op.intCmp
  repeat' (with_reducible first
    | exact Calm.pure _ | exact Calm.stuck _ | exact Calm.unsupported _ | exact Calm.runtimePanic _ | exact Calm.boundsPanic _ _ _ _ | exact Calm.program
    | exact Calm.underlying _ | exact Calm.sizeOf _ | exact Calm.zeroValue _ | exact Calm.typeInfo _ | exact Calm.isAgg _ | exact Calm.part _ _ _ | exact Calm.asIntOf _ | exact Calm.asBool _ | exact Calm.asAgg _ 
    | refine Calm.bind ?_ (fun _ => ?_) | refine Calm.ite (fun _ => ?_) (fun _ => ?_) | split | dsimp only)
theorem Calm.stringOp (op : BinOp) (x y : ByteArray) : Calm P (Op.stringOp op x y) := by
  unfold Op.stringOp
  repeat' (with_reducible first
    | exact Calm.pure _ | exact Calm.stuck _ | exact Calm.unsupported _ | exact Calm.runtimePanic _ | exact Calm.boundsPanic _ _ _ _ | exact Calm.program
    | exact Calm.underlying _ | exact Calm.sizeOf _ | exact Calm.zeroValue _ | exact Calm.typeInfo _ | exact Calm.isAgg _ | exact Calm.part _ _ _ | exact Calm.asIntOf _ | exact Calm.asBool _ | exact Calm.asAgg _ 
    | refine Calm.bind ?_ (fun _ => ?_) | refine Calm.ite (fun _ => ?_) (fun _ => ?_) | split | dsimp only)
theorem Calm.unary (op : UnOp) (x : Value) : Calm P (Op.unary op x) := by
  unfold Op.unary
  repeat' (with_reducible first
    | exact Calm.pure _ | exact Calm.stuck _ | exact Calm.unsupported _ | exact Calm.runtimePanic _ | exact Calm.boundsPanic _ _ _ _ | exact Calm.program
    | exact Calm.underlying _ | exact Calm.sizeOf _ | exact Calm.zeroValue _ | exact Calm.typeInfo _ | exact Calm.isAgg _ | exact Calm.part _ _ _ | exact Calm.asIntOf _ | exact Calm.asBool _ | exact Calm.asAgg _ | exact Calm.intArith _ _ _ _ | exact Calm.intBits _ _ _ _
    | refine Calm.bind ?_ (fun _ => ?_) | refine Calm.ite (fun _ => ?_) (fun _ => ?_) | split | dsimp only)

/-- pairs of values whose comparison looks at no memory -/
def calmPair : Value → Value → Bool
  | .int _ _, .int _ _ => true
  | .string _, .string _ => true
  | .bool _, .bool _ => true
  | .nilIface, .nilIface => true
  | .nilIface, .iface _ _ => true
  | .iface _ _, .nilIface => true
  | .pointer none, .pointer none => true
  | .pointer none, .pointer (some _) => true
  | .pointer (some _), .pointer none => true
  | .slice none _ _, .slice none _ _ => true
  | .slice none _ _, .slice (some _) _ _ => true
  | .slice (some _) _ _, .slice none _ _ => true
  | .map none, .map none => true
  | .map none, .map (some _) => true
  | .map (some _), .map none => true
  | _, _ => false

theorem Calm.underlyingBind {β : Type} (t : TypeId) (f : TypeDesc → Sem β) (h : ∀ u, Calm P (f u)) : Calm P (do f (← Go.underlying t)) := Calm.bind (Calm.underlying t) h

theorem Calm.samePointer (a b : Option Addr) (h : a = none ∨ b = none) : Calm P (samePointer a b) := by
  cases a <;> cases b <;> unfold Go.samePointer <;> first | exact Calm.pure _ | (simp at h)
theorem Calm.equalIn (d : Nat) (t : TypeId) (x y : Value) (h : calmPair x y = true) : Calm P (Op.equalIn (d + 1) t x y) := by
  unfold Op.equalIn
  refine Calm.bind (Calm.underlying t) fun u => ?_
  unfold calmPair at h
  split at h <;> first | exact (Bool.false_ne_true h).elim | (clear h; cases u <;> dsimp only <;> (with_reducible first
    | exact Calm.pure _ | exact Calm.stuck _ | exact Calm.unsupported _ | exact Calm.ite (fun _ => Calm.pure _) (fun _ => Calm.stuck _)
    | exact Calm.samePointer _ _ (.inl rfl) | exact Calm.samePointer _ _ (.inr rfl)))
theorem Calm.equal (t : TypeId) (x y : Value) (h : calmPair x y = true) : Calm P (Op.equal t x y) := by
  unfold Op.equal Op.maxDepth
  exact Calm.equalIn 9999 t x y h
theorem Calm.eqGuardIn (t : TypeId) : Calm P (Op.eqGuardIn Op.maxDepth t .nilIface .nilIface) := by
  unfold Op.maxDepth
  show Calm P (Op.eqGuardIn (9999 + 1) t .nilIface .nilIface)
  unfold Op.eqGuardIn
  refine Calm.bind (Calm.underlying t) fun u => ?_
  cases u <;> dsimp only <;> exact Calm.pure _
theorem Calm.eqGuard (op : BinOp) (t : TypeId) (x y : Operand) (a b : Value) (h : calmPair a b = true) : Calm P (eqGuard op t x y a b) := by
  unfold Go.eqGuard
  unfold calmPair at h
  split at h <;> first | exact (Bool.false_ne_true h).elim | (dsimp only; repeat' (with_reducible first
    | exact Calm.pure _ | exact Calm.stuck _ | exact Calm.unsupported _ | exact Calm.runtimePanic _ | exact Calm.boundsPanic _ _ _ _ | exact Calm.program
    | exact Calm.underlying _ | exact Calm.sizeOf _ | exact Calm.zeroValue _ | exact Calm.typeInfo _ | exact Calm.isAgg _ | exact Calm.part _ _ _ | exact Calm.asIntOf _ | exact Calm.asBool _ | exact Calm.asAgg _ | exact Calm.eqGuardIn _
    | refine Calm.bind ?_ (fun _ => ?_) | refine Calm.ite (fun _ => ?_) (fun _ => ?_) | split | dsimp only))
theorem Calm.binOp (op : BinOp) (t : TypeId) (x y : Value) (h : calmPair x y = true) : Calm P (binOp op t x y) := by
  unfold calmPair at h
  split at h <;> first | exact (Bool.false_ne_true h).elim | skip
  all_goals cases op
  all_goals unfold Go.binOp
  all_goals dsimp only
  all_goals (with_reducible first
    | exact Calm.shift _ _ _ _ _ | exact Calm.stringOp _ _ _ | exact Calm.unsupported _ | exact Calm.stuck _
    | exact Calm.bind (Calm.equal _ _ _ rfl) (fun _ => Calm.pure _)
    | refine Calm.ite (fun _ => Calm.stuck _) (fun _ => ?_)
    | skip)
  all_goals with_reducible first | exact Calm.intArith _ _ _ _ | exact Calm.intDiv _ _ _ _ | exact Calm.intBits _ _ _ _ | exact Calm.intCmp _ _ _ | skip
end
end Go.Lx
