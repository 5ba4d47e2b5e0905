import Derived.Test.YtihopeogaeinhaaGreatDoorCalm
import Derived.Laws.World
set_option linter.unusedSimpArgs false
set_option linter.unusedVariables false
set_option linter.unusedSimpArgs false
set_option maxRecDepth 100000
namespace Go.Lx
section
variable {P : Program}

/-- of a map's length memory is asked -/
def lenReads (P : Program) (ts : Array TypeId) : Bool :=
  match ts[0]? with
  | some t => match P.underlying t with
    | some (.map _ _) => true
    | some (.chan _ _) => true
    | _ => false
  | none => true

/-- 0: looks at its operands alone; 1: reads memory; 2: all else -/
def kind (P : Program) : Op → Nat
  | .move _ | .assign _ | .nilCheck _ | .binOp _ _ _ _ _ | .unOp _ _ _ | .makeInterface _ _ | .slice _ _ _ _ _ | .field _ _ _ | .indexAddr _ _ _ | .index _ _ _ | .extract _ _ | .typeAssert _ _ _ _ | .pick _ _ _ | .build _ _ => 0
  | .fieldAddr s _ f => match P.underlying s with
    | some (.struct fs) => match (fs[f]? : Option Field) with
      | some fl => match P.info? fl.type with
        | some i => if i.size = 0 then 2 else 0
        | none => 2
      | none => 2
    | _ => 2
  | .convert s d _ => match P.underlying s, P.underlying d with
    | some (.int _), some (.int _) => 0
    | some .string, some .string => 0
    | some (.slice _), some .string => 1
    | _, _ => 2
  | .load _ _ => 1
  | .call { callee := .builtin .len, args := args, argTypes := ts } => if args.size = 1 ∧ lenReads P ts = false then 0 else 2
  | .call { callee := .builtin .min, args := args, .. } => if args.size = 2 then 0 else 2
  | .call { callee := .builtin .max, args := args, .. } => if args.size = 2 then 0 else 2
  | _ => 2

def plainArg : Value → Bool
  | .int _ _ => true
  | .string _ => true
  | .slice _ _ _ => true
  | .map none => true
  | _ => false

/-- the operands' values are such that the operation looks at no memory -/
def sane (ρ : Operand → Value) : Op → Bool
  | .binOp _ _ x y _ => calmPair (ρ x) (ρ y)
  | .nilCheck x => match ρ x with | .func (.method _) _ _ => false | _ => true
  | .convert _ _ x => match ρ x with | .int _ _ => true | .string _ => true | .slice _ _ _ => true | _ => false
  | .call { callee := .builtin .len, args := args, .. } => args.all fun x => plainArg (ρ x)
  | .call { callee := .builtin .min, args := args, .. } => args.all fun x => plainArg (ρ x)
  | .call { callee := .builtin .max, args := args, .. } => args.all fun x => plainArg (ρ x)
  | _ => true

def PureOp (P : Program) (ρ : Operand → Value) (o : Oper) : Prop := (∃ v, ∀ w, (execOp ρ o).run P w = .ok (.value v) w) ∨ (∀ w n w', (execOp ρ o).run P w ≠ .ok n w')

theorem pureOp_of_calm {ρ : Operand → Value} {o : Oper} {s : Sem Value} (h : execOp ρ o = (do pure (.value (← s)) : Sem Next)) (hs : Calm P s) : PureOp P ρ o := by
  unfold PureOp
  rw [h]
  rcases hs with ⟨v, hv⟩ | hn
  · exact .inl ⟨v, fun w => by simp [hv]⟩
  · refine .inr fun w n w' h => ?_
    simp only [Sem.run_bind] at h
    cases hr : s.run P w with
    | ok a w1 => exact hn _ _ _ hr
    | halt _ _ => rw [hr] at h; simp at h

theorem calm_fieldAt {s : TypeId} {x : Value} {f : Nat} {fs : Array Field} {fl : Field} {i : TypeInfo} (hs : P.underlying s = some (.struct fs)) (hf : fs[f]? = some fl) (hi : P.info? fl.type = some i) (hz : i.size ≠ 0) : Calm P (Instr.fieldAt s x f) := by
  have hu : ∀ w, (underlying s).run P w = .ok (.struct fs) w := fun w => by simp [underlying, hs]
  have hsz : ∀ w, (sizeOf fl.type).run P w = .ok i.size w := fun w => by simp [sizeOf, typeInfo, hi]
  rcases Calm.sureAddr (P := P) x with ⟨a, ha⟩ | hn
  · refine .inl ⟨.pointer (some (a.add fl.offset)), fun w => ?_⟩
    simp [Instr.fieldAt, hu, hf, ha, fieldPlace, hsz, hz]
  · refine .inr ?_
    unfold Instr.fieldAt
    refine Never.bind2 fun u => ?_
    split
    · split
      · exact Never.bind hn
      · exact Never.halt _
    · exact Never.halt _

theorem calm_convertInt {s d : TypeId} {x : Value} {k k' : IntKind} (hs : P.underlying s = some (.int k)) (hd : P.underlying d = some (.int k')) (h : (match x with | .int _ _ => true | .string _ => true | .slice _ _ _ => true | _ => false) = true) : Calm P (convert s d x) := by
  have hu : ∀ w, (underlying s).run P w = .ok (.int k) w := fun w => by simp [underlying, hs]
  have hu2 : ∀ w, (underlying d).run P w = .ok (.int k') w := fun w => by simp [underlying, hd]
  split at h
  · rename_i q n
    refine .inl ⟨.int k' (k'.wrap n), fun w => ?_⟩
    simp [convert, hu, hu2, Conv.intToInt]
  · refine .inr fun w v w' => ?_
    simp [convert, hu, hu2]
  · refine .inr fun w v w' => ?_
    simp [convert, hu, hu2]
  · cases h

theorem calm_convertStr {s d : TypeId} {x : Value} (hs : P.underlying s = some .string) (hd : P.underlying d = some .string) (h : (match x with | .int _ _ => true | .string _ => true | .slice _ _ _ => true | _ => false) = true) : Calm P (convert s d x) := by
  have hu : ∀ w, (underlying s).run P w = .ok .string w := fun w => by simp [underlying, hs]
  have hu2 : ∀ w, (underlying d).run P w = .ok .string w := fun w => by simp [underlying, hd]
  split at h
  · rename_i q n
    exact .inl ⟨.string (Utf8.encode n), fun w => by simp [convert, hu, hu2, Conv.intToString]⟩
  · rename_i t
    exact .inl ⟨.string t, fun w => by simp [convert, hu, hu2]⟩
  · refine .inr fun w v w' => ?_
    simp [convert, hu, hu2]
  · cases h

theorem pureOp_pure {ρ : Operand → Value} {o : Oper} {v : Value} (h : execOp ρ o = (pure (.value v) : Sem Next)) : PureOp P ρ o :=
  .inl ⟨v, fun w => by rw [h]; rfl⟩

theorem calm_min2 {x y : Value} (hx : plainArg x = true) : Calm P (Builtin.min2 x y) := by
  unfold Builtin.min2
  split <;> first | exact Calm.pure _ | exact Calm.unsupported _ | exact Calm.stuck _ | (exact Calm.bind (Calm.stringOp _ _ _) fun _ => Calm.bind (Calm.asBool _) fun _ => Calm.pure _) | cases hx
theorem calm_max2 {x y : Value} (hx : plainArg x = true) : Calm P (Builtin.max2 x y) := by
  unfold Builtin.max2
  split <;> first | exact Calm.pure _ | exact Calm.unsupported _ | exact Calm.stuck _ | (exact Calm.bind (Calm.stringOp _ _ _) fun _ => Calm.bind (Calm.asBool _) fun _ => Calm.pure _) | cases hx
theorem calm_len {ts : Array TypeId} {t : TypeId} {x : Value} (hx : plainArg x = true) : Calm P (Builtin.len_ ts t #[x]) := by
  unfold Builtin.len_
  cases ts[0]? with
  | none => exact Calm.stuck _
  | some u =>
    refine Calm.bind (Calm.underlying u) fun d => ?_
    split <;> first | exact Calm.pure _ | exact Calm.stuck _ | (rename_i hq; simp at hq; subst hq; cases hx; done) | skip
    refine Calm.bind (Calm.underlying _) fun d => ?_
    split
    · exact Calm.pure _
    · exact Calm.stuck _
theorem Calm.listMapM {α β : Type} {f : α → Sem β} (hf : ∀ a, Calm P (f a)) : ∀ l : List α, Calm P (l.mapM f)
  | [] => by rw [List.mapM_nil]; exact Calm.pure _
  | x :: l => by
    rw [List.mapM_cons]
    exact Calm.bind (hf x) fun _ => Calm.bind (Calm.listMapM hf l) fun _ => Calm.pure _

theorem calm_build (t : TypeId) (ps : Array (Nat × Value)) : Calm P (Instr.build t ps) := by
  unfold Instr.build
  refine Calm.bind (Calm.zeroValue _) fun z => Calm.bind (Calm.underlying _) fun d => ?_
  split
  · rw [Array.mapM_eq_mapM_toList]
    simp only [bind_assoc, map_eq_pure_bind]
    refine Calm.bind (Calm.listMapM (fun f => Calm.bind (Calm.sizeOf _) fun _ => Calm.pure _) _) fun pl => ?_
    simp only [pure_bind]
    split
    · exact Calm.pure _
    · exact Calm.stuck _
  · refine Calm.bind (Calm.sizeOf _) fun _ => ?_
    split
    · exact Calm.pure _
    · exact Calm.stuck _
  · exact Calm.stuck _

theorem arr1 {α : Type} {a : Array α} (h : a.size = 1) : ∃ x, a = #[x] := by
  obtain ⟨l⟩ := a
  match l, h with
  | [x], _ => exact ⟨x, rfl⟩
theorem arr2 {α : Type} {a : Array α} (h : a.size = 2) : ∃ x y, a = #[x, y] := by
  obtain ⟨l⟩ := a
  match l, h with
  | [x, y], _ => exact ⟨x, y, rfl⟩

theorem pureOp {ρ : Operand → Value} (o : Oper) (hk : kind P o.op = 0) (hs : sane ρ o.op = true) : PureOp P ρ o := by
  obtain ⟨dst, op, type, pos, after, guard⟩ := o
  dsimp only at hk hs
  cases op <;> first | (exfalso; revert hk; simp [kind]; done) | skip
  case move x => exact pureOp_pure rfl
  case assign x => exact pureOp_pure rfl
  case nilCheck x =>
    simp only [sane] at hs
    unfold PureOp
    simp only [execOp]
    cases hx : ρ x with
    | pointer a =>
      cases a with
      | none => exact .inr (Never.runtimePanic _)
      | some a => exact .inl ⟨_, fun _ => rfl⟩
    | nilIface => exact .inr (Never.runtimePanic _)
    | nilFunc => exact .inr (Never.runtimePanic _)
    | func fn first captured =>
      rw [hx] at hs
      cases fn <;> first | (exact .inl ⟨_, fun _ => rfl⟩) | (exact (Bool.false_ne_true hs).elim)
    | _ => exact .inl ⟨_, fun _ => rfl⟩
  case binOp op t x y t2 => exact pureOp_of_calm rfl (Calm.bind (Calm.eqGuard _ _ _ _ _ _ hs) fun _ => Calm.binOp _ _ _ _ hs)
  case unOp op t x => exact pureOp_of_calm rfl (Calm.unary _ _)
  case convert s d x =>
    simp only [kind] at hk
    split at hk <;> first | (simp at hk; done) | skip
    · exact pureOp_of_calm rfl (calm_convertInt ‹_› ‹_› hs)
    · exact pureOp_of_calm rfl (calm_convertStr ‹_› ‹_› hs)
  case makeInterface t x => exact pureOp_of_calm rfl (Calm.makeInterface _ _)
  case slice t x l h m => exact pureOp_of_calm rfl (Calm.sliceAt _ _ _ _ _)
  case fieldAddr s x f =>
    simp only [kind] at hk
    split at hk <;> first | (simp at hk; done) | skip
    split at hk <;> first | (simp at hk; done) | skip
    split at hk <;> first | (simp at hk; done) | skip
    split at hk
    · simp at hk
    · exact pureOp_of_calm rfl (calm_fieldAt ‹_› ‹_› ‹_› ‹_›)
  case field t x f => exact pureOp_of_calm rfl (Calm.field _ _ _)
  case indexAddr t x i => exact pureOp_of_calm rfl (Calm.indexAt _ _ _)
  case index t x i => exact pureOp_of_calm rfl (Calm.index _ _ _)
  case typeAssert x t u b => exact pureOp_of_calm rfl (Calm.typeAssert _ _ _ _)
  case extract t i => exact pureOp_of_calm rfl (Calm.extract _ _)
  case pick c x y =>
    unfold PureOp
    have : execOp ρ { dst := dst, op := .pick c x y, type := type, pos := pos, after := after, guard := guard } = (do pure (.value (if ← asBool (ρ c) then ρ x else ρ y)) : Sem Next) := rfl
    rw [this]
    rcases Calm.asBool (P := P) (ρ c) with ⟨b, hb⟩ | hn
    · exact .inl ⟨if b then ρ x else ρ y, fun w => by simp [hb]⟩
    · refine .inr fun w n w' h => ?_
      simp only [Sem.run_bind] at h
      cases hr : (asBool (ρ c)).run P w with
      | ok a w1 => exact hn _ _ _ hr
      | halt _ _ => rw [hr] at h; simp at h
  case build t ps => exact pureOp_of_calm rfl (calm_build _ _)
  case call c =>
    obtain ⟨callee, args, argTypes⟩ := c
    cases callee <;> first | (exfalso; revert hk; simp [kind]; done) | skip
    rename_i b
    cases b <;> first | (exfalso; revert hk; simp [kind]; done) | skip
    all_goals simp only [sane] at hs
    case len =>
      simp only [kind] at hk
      split at hk <;> first | (simp at hk; done) | skip
      obtain ⟨x, rfl⟩ := arr1 (‹_ ∧ _›).1
      refine pureOp_of_calm (s := Builtin.len_ argTypes type #[ρ x]) (by simp [execOp, resolve, invoke, builtin]) (calm_len ?_)
      simpa using hs
    case max =>
      simp only [kind] at hk
      split at hk <;> first | (simp at hk; done) | skip
      obtain ⟨x, y, rfl⟩ := arr2 ‹_›
      refine pureOp_of_calm (s := Builtin.max2 (ρ x) (ρ y)) (by simp [execOp, resolve, invoke, builtin, Builtin.max_]) (calm_max2 ?_)
      simp at hs
      exact hs.1
    case min =>
      simp only [kind] at hk
      split at hk <;> first | (simp at hk; done) | skip
      obtain ⟨x, y, rfl⟩ := arr2 ‹_›
      refine pureOp_of_calm (s := Builtin.min2 (ρ x) (ρ y)) (by simp [execOp, resolve, invoke, builtin, Builtin.min_]) (calm_min2 ?_)
      simp at hs
      exact hs.1
end
end Go.Lx
