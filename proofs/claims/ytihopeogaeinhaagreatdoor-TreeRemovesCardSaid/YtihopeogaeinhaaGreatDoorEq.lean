import Derived.Test.YtihopeogaeinhaaGreatDoorSt
import Derived.Laws.StructEq
set_option linter.unusedVariables false
set_option linter.unusedSimpArgs false
set_option maxRecDepth 100000
/- Equality of structs whose parts are numbers, bools, strings. -/
namespace Go.Vc
variable {P : Program}
def eqScal (P : Program) (t : TypeId) (a b : Value) : Option Bool :=
  match P.underlying t with
  | some .bool => match a with
    | .bool a => match b with
      | .bool b => some (a == b)
      | _ => none
    | _ => none
  | some (.int _) => match a with
    | .int k a => match b with
      | .int k' b => match kindEq k k' with
        | true => some (a == b)
        | false => none
      | _ => none
    | _ => none
  | some .string => match a with
    | .string a => match b with
      | .string b => some (a.toList == b.toList)
      | _ => none
    | _ => none
  | _ => none
theorem eqScal_run {t : TypeId} {a b : Value} {r : Bool} (h : eqScal P t a b = some r) (d : Nat) (w : World) : (Op.equalIn (d + 1) t a b).run P w = .ok r w := by
  unfold eqScal at h
  split at h
  · rename_i hu
    split at h
    · split at h
      · cases h; exact run_equalIn_bool w d t _ _ hu
      · cases h
    · cases h
  · rename_i k hu
    split at h
    · split at h
      · split at h
        · rename_i hk
          cases h; obtain rfl := kindEq_spec hk; exact run_equalIn_int w d t _ _ _ _ hu
        · cases h
      · cases h
    · cases h
  · rename_i hu
    split at h
    · split at h
      · cases h; exact run_equalIn_string w d t _ _ hu
      · cases h
    · cases h
  · cases h
def eqFlat (P : Program) (xs ys : List Value) : List Field → Option Bool
  | [] => some true
  | f :: fs => match aggB P f.type with
    | some false => match nth xs f.offset with
      | some a => match nth ys f.offset with
        | some b => match eqScal P f.type a b with
          | some r => match eqFlat P xs ys fs with
            | some s => some (r && s)
            | none => none
          | none => none
        | none => none
      | none => none
    | _ => none
theorem part_scal {t : TypeId} {cs : Array Value} {o : Nat} {v : Value} (h1 : aggB P t = some false) (h2 : nth cs.toList o = some v) (w : World) : (part t cs o).run P w = .ok v w := by
  rw [nth_eq] at h2
  have h3 : cs[o]? = some v := by simpa using h2
  simp [part, isAgg_of h1, h3]
theorem eqFlat_run (d : Nat) (xs ys : Array Value) : ∀ (fs : List Field) (r : Bool), (fs.all fun f => f.name != "_") = true → eqFlat P xs.toList ys.toList fs = some r → ∀ w, (Op.eqFields (d + 1) xs ys fs).run P w = .ok r w
  | [], r, _, h, w => by cases h; simp [Op.eqFields]
  | f :: fs, r, hn, h, w => by
    simp only [List.all_cons, Bool.and_eq_true, bne_iff_ne] at hn
    unfold eqFlat at h
    split at h
    · rename_i ha
      split at h
      · rename_i a hx
        split at h
        · rename_i b hy
          split at h
          · rename_i q hq
            split at h
            · rename_i s hs
              cases h
              have ih := eqFlat_run d xs ys fs s hn.2 hs
              unfold Op.eqFields
              rw [if_pos hn.1]
              simp only [Sem.run_bind, part_scal ha hx, part_scal ha hy, Result.andThen_ok, eqScal_run hq]
              cases q
              · simp
              · simp [ih]
            · cases h
          · cases h
        · cases h
      · cases h
    · cases h
theorem PureH.neq_flat {t : TypeId} {ox oy : Operand} {xs ys : Array Value} {r : Bool} {K : Value → Prop} (ht : P.underlying t = some (.struct (P.fieldsOf t))) (hp : P.stoodInHeld t = false) (hg : P.eqGuardType P.depth t = false)
    (hn : ((P.fieldsOf t).toList.all fun f => f.name != "_") = true) (he : eqFlat P xs.toList ys.toList (P.fieldsOf t).toList = some r) (hk : K (.bool !r)) :
    PureH P (do eqGuard .neq t ox oy (.agg xs) (.agg ys); binOp .neq t (.agg xs) (.agg ys)) K := by
  refine ⟨_, fun w => ?_, hk⟩
  simp only [Sem.run_bind, run_eqGuard_agg w .neq t ox oy _ _ hg, Result.andThen_ok]
  rw [run_neq_struct, run_equalIn_struct w 9999 t xs ys ht hp, eqFlat_run 9998 xs ys _ _ hn he]
  rfl
theorem PureH.eql_flat {t : TypeId} {ox oy : Operand} {xs ys : Array Value} {r : Bool} {K : Value → Prop} (ht : P.underlying t = some (.struct (P.fieldsOf t))) (hp : P.stoodInHeld t = false) (hg : P.eqGuardType P.depth t = false)
    (hn : ((P.fieldsOf t).toList.all fun f => f.name != "_") = true) (he : eqFlat P xs.toList ys.toList (P.fieldsOf t).toList = some r) (hk : K (.bool r)) :
    PureH P (do eqGuard .eql t ox oy (.agg xs) (.agg ys); binOp .eql t (.agg xs) (.agg ys)) K := by
  refine ⟨_, fun w => ?_, hk⟩
  simp only [Sem.run_bind, run_eqGuard_agg w .eql t ox oy _ _ hg, Result.andThen_ok]
  rw [run_eql_struct, run_equalIn_struct w 9999 t xs ys ht hp, eqFlat_run 9998 xs ys _ _ hn he]
  rfl
end Go.Vc
