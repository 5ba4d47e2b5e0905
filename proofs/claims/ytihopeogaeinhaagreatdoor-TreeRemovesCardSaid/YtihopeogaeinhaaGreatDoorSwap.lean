import Derived.Test.YtihopeogaeinhaaGreatDoorPure
set_option linter.unusedSimpArgs false
set_option linter.unusedVariables false
set_option linter.unusedSimpArgs false
set_option maxRecDepth 100000
namespace Go.Lx
section
variable {P : Program}

theorem Steady.pure {α : Type} (v : α) : Steady P (Pure.pure v : Sem α) := fun w u w' h => by simp at h; exact h.2.symm
theorem Steady.halt {α : Type} (x : Halt) : Steady P (Sem.halt x : Sem α) := fun w u w' h => by simp at h
theorem Steady.bind {α β : Type} {x : Sem α} {f : α → Sem β} (hx : Steady P x) (hf : ∀ v, Steady P (f v)) : Steady P (x >>= f) := fun w u w' h => by
  simp only [Sem.run_bind] at h
  cases hr : x.run P w with
  | ok a w1 =>
    rw [hr] at h
    have h1 := hx _ _ _ hr
    subst h1
    exact hf _ _ _ _ h
  | halt _ _ => rw [hr] at h; simp at h
theorem Steady.of_calm {α : Type} {s : Sem α} (h : Calm P s) : Steady P s := fun w u w' hr => by
  rcases h with ⟨v, hv⟩ | hn
  · rw [hv] at hr; simp at hr; exact hr.2.symm
  · exact absurd hr (hn _ _ _)
theorem Steady.load (a : Addr) (m : Mode) : Steady P (load a m) := fun w u w' h => by
  unfold Go.load at h
  simp only [Sem.run] at h
  split at h
  · simp at h; exact h.2.symm
  · split at h
    · simp at h; exact h.2.symm
    · simp at h
theorem Steady.loadCellsFrom (a : Addr) : ∀ (n i : Nat) (acc : Array Value), Steady P (loadCellsFrom a i n acc)
  | 0, _, _ => Steady.pure _
  | n + 1, i, acc => by
    unfold Go.loadCellsFrom
    exact Steady.bind (Steady.load _ _) fun v => Steady.loadCellsFrom a n _ _
theorem Steady.loadVar (t : TypeId) (a : Addr) : Steady P (loadVar t a) := by
  unfold Go.loadVar
  refine Steady.bind (Steady.of_calm (Calm.isAgg t)) fun b => ?_
  split
  · exact Steady.bind (Steady.of_calm (Calm.sizeOf t)) fun n => Steady.bind (Steady.loadCellsFrom _ _ _ _) fun _ => Steady.pure _
  · exact Steady.load _ _
theorem Steady.forIn {α β : Type} (f : α → β → Sem (ForInStep β)) (hf : ∀ a b, Steady P (f a b)) : ∀ (l : List α) (b : β), Steady P (forIn l b f)
  | [], b => by simp only [List.forIn_nil]; exact Steady.pure _
  | x :: l, b => by
    rw [List.forIn_cons]
    refine Steady.bind (hf x b) fun r => ?_
    cases r with
    | done b => exact Steady.pure _
    | yield b => exact Steady.forIn f hf l b
theorem Steady.bytesToString (x : Value) : Steady P (Conv.bytesToString x) := by
  unfold Conv.bytesToString
  split
  · exact Steady.pure _
  · refine Steady.bind (Steady.loadCellsFrom _ _ _ _) fun cs => ?_
    dsimp only
    refine Steady.bind ?_ fun _ => Steady.pure _
    rw [← Array.forIn_toList]
    refine Steady.forIn _ (fun a b => ?_) _ _
    split
    · exact Steady.pure _
    · exact Steady.halt _
  · exact Steady.halt _

theorem Steady.runesToString (x : Value) : Steady P (Conv.runesToString x) := by
  unfold Conv.runesToString
  split
  · exact Steady.pure _
  · refine Steady.bind (Steady.loadCellsFrom _ _ _ _) fun cs => ?_
    dsimp only
    refine Steady.bind ?_ fun _ => Steady.pure _
    rw [← Array.forIn_toList]
    refine Steady.forIn _ (fun a b => ?_) _ _
    split
    · exact Steady.pure _
    · exact Steady.halt _
  · exact Steady.halt _

theorem value_of_v {s : Sem Value} {w w' : World} {n : Next} (h : (do pure (.value (← s)) : Sem Next).run P w = .ok n w') : ∃ v, n = .value v ∧ s.run P w = .ok v w' := by
  simp only [Sem.run_bind] at h
  cases hr : s.run P w with
  | ok a w1 => rw [hr] at h; simp at h; exact ⟨a, h.1.symm, by rw [h.2]⟩
  | halt _ _ => rw [hr] at h; simp at h

theorem readOp {ρ : Operand → Value} (o : Oper) (hk : kind P o.op = 1) (hs : sane ρ o.op = true) {w w' : World} {n : Next} (h : (execOp ρ o).run P w = .ok n w') : w' = w ∧ ∃ v, n = .value v := by
  obtain ⟨dst, op, type, pos, after, guard⟩ := o
  dsimp only at hk hs
  cases op <;> first | (exfalso; revert hk; simp [kind]; done) | skip
  case load t a =>
    obtain ⟨v, rfl, hr⟩ := value_of_v h
    exact ⟨Steady.bind (Steady.of_calm (Calm.sureAddr _)) (fun a => Steady.loadVar t a) _ _ _ hr, v, rfl⟩
  case convert s d x =>
    obtain ⟨v, rfl, hr⟩ := value_of_v h
    refine ⟨?_, v, rfl⟩
    simp only [kind] at hk
    split at hk <;> first | (simp at hk; done) | skip
    rename_i el hsl hst
    revert hr
    have hu : ∀ w, (underlying s).run P w = .ok (.slice el) w := fun w => by simp [underlying, hsl]
    have hu2 : ∀ w, (underlying d).run P w = .ok .string w := fun w => by simp [underlying, hst]
    simp only [sane] at hs
    unfold convert
    simp only [Sem.run_bind, hu, hu2, Result.andThen_ok]
    cases hx : ρ x <;> rw [hx] at hs <;> first | exact (Bool.false_ne_true hs).elim | skip
    · intro hr; simp [Conv.intToString] at hr; exact hr.2.symm
    · intro hr; simp at hr; exact hr.2.symm
    · dsimp only
      intro hr
      refine Steady.bind (Steady.of_calm (Calm.underlying _)) (fun e => ?_) _ _ _ hr
      split
      · exact Steady.bytesToString _
      · exact Steady.runesToString _
      · exact Steady.halt _
  case fieldAddr s x f =>
    exfalso
    simp only [kind] at hk
    repeat' (split at hk)
    all_goals simp at hk
  case call c =>
    exfalso
    obtain ⟨callee, args, argTypes⟩ := c
    cases callee <;> first | (simp [kind] at hk; done) | skip
    rename_i b
    cases b <;> first | (simp [kind] at hk; done) | skip
    all_goals
      simp only [kind] at hk
      split at hk <;> simp at hk

/-- what an operation that goes on leaves of the frame -/
def Form (o : Oper) (a a1 : Act) : Prop := (∃ u, a1 = a.put o.dst u) ∨ (∃ d, a1 = ({ a with defers := d :: a.defers } : Act).put o.dst undef)

theorem wp_form {o : Oper} {a : Act} {w : World} {K : Act → World → Prop} {Q : Exit → Act → World → Prop} (h : o.wp P a w K Q) : o.wp P a w (fun a1 w1 => Form o a a1 ∧ K a1 w1) Q := by
  unfold Oper.wp at *
  generalize (execOp a.eval o).run P w = r at *
  cases r with
  | ok n w' =>
    cases n <;> simp only [Oper.upon] at h ⊢ <;>
      first
        | exact ⟨.inl ⟨_, rfl⟩, h⟩
        | exact ⟨.inr ⟨_, rfl⟩, h⟩
        | exact Calls.mono h (fun e w'' he => by cases e <;> first | exact ⟨.inl ⟨_, rfl⟩, he⟩ | exact he)
        | exact Rows.mono h (fun _ _ he => ⟨.inl ⟨_, rfl⟩, he⟩)
  | halt x w' => cases x <;> simp only [Oper.upon] at h ⊢ <;> exact h

/-- no way out but the end -/
def QF : Exit → Act → World → Prop := fun _ _ _ => False

theorem letsOut_QF : ¬ LetsOut QF := fun ⟨_, _, h⟩ => h

theorem wp_some {o : Oper} {a : Act} {w : World} {K : Act → World → Prop} {Q : Exit → Act → World → Prop} (hQ : ∀ c a w, ¬ Q (.panic c) a w) (hO : ¬ LetsOut Q) (h : o.wp P a w K Q) : ∃ a1 w1, K a1 w1 := by
  unfold Oper.wp at *
  generalize (execOp a.eval o).run P w = r at *
  cases r with
  | ok n w' =>
    cases n <;> simp only [Oper.upon] at h
    case value v => exact ⟨_, _, h⟩
    case skip => exact ⟨_, _, h⟩
    case defer d => exact ⟨_, _, h⟩
    case enter f args =>
      obtain ⟨e, w2, fr, hR, _⟩ := h []
      cases e with
      | returned v => exact ⟨_, _, hR⟩
      | panicked c => exact absurd hR (hQ _ _ _)
      | outgrown => exact absurd hR hO
    case row row args =>
      obtain ⟨v, w2, hR, _⟩ := h default []
      exact ⟨_, _, hR⟩
  | halt x w' => cases x <;> simp only [Oper.upon] at h <;> first | exact absurd h (hQ _ _ _) | exact h.elim

section
variable {ops : Array Oper}

def YieldsR (P : Program) (ops : Array Oper) (w : World) (o : Oper) (v : Value) (a : Act) : Prop :=
  (Region.wanted o (yielded ops a.tmps) = true ∧ (execOp a.eval o).run P w = .ok (.value v) w) ∨
  (Region.wanted o (yielded ops a.tmps) = false ∧ v = undef)

theorem YieldsR.of_same {w : World} {o : Oper} {v : Value} {a a' : Act} (hy : YieldsR P ops w o v a) (he : execOp a'.eval o = execOp a.eval o)
    (hw : Region.wanted o (yielded ops a'.tmps) = Region.wanted o (yielded ops a.tmps)) : YieldsR P ops w o v a' := by
  unfold YieldsR at *
  rw [he, hw]
  exact hy

/-- one operation, by its kind -/
def step (P : Program) (ops : Array Oper) (i : Nat) (K : Act → World → Prop) (a : Act) (w : World) : Prop :=
  match ops[i]? with
  | none => K a w
  | some o =>
    if kind P o.op = 0 then ∃ v, Yields P ops o v a ∧ K (a.put o.dst v) w
    else if kind P o.op = 1 then ∃ v, YieldsR P ops w o v a ∧ K (a.put o.dst v) w
    else if Region.wanted o (yielded ops a.tmps) then o.wp P a w K QF else K (a.put o.dst undef) w

theorem step_mono {i : Nat} {K K' : Act → World → Prop} {a : Act} {w : World} (h : ∀ a w, K a w → K' a w) (hh : step P ops i K a w) : step P ops i K' a w := by
  unfold step at *
  cases ho : ops[i]? with
  | none => simp only [ho] at hh ⊢; exact h _ _ hh
  | some o =>
    simp only [ho] at hh ⊢
    by_cases k0 : kind P o.op = 0
    · rw [if_pos k0] at hh ⊢
      obtain ⟨v, hy, hk⟩ := hh; exact ⟨v, hy, h _ _ hk⟩
    · rw [if_neg k0] at hh ⊢
      by_cases k1 : kind P o.op = 1
      · rw [if_pos k1] at hh ⊢
        obtain ⟨v, hy, hk⟩ := hh; exact ⟨v, hy, h _ _ hk⟩
      · rw [if_neg k1] at hh ⊢
        by_cases hw : Region.wanted o (yielded ops a.tmps) = true
        · rw [if_pos hw] at hh ⊢; exact Oper.wp_mono h hh
        · rw [if_neg hw] at hh ⊢; exact h _ _ hh

theorem wpOp_of_step {i : Nat} {K : Act → World → Prop} {Q : Exit → Act → World → Prop} {a : Act} {w : World} (hh : step P ops i K a w) : wpOp P ops Q i K a w := by
  unfold step at hh
  unfold wpOp
  split at hh
  · rename_i ho; simp only [ho]; exact hh
  · rename_i o ho
    simp only [ho]
    split at hh
    · obtain ⟨v, hy, hk⟩ := hh
      have := hy.wpOp (Q := Q) ho hk
      unfold wpOp at this
      simpa only [ho] using this
    · split at hh
      · obtain ⟨v, hy, hk⟩ := hh
        rcases hy with ⟨hw, hv⟩ | ⟨hw, rfl⟩
        · simp only [hw, if_true, Oper.wp, hv, Oper.upon]; exact .inl hk
        · simp only [hw, Bool.false_eq_true, if_false]; exact hk
      · split at hh
        · rename_i hw
          simp only [hw, if_true]
          refine .inl ?_
          unfold Oper.wp at *
          generalize (execOp a.eval o).run P w = r at *
          cases r with
          | ok n w' =>
            cases n <;> simp only [Oper.upon] at hh ⊢ <;>
              first
                | exact hh
                | exact Calls.mono hh (fun e w'' he => by cases e <;> first | exact he | exact (he : False).elim | exact (letsOut_QF he).elim)
          | halt x w' => cases x <;> simp only [Oper.upon] at hh ⊢ <;> first | exact hh | exact (hh : False).elim
        · rename_i hw
          simp only [hw, if_false, Bool.false_eq_true]; exact hh

theorem yields_unique {o : Oper} {v u : Value} {a : Act} (w : World) (h : Yields P ops o v a) (k : Yields P ops o u a) : v = u := by
  rcases h with ⟨h1, h2⟩ | ⟨h1, h2⟩ <;> rcases k with ⟨k1, k2⟩ | ⟨k1, k2⟩
  · have := (h2 w).symm.trans (k2 w); simp at this; exact this
  · rw [h1] at k1; cases k1
  · rw [h1] at k1; cases k1
  · rw [h2, k2]

def noSel (o : Oper) : Prop := ∀ cs b, o.op ≠ .select cs b

theorem yields_put {o x : Oper} {v u : Value} {a : Act} (hs : noSel o) (h : ∀ d, x.dst = some d → d ∉ o.looksAt ops) : Yields P ops o v (a.put x.dst u) ↔ Yields P ops o v a := by
  have e1 := execOp_put (ops := ops) o hs a x.dst u h
  have e2 := wanted_put (ops := ops) o a x.dst u h
  constructor
  · exact fun hy => hy.of_same e1.symm e2.symm
  · exact fun hy => hy.of_same e1 e2
theorem yieldsR_put {w : World} {o x : Oper} {v u : Value} {a : Act} (hs : noSel o) (h : ∀ d, x.dst = some d → d ∉ o.looksAt ops) : YieldsR P ops w o v (a.put x.dst u) ↔ YieldsR P ops w o v a := by
  have e1 := execOp_put (ops := ops) o hs a x.dst u h
  have e2 := wanted_put (ops := ops) o a x.dst u h
  constructor
  · exact fun hy => hy.of_same e1.symm e2.symm
  · exact fun hy => hy.of_same e1 e2
theorem yields_form {o x : Oper} {v : Value} {a a1 : Act} (hs : noSel o) (h : ∀ d, x.dst = some d → d ∉ o.looksAt ops) (hf : Form x a a1) : Yields P ops o v a1 ↔ Yields P ops o v a := by
  rcases hf with ⟨u, rfl⟩ | ⟨d, rfl⟩
  · exact yields_put hs h
  · rw [yields_put hs h]
    constructor
    · exact fun hy => hy.of_same rfl rfl
    · exact fun hy => hy.of_same rfl rfl
theorem form_put {x : Oper} {a a1 : Act} {d : Option Tmp} {v : Value} (h : ∀ t, d = some t → x.dst ≠ some t) (hf : Form x a a1) : Form x (a.put d v) (a1.put d v) := by
  rcases hf with ⟨u, rfl⟩ | ⟨df, rfl⟩
  · exact .inl ⟨u, (Act.put_comm a v u h).symm⟩
  · refine .inr ⟨df, ?_⟩
    rw [Act.put_defers, Act.put_comm _ v undef h]

/-- an operation that does not look at the slot d is the same behind a put there -/
theorem wp_put {o : Oper} {a : Act} {w : World} {d : Option Tmp} {v : Value} {K : Act → World → Prop} (hs : noSel o) (h1 : ∀ t, d = some t → t ∉ o.looksAt ops) (h2 : ∀ t, d = some t → o.dst ≠ some t) :
    o.wp P (a.put d v) w K QF ↔ o.wp P a w (fun a1 w1 => K (a1.put d v) w1) QF := by
  unfold Oper.wp
  rw [execOp_put (ops := ops) o hs a d v h1]
  generalize (execOp a.eval o).run P w = r
  cases r with
  | ok n w' =>
    cases n <;> simp only [Oper.upon]
    case value u => rw [Act.put_comm a v u h2]
    case skip => rw [Act.put_comm a v undef h2]
    case defer df => rw [Act.put_defers, Act.put_comm _ v undef h2]
    case enter f args =>
      constructor
      · refine fun h => Calls.mono h (fun e w'' he => ?_)
        cases e with
        | returned u => dsimp only at he ⊢; rw [← Act.put_comm a v u h2]; exact he
        | _ => exact he
      · refine fun h => Calls.mono h (fun e w'' he => ?_)
        cases e with
        | returned u => dsimp only at he ⊢; rw [Act.put_comm a v u h2]; exact he
        | _ => exact he
    case row row args =>
      constructor
      · exact fun h => Rows.mono h (fun u _ he => by rw [← Act.put_comm a v u h2]; exact he)
      · exact fun h => Rows.mono h (fun u _ he => by rw [Act.put_comm a v u h2]; exact he)
  | halt x w' => cases x <;> simp only [Oper.upon] <;> exact Iff.rfl

/-- which two operations may be exchanged -/
def comm (P : Program) (ops : Array Oper) (x y : Oper) : Bool :=
  x.apart ops y && (kind P x.op == 0 || kind P y.op == 0 || (kind P x.op == 1 && kind P y.op == 1))

theorem apart_symm {x y : Oper} (h : x.apart ops y = true) : y.apart ops x = true := by
  obtain ⟨h1, h2, h3⟩ := Oper.apart_spec h
  unfold Oper.apart
  cases hy : y.dst <;> cases hx : x.dst <;> simp
  · exact h1 _ hx
  · exact h3 _ hy
  · exact ⟨⟨h3 _ hy, fun he => h2 _ hx (by rw [hy, he])⟩, h1 _ hx⟩

theorem swap {i j : Nat} {x y : Oper} (hi : ops[i]? = some x) (hj : ops[j]? = some y) (hsx : noSel x) (hsy : noSel y) (hc : comm P ops x y = true) {K : Act → World → Prop} {a : Act} {w : World}
    (h : step P ops i (step P ops j K) a w) : step P ops j (step P ops i K) a w := by
  simp only [comm, Bool.and_eq_true, Bool.or_eq_true, beq_iff_eq] at hc
  obtain ⟨hap, hkinds⟩ := hc
  obtain ⟨h1, h2, h3⟩ := Oper.apart_spec hap
  obtain ⟨g1, g2, g3⟩ := Oper.apart_spec (apart_symm hap)
  have pc : ∀ (a : Act) (u v : Value), (a.put x.dst u).put y.dst v = (a.put y.dst v).put x.dst u := fun a u v => Act.put_comm a u v h2
  unfold step at h ⊢
  simp only [hi, hj] at h ⊢
  by_cases kx : kind P x.op = 0
  · simp only [kx, if_true] at h ⊢
    obtain ⟨v, hy, h⟩ := h
    by_cases ky : kind P y.op = 0
    · simp only [ky, if_true] at h ⊢
      obtain ⟨u, hu, hk⟩ := h
      exact ⟨u, (yields_put hsy h1).1 hu, v, (yields_put hsx h3).2 hy, by rw [← pc]; exact hk⟩
    · simp only [ky, if_false] at h ⊢
      by_cases ky1 : kind P y.op = 1
      · simp only [ky1, if_true] at h ⊢
        obtain ⟨u, hu, hk⟩ := h
        exact ⟨u, (yieldsR_put hsy h1).1 hu, v, (yields_put hsx h3).2 hy, by rw [← pc]; exact hk⟩
      · simp only [ky1, if_false] at h ⊢
        rw [wanted_put y a x.dst v h1] at h
        split
        · rename_i hw
          simp only [hw, if_true] at h
          rw [wp_put hsy h1 h2] at h
          refine Oper.wp_mono (fun a1 w1 hk => ?_) (wp_form h)
          exact ⟨v, (yields_form hsx h3 hk.1).2 hy, hk.2⟩
        · rename_i hw
          simp only [hw, if_false, Bool.false_eq_true] at h
          exact ⟨v, (yields_put hsx h3).2 hy, by rw [← pc]; exact h⟩
  · simp only [kx, if_false] at h ⊢
    by_cases kx1 : kind P x.op = 1
    · simp only [kx1, if_true] at h ⊢
      obtain ⟨v, hy, h⟩ := h
      by_cases ky : kind P y.op = 0
      · simp only [ky, if_true] at h ⊢
        obtain ⟨u, hu, hk⟩ := h
        exact ⟨u, (yields_put hsy h1).1 hu, v, (yieldsR_put hsx h3).2 hy, by rw [← pc]; exact hk⟩
      · have ky1 : kind P y.op = 1 := by
          rcases hkinds with (hk | hk) | hk
          · exact absurd hk kx
          · exact absurd hk ky
          · exact hk.2
        simp only [ky, if_false, ky1, if_true] at h ⊢
        obtain ⟨u, hu, hk⟩ := h
        exact ⟨u, (yieldsR_put hsy h1).1 hu, v, (yieldsR_put hsx h3).2 hy, by rw [← pc]; exact hk⟩
    · have ky : kind P y.op = 0 := by
        rcases hkinds with (hk | hk) | hk
        · exact absurd hk kx
        · exact hk
        · exact absurd hk.1 kx1
      simp only [kx1, if_false, ky, if_true] at h ⊢
      split at h
      · rename_i hw
        obtain ⟨a1, w1, hf, v, hv, _⟩ := wp_some (fun _ _ _ h => h) letsOut_QF (wp_form h)
        have hv0 := (yields_form hsy h1 hf).1 hv
        refine ⟨v, hv0, ?_⟩
        rw [wanted_put x a y.dst v h3, if_pos hw, wp_put hsx h3 g2]
        refine Oper.wp_mono (fun a2 w2 hk => ?_) (wp_form h)
        obtain ⟨hf2, u, hu, hk⟩ := hk
        have := yields_unique w2 ((yields_form hsy h1 hf2).1 hu) hv0
        subst this
        exact hk
      · rename_i hw
        obtain ⟨v, hv, hk⟩ := h
        refine ⟨v, (yields_put hsy h1).1 hv, ?_⟩
        rw [wanted_put x a y.dst v h3, if_neg hw, ← pc]
        exact hk
end
end
end Go.Lx
