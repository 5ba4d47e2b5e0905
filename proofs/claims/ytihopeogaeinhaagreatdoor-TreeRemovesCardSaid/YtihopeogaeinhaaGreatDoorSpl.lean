import Derived.Test.YtihopeogaeinhaaGreatDoorVo
set_option linter.unusedSimpArgs false
set_option linter.unusedVariables false
set_option linter.unusedSimpArgs false
set_option maxRecDepth 100000
/- Regions that draw their order, told apart by which of two operations comes first. -/
namespace Go.Vc
open Go.Lx

/-- one edge more: y behind x -/
def addE1 (ops : Array Oper) (x y : Nat) : Array Oper := ops.modify y fun o => { o with after := o.after.push { on := x, ground := .data } }
def addE (ops : Array Oper) : List (Nat × Nat) → Array Oper
  | [] => ops
  | e :: es => addE1 (addE ops es) e.1 e.2

inductive Lin (ops : Array Oper) : Nat → Array Bool → List Nat → Prop
  | stop {listed : Array Bool} : Lin ops 0 listed []
  | done {n : Nat} {listed : Array Bool} (h : Region.ready .any ops listed = []) : Lin ops (n + 1) listed []
  | step {n : Nat} {listed : Array Bool} {i : Nat} {l : List Nat} (h : i ∈ Region.ready .any ops listed) (hl : Lin ops n (listed.setIfInBounds i true) l) : Lin ops (n + 1) listed (i :: l)

theorem go_lin (ops : Array Oper) : ∀ (fuel t : Nat) (listed : Array Bool), Lin ops fuel listed (Region.linearise.go .any ops fuel t listed [])
  | 0, t, listed => by simp only [Region.linearise.go, List.reverse_nil]; exact .stop
  | fuel + 1, t, listed => by
    simp only [Region.linearise.go]
    change Lin ops (fuel + 1) listed (match (Region.ready .any ops listed)[t % (Region.ready .any ops listed).length]? with
      | some i => Region.linearise.go .any ops fuel (t / (Region.ready .any ops listed).length) (listed.setIfInBounds i true) [i]
      | none => [].reverse)
    cases hi : (Region.ready .any ops listed)[t % (Region.ready .any ops listed).length]? with
    | none =>
      have hnil : Region.ready .any ops listed = [] := by
        cases hr : Region.ready .any ops listed with
        | nil => rfl
        | cons x xs =>
          rw [hr] at hi
          have hlt : t % (x :: xs).length < (x :: xs).length := Nat.mod_lt _ (by simp)
          rw [List.getElem?_eq_none_iff] at hi
          omega
      exact .done hnil
    | some i =>
      dsimp only
      rw [linearise_go_acc, List.reverse_singleton, List.singleton_append]
      exact .step (List.mem_of_getElem? hi) (go_lin ops fuel _ _)

theorem wpOps_of_any {P : Program} {ops : Array Oper} {Q : Exit → Act → World → Prop} {n : Nat} {listed : Array Bool} {l : List Nat} (hl : Lin ops n listed l) : ∀ {a : Act} {w : World}, wpAny P .any ops Q n listed a w → wpOps P ops Q l a w := by
  induction hl with
  | stop => intro a w h; exact h.2
  | done hr => intro a w h; exact h.1 hr
  | step hi _ ih => intro a w h; rw [wpOps_cons]; exact wpOp_mono (fun a w h => ih h) (h.2 _ hi)

theorem addE1_get {ops : Array Oper} {x y j : Nat} : (addE1 ops x y)[j]? = if y = j then (ops[j]?).map fun o => { o with after := o.after.push { on := x, ground := .data } } else ops[j]? := by
  unfold addE1
  rw [Array.getElem?_modify]
theorem ready_addE1 {ops : Array Oper} {x y j : Nat} {listed : Array Bool} (h : j ∈ Region.ready .any (addE1 ops x y) listed) : j ∈ Region.ready .any ops listed := by
  rw [mem_ready] at h ⊢
  obtain ⟨h1, o, ho, h2⟩ := h
  refine ⟨h1, ?_⟩
  rw [addE1_get] at ho
  split at ho
  · cases hj : ops[j]? with
    | none => rw [hj] at ho; cases ho
    | some o' =>
      rw [hj] at ho
      simp only [Option.map_some, Option.some.injEq] at ho
      refine ⟨o', rfl, fun e he hb => h2 e ?_ hb⟩
      rw [← ho]
      exact Array.mem_push.2 (.inl he)
  · exact ⟨o, ho, h2⟩
theorem ready_addE1_of {ops : Array Oper} {x y j : Nat} {listed : Array Bool} (h : j ∈ Region.ready .any ops listed) (hx : y ≠ j ∨ listed.getD x false = true) : j ∈ Region.ready .any (addE1 ops x y) listed := by
  rw [mem_ready] at h ⊢
  obtain ⟨h1, o, ho, h2⟩ := h
  refine ⟨h1, ?_⟩
  rw [addE1_get]
  split
  · rename_i hy
    rw [ho]
    refine ⟨_, rfl, fun e he hb => ?_⟩
    rcases Array.mem_push.1 he with he | he
    · exact h2 e he hb
    · rw [he]; exact hx.resolve_left (fun hn => hn hy)
  · exact ⟨o, ho, h2⟩
theorem lin_listed {ops : Array Oper} {x y : Nat} {n : Nat} {listed : Array Bool} {l : List Nat} (h : Lin ops n listed l) : listed.getD x false = true → Lin (addE1 ops x y) n listed l := by
  induction h with
  | stop => exact fun _ => .stop
  | done hr =>
    intro hx
    refine .done (List.eq_nil_iff_forall_not_mem.2 fun j hj => ?_)
    have := ready_addE1 hj
    rw [hr] at this; cases this
  | step hi _ ih => exact fun hx => .step (ready_addE1_of hi (.inr hx)) (ih (getD_set_true hx))
theorem unlisted_lt {listed : Array Bool} {i : Nat} (h : listed.getD i true = false) : i < listed.size := by
  rcases Nat.lt_or_ge i listed.size with h' | h'
  · exact h'
  · simp [Array.getElem?_eq_none h'] at h
theorem lin_split {ops : Array Oper} {x y : Nat} (hxy : x ≠ y) {n : Nat} {listed : Array Bool} {l : List Nat} (h : Lin ops n listed l) : listed.getD x true = false → listed.getD y true = false → Lin (addE1 ops x y) n listed l ∨ Lin (addE1 ops y x) n listed l := by
  induction h with
  | stop => exact fun _ _ => .inl .stop
  | done hr =>
    intro _ _
    refine .inl (.done (List.eq_nil_iff_forall_not_mem.2 fun j hj => ?_))
    have := ready_addE1 hj
    rw [hr] at this; cases this
  | @step n listed i l hi hl ih =>
    intro hx hy
    by_cases h1 : i = x
    · subst h1
      refine .inl (.step (ready_addE1_of hi (.inl fun e => hxy e.symm)) (lin_listed hl ?_))
      have := unlisted_lt hx
      simp [this]
    · by_cases h2 : i = y
      · subst h2
        refine .inr (.step (ready_addE1_of hi (.inl fun e => hxy e)) (lin_listed hl ?_))
        have := unlisted_lt hy
        simp [this]
      · rcases ih (by rw [getD_set_ne _ h1]; exact hx) (by rw [getD_set_ne _ h2]; exact hy) with h | h
        · exact .inl (.step (ready_addE1_of hi (.inl fun e => h2 e.symm)) h)
        · exact .inr (.step (ready_addE1_of hi (.inl fun e => h1 e.symm)) h)

/-- lists of operations that differ in their edges alone -/
structure EdgeAlike (ops ops' : Array Oper) : Prop where
  size : ops'.size = ops.size
  get : ∀ (i : Nat) (o : Oper), ops[i]? = some o → ∃ z, ops'[i]? = some { o with after := z }
theorem EdgeAlike.refl (ops : Array Oper) : EdgeAlike ops ops := ⟨rfl, fun i o h => ⟨o.after, h⟩⟩
theorem EdgeAlike.addE1 {ops ops' : Array Oper} (h : EdgeAlike ops ops') (x y : Nat) : EdgeAlike ops (addE1 ops' x y) := by
  refine ⟨by simp [Vc.addE1, h.size], fun i o ho => ?_⟩
  obtain ⟨z, hz⟩ := h.get i o ho
  rw [addE1_get, hz]
  split
  · exact ⟨_, rfl⟩
  · exact ⟨z, rfl⟩
theorem EdgeAlike.addE (ops : Array Oper) : ∀ es, EdgeAlike ops (addE ops es)
  | [] => EdgeAlike.refl ops
  | e :: es => (EdgeAlike.addE ops es).addE1 _ _
theorem EdgeAlike.yielded {ops ops' : Array Oper} (h : EdgeAlike ops ops') (tmps : Array Value) : yielded ops' tmps = yielded ops tmps := by
  funext j
  unfold Go.yielded
  cases hj : ops[j]? with
  | none =>
    have : ops'[j]? = none := by rw [Array.getElem?_eq_none_iff, h.size]; exact Array.getElem?_eq_none_iff.1 hj
    rw [this]
  | some o =>
    obtain ⟨z, hz⟩ := h.get j o hj
    rw [hz]; rfl
theorem EdgeAlike.wpOps {P : Program} {ops ops' : Array Oper} (h : EdgeAlike ops ops') {Q : Exit → Act → World → Prop} : ∀ {l : List Nat} {a : Act} {w : World}, wpOps P ops' Q l a w → Go.wpOps P ops Q l a w
  | [], a, w, hh => hh
  | i :: l, a, w, hh => by
    unfold Go.wpOps at hh ⊢
    cases hi : ops[i]? with
    | none =>
      have : ops'[i]? = none := by rw [Array.getElem?_eq_none_iff, h.size]; exact Array.getElem?_eq_none_iff.1 hi
      rw [this] at hh
      exact h.wpOps hh
    | some o =>
      obtain ⟨z, hz⟩ := h.get i o hi
      rw [hz, h.yielded] at hh
      dsimp only at hh ⊢
      have hw : Region.wanted { o with after := z } (Go.yielded ops a.tmps) = Region.wanted o (Go.yielded ops a.tmps) := rfl
      rw [hw] at hh
      split
      · rename_i hwt
        rw [if_pos hwt] at hh
        refine hh.imp (fun hh => ?_) id
        exact Oper.wp_mono (fun a w hh => h.wpOps hh) hh
      · rename_i hwt
        rw [if_neg hwt] at hh
        exact h.wpOps hh

/-- an operation without its edges -/
def bare (o : Oper) : Oper := { o with after := #[] }
theorem nth_bare : ∀ (l : List Oper) (i : Nat), nth (l.map bare) i = (nth l i).map bare
  | [], _ => rfl
  | o :: l, 0 => rfl
  | o :: l, i + 1 => nth_bare l i
theorem isSrc_bare : ∀ (l : List Oper) (i : Nat), isSrc (l.map bare) i = isSrc l i
  | [], _ => rfl
  | o :: l, i => by
    simp only [List.map_cons, isSrc, isSrc_bare l i]
    rfl
theorem wants_bare (l : List Oper) (env : Env) (o : Oper) : wants (l.map bare) env (bare o) = wants l env o := by
  obtain ⟨dst, op, type, pos, after, guard⟩ := o
  cases guard with
  | none => rfl
  | some g =>
    obtain ⟨j, want⟩ := g
    simp only [wants, bare, nth_bare]
    cases nth l j <;> rfl
theorem vcStill_bare (P : Program) (l : List Oper) (env : Env) (H : Heap) (k : Prop) : ∀ js, vcStill P (l.map bare) env H k js = vcStill P l env H k js
  | [] => rfl
  | j :: js => by
    unfold vcStill
    rw [nth_bare]
    cases nth l j with
    | none => rfl
    | some o =>
      simp only [Option.map_some, wants_bare, vcStill_bare P l env H k js]
      rfl
theorem vcHold_bare (P : Program) (l : List Oper) (env : Env) (H : Heap) (k : Prop) (js : List Nat) : vcHold P (l.map bare) env H k js ↔ vcHold P l env H k js := by
  cases js with
  | nil => exact Iff.rfl
  | cons j js => exact ⟨fun h => ⟨by rw [← vcStill_bare]; exact h.out⟩, fun h => ⟨by rw [vcStill_bare]; exact h.out⟩⟩
theorem vcOrd_bare (P : Program) (l : List Oper) (held : List (Nat × List Nat)) (k : Env → Heap → Prop) : ∀ (π : List Nat) (env : Env) (H : Heap), vcOrd P (l.map bare) held π env H k = vcOrd P l held π env H k
  | [], _, _ => rfl
  | i :: π, env, H => by
    unfold vcOrd
    rw [nth_bare]
    cases nth l i with
    | none => rfl
    | some o =>
      have e : ∀ env H, vcOrd P (l.map bare) held π env H k = vcOrd P l held π env H k := vcOrd_bare P l held k π
      have e2 : ∀ env H js, vcHold P (l.map bare) env H (vcOrd P l held π env H k) js = vcHold P l env H (vcOrd P l held π env H k) js := fun env H js => propext (vcHold_bare P l env H _ js)
      simp only [Option.map_some, wants_bare, isSrc_bare, e, e2]
      obtain ⟨dst, op, type, pos, after, guard⟩ := o
      rfl
theorem EdgeAlike.bare {ops ops' : Array Oper} (h : EdgeAlike ops ops') : ops'.toList.map Vc.bare = ops.toList.map Vc.bare := by
  apply List.ext_getElem?
  intro i
  simp only [List.getElem?_map, Array.getElem?_toList]
  cases hi : ops[i]? with
  | none =>
    have : ops'[i]? = none := by rw [Array.getElem?_eq_none_iff, h.size]; exact Array.getElem?_eq_none_iff.1 hi
    rw [this]
  | some o =>
    obtain ⟨z, hz⟩ := h.get i o hi
    rw [hz]; rfl

/-- a region that draws its order, under these edges more -/
structure DrawL (P : Program) (n : Nat) (ops : Array Oper) (es : List (Nat × Nat)) (env : Env) (H : Heap) (k : Env → Heap → Prop) : Prop where
  out : (∀ o ∈ ops.toList, fitsO n o = true) → ∀ (w0 : World) (a : Act) (w : World), Agrees env a → a.defers = a.defers → a.tmps.size = n → Same w0 w → w.heap = H → ∀ l, Lin (addE ops es) ops.size (Array.replicate ops.size false) l →
    wpOps P ops (fun e a' w' => e = .normal ∧ Lift w0 n a (modsO ops.toList) k a' w') l a w

theorem wpOps_monoQ {P : Program} {ops : Array Oper} {Q Q' : Exit → Act → World → Prop} (h : ∀ e a w, Q e a w → Q' e a w) : ∀ {l : List Nat} {a : Act} {w : World}, wpOps P ops Q l a w → wpOps P ops Q' l a w
  | [], a, w, hh => h _ _ _ hh
  | i :: l, a, w, hh => by
    unfold Go.wpOps at hh ⊢
    cases hi : ops[i]? with
    | none => rw [hi] at hh; exact wpOps_monoQ h hh
    | some o =>
      rw [hi] at hh
      dsimp only at hh ⊢
      split
      · rename_i hwt
        rw [if_pos hwt] at hh
        refine hh.imp (fun hh => ?_) fun hh => ⟨hh.1, ?_⟩
        · have := Oper.wp_mono (fun a w hh => wpOps_monoQ (Q' := Q') h hh) hh
          unfold Oper.wp at this ⊢
          generalize (execOp a.eval o).run P w = r at this
          cases r with
          | ok n w' =>
            cases n <;> simp only [Oper.upon] at this ⊢ <;> first | exact this | skip
            exact Calls.mono this fun e w'' he => by
              cases e <;> first | exact he | exact h _ _ _ he | exact (he.elim fun a h1 => h1.elim fun w h1 => ⟨a, w, h _ _ _ h1⟩)
          | halt x w' => cases x <;> first | exact this | exact h _ _ _ this
        · exact (hh.2.elim fun a h1 => h1.elim fun w h1 => ⟨a, w, h _ _ _ h1⟩)
      · rename_i hwt
        rw [if_neg hwt] at hh
        exact wpOps_monoQ h hh
theorem DrawH.lin {P : Program} {n id : Nat} {ops : Array Oper} {env : Env} {H : Heap} {k : Env → Heap → Prop} (hm : P.follows .mixedOrders = true) (h : DrawL P n ops [] env H k) : DrawH P n id ops env H k := by
  refine ⟨fun hf => ⟨fun w0 a w ha hd hn hs hw => wp_region_draw fun t => ?_⟩⟩
  have hf : ∀ o ∈ ops.toList, fitsO n o = true := List.all_eq_true.1 hf
  simp only [Region.schedule, hm, Bool.true_or, if_true]
  have := h.out hf w0 a { w with drawn := w.drawn + 1 } ha hd hn (hs.trans ⟨rfl, rfl, rfl⟩) hw _ (go_lin ops ops.size t _)
  refine wpOps_monoQ ?_ this
  rintro e a' w' ⟨he, hl⟩
  exact Lift.mono hl fun _ _ h => ⟨he, h⟩
theorem DrawL.split {P : Program} {n : Nat} {ops : Array Oper} {es : List (Nat × Nat)} {env : Env} {H : Heap} {k : Env → Heap → Prop} (x y : Nat) (hx : x < ops.size) (hy : y < ops.size) (hxy : x ≠ y) (h1 : DrawL P n ops ((x, y) :: es) env H k) (h2 : DrawL P n ops ((y, x) :: es) env H k) : DrawL P n ops es env H k := by
  refine ⟨fun hf w0 a w ha hd hn hs hw l hl => ?_⟩
  rcases lin_split hxy hl (by simp [hx]) (by simp [hy]) with h | h
  · exact h1.out hf w0 a w ha hd hn hs hw l h
  · exact h2.out hf w0 a w ha hd hn hs hw l h
theorem DrawL.held {P : Program} {n : Nat} {ops : Array Oper} {es : List (Nat × Nat)} {env : Env} {H : Heap} {k : Env → Heap → Prop} (π : List Nat) (held : List (Nat × List Nat)) (hB : heldOk P (addE ops es) π held = true)
    (h : vcOrd P ops.toList held π env H k) : DrawL P n ops es env H k := by
  have h : vcOrd P (addE ops es).toList held π env H k := by rw [← vcOrd_bare, (EdgeAlike.addE ops es).bare, vcOrd_bare]; exact h
  refine ⟨fun hf w0 a w ha hd hn hs hw l hl => (EdgeAlike.addE ops es).wpOps (wpOps_of_any hl ?_)⟩
  have hA := EdgeAlike.addE ops es
  have hf' : ∀ o ∈ (addE ops es).toList, fitsO n o = true := by
    intro o ho
    obtain ⟨i, hi, rfl⟩ := List.getElem_of_mem ho
    have hi' : i < ops.size := by rw [← hA.size]; simpa using hi
    obtain ⟨z, hz⟩ := hA.get i ops[i] (by simp [hi'])
    have : (addE ops es).toList[i] = { ops[i] with after := z } := by
      have hi2 : i < (addE ops es).size := by simpa using hi
      rw [Array.getElem?_eq_getElem hi2] at hz
      simpa using hz
    rw [this]
    exact hf ops[i] (by simp)
  have hmods : modsO (addE ops es).toList = modsO ops.toList := by
    have key : ∀ (l l' : List Oper), l'.length = l.length → (∀ (i : Nat) (o : Oper), l[i]? = some o → ∃ z, l'[i]? = some { o with after := z }) → modsO l' = modsO l := by
      intro l
      induction l with
      | nil => intro l' h _; rw [List.eq_nil_of_length_eq_zero h]
      | cons o l ih =>
        intro l' hl h
        match l', hl with
        | o' :: l', hl =>
          obtain ⟨z, hz⟩ := h 0 o rfl
          have e : o' = { o with after := z } := by simpa using hz
          have := ih l' (by simpa using hl) (fun i o ho => by simpa using h (i + 1) o (by simpa using ho))
          subst e
          simp only [modsO, this]
    exact key _ _ (by simp [hA.size]) fun i o ho => by
      have ho : ops[i]? = some o := by simpa using ho
      obtain ⟨z, hz⟩ := hA.get i o ho
      exact ⟨z, by simpa using hz⟩
  have hT := vcOrd_sound (a0 := a) (w0 := w0) hf' π env H h a w ha hd hn hs (fun _ _ => rfl) hw
  obtain ⟨_, hlen, hsort, hin, hall, _⟩ := heldOk_spec hB
  have hany := wpAny_of_TH hB (Q := fun e a' w' => e = .normal ∧ Lift w0 n a (modsO (addE ops es).toList) k a' w') (fun a w h => ⟨rfl, h⟩) (addE ops es).size π (Array.replicate (addE ops es).size false) a w hlen ?_ hT
  · rw [hA.size, hmods] at hany
    exact hany
  · refine ⟨hsort, hin, fun j hj => ?_, by simp, fun j oj hoj hl => ?_⟩
    · have := hall j hj
      simp [hj, this]
    · exfalso
      rw [getD_replicate] at hl
      cases hl
end Go.Vc
