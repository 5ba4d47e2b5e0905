import Derived.Test.YtihopeogaeinhaaGreatDoorLex
set_option linter.unusedSimpArgs false
set_option linter.unusedVariables false
set_option linter.unusedSimpArgs false
set_option maxRecDepth 100000
/- A region that draws its order, walked in one order of our own, where loads that a call is not ordered with are read again behind it. -/
namespace Go.Lx
section
variable {P : Program} {ops : Array Oper}

def look : List (Nat × List Nat) → Nat → List Nat
  | [], _ => []
  | (j, l) :: r, i => match Nat.beq i j with
    | true => l
    | false => look r i
def isHeld (held : List (Nat × List Nat)) (x : Nat) : Bool := held.any fun p => p.2.contains x
theorem look_held {held : List (Nat × List Nat)} {i m : Nat} (h : m ∈ look held i) : isHeld held m = true := by
  induction held with
  | nil => simp [look] at h
  | cons p r ih =>
    obtain ⟨j, l⟩ := p
    unfold look at h
    unfold isHeld
    rw [List.any_cons, Bool.or_eq_true]
    split at h
    · exact .inl (by simpa using h)
    · exact .inr (ih h)

/-- read again, the load j tells what its slot holds -/
def ReY (P : Program) (ops : Array Oper) (j : Nat) (a : Act) (w : World) : Prop :=
  ∃ o, ops[j]? = some o ∧ ∃ u, YieldsR P ops w o u a ∧ ∀ d, o.dst = some d → a.tmps.size ≤ d ∨ a.tmps[d]? = some u

def TH (P : Program) (ops : Array Oper) (held : List (Nat × List Nat)) (K : Act → World → Prop) : List Nat → Act → World → Prop
  | [] => K
  | i :: l => step P ops i fun a w => (∀ j ∈ look held i, ReY P ops j a w) ∧ TH P ops held K l a w

/-- y does not write what the load m looks at, nor its slot -/
def halfB (ops : Array Oper) (m y : Oper) : Bool := match y.dst with
  | some d => !(m.looksAt ops).contains d && m.dst != some d
  | none => true
def ownB (ops : Array Oper) (m : Oper) : Bool := match m.dst with
  | some d => !(m.looksAt ops).contains d
  | none => true
theorem halfB_spec {m y : Oper} (h : halfB ops m y = true) : ∀ d, y.dst = some d → d ∉ m.looksAt ops ∧ m.dst ≠ some d := by
  intro d hd
  unfold halfB at h
  rw [hd] at h
  simp only [Bool.and_eq_true, Bool.not_eq_true', bne_iff_ne] at h
  refine ⟨fun hm => ?_, h.2⟩
  have := h.1
  rw [List.contains_eq_mem] at this
  simp [hm] at this
theorem ownB_spec {m : Oper} (h : ownB ops m = true) : ∀ d, m.dst = some d → d ∉ m.looksAt ops := by
  intro d hd hm
  unfold ownB at h
  rw [hd] at h
  simp [hm] at h

theorem tmps_put_ne {a : Act} {d : Option Tmp} {v : Value} {i : Nat} (h : d ≠ some i) : (a.put d v).tmps[i]? = a.tmps[i]? := by
  cases d with
  | none => rfl
  | some t =>
    simp only [Act.put]
    rw [Array.getElem?_setIfInBounds, if_neg (fun e => h (by rw [e]))]
theorem tmps_put_size {a : Act} {d : Option Tmp} {v : Value} : (a.put d v).tmps.size = a.tmps.size := by cases d <;> simp [Act.put]

theorem ReY.put {m : Nat} {om y : Oper} (hm : ops[m]? = some om) (hs : noSel om) (hh : halfB ops om y = true) {a : Act} {w : World} {v : Value} : ReY P ops m (a.put y.dst v) w ↔ ReY P ops m a w := by
  have h1 := halfB_spec hh
  have hsl : ∀ d, om.dst = some d → y.dst ≠ some d := fun d hd he => (h1 d he).2 hd
  constructor
  · rintro ⟨o, ho, u, hy, hsl'⟩
    have : o = om := Option.some.inj (ho.symm.trans hm)
    subst this
    refine ⟨o, ho, u, (yieldsR_put hs (fun d hd => (h1 d hd).1)).1 hy, fun d hd => ?_⟩
    have := hsl' d hd
    rwa [tmps_put_size, tmps_put_ne (hsl d hd)] at this
  · rintro ⟨o, ho, u, hy, hsl'⟩
    have : o = om := Option.some.inj (ho.symm.trans hm)
    subst this
    refine ⟨o, ho, u, (yieldsR_put hs (fun d hd => (h1 d hd).1)).2 hy, fun d hd => ?_⟩
    rw [tmps_put_size, tmps_put_ne (hsl d hd)]
    exact hsl' d hd

theorem put_same_slot {a : Act} {d : Option Tmp} {u v : Value} (h : ∀ t, d = some t → (a.put d v).tmps.size ≤ t ∨ (a.put d v).tmps[t]? = some u) : a.put d v = a.put d u := by
  cases d with
  | none => rfl
  | some t =>
    rcases h t rfl with h | h
    · simp only [Act.put] at h ⊢
      rw [Array.size_setIfInBounds] at h
      rw [Array.setIfInBounds_eq_of_size_le h, Array.setIfInBounds_eq_of_size_le h]
    · simp only [Act.put] at h ⊢
      have hlt : t < a.tmps.size := by
        have := (Array.getElem?_eq_some_iff.1 h).1
        rwa [Array.size_setIfInBounds] at this
      rw [Array.getElem?_setIfInBounds_self_of_lt hlt] at h
      rw [Option.some.inj h]

variable {held : List (Nat × List Nat)} {K : Act → World → Prop}

theorem pullH (pos : Nat → Nat) (hsel : ∀ (j : Nat) (o : Oper), ops[j]? = some o → noSel o) (hlook : ∀ (j : Nat) (o : Oper), ops[j]? = some o → kind P o.op ≠ 2 → look held j = [])
    {i : Nat} {oi : Oper} (hi : ops[i]? = some oi) (post : List Nat) :
    ∀ (pre : List Nat), pre.Pairwise (fun x y => pos x < pos y) →
      (∀ x ∈ pre, ∃ ox, ops[x]? = some ox ∧ (comm P ops ox oi = true ∨ (kind P ox.op = 1 ∧ kind P oi.op = 2 ∧ x ∈ look held i ∧ ox.apart ops oi = true ∧ ownB ops ox = true))) →
      (∀ x ∈ pre, ∀ m ∈ look held x, ∃ om, ops[m]? = some om ∧ halfB ops om oi = true) →
      (∀ m ∈ look held i, ∀ y ∈ pre, (pos m < pos y ∨ m ∉ pre) → ∃ om oy, ops[m]? = some om ∧ ops[y]? = some oy ∧ halfB ops om oy = true) →
      ∀ (a : Act) (w : World), TH P ops held K (pre ++ i :: post) a w → step P ops i (fun a w => (∀ m ∈ look held i, m ∉ pre → ReY P ops m a w) ∧ TH P ops held K (pre ++ post) a w) a w
  | [], _, _, _, _, a, w, h => step_mono (fun a w hk => ⟨fun m hm _ => hk.1 m hm, hk.2⟩) h
  | x :: pre, hsort, hc, hx4, hx3, a, w, h => by
    obtain ⟨hxs, hsort'⟩ := List.pairwise_cons.1 hsort
    have hxn : x ∉ pre := fun hm => by have := hxs x hm; omega
    obtain ⟨ox, hox, hcx⟩ := hc x (by simp)
    have ih := pullH pos hsel hlook hi post pre hsort' (fun y hy => hc y (by simp [hy])) (fun y hy => hx4 y (by simp [hy])) (fun m hm y hy hor => hx3 m hm y (by simp [hy]) (by
      rcases hor with h | h
      · exact .inl h
      · by_cases hmx : m = x
        · subst hmx; exact .inl (hxs y hy)
        · exact .inr (by simp [hmx, h])))
    have h' : step P ops x (fun a w => (∀ m ∈ look held x, ReY P ops m a w) ∧ step P ops i (fun a w => (∀ m ∈ look held i, m ∉ pre → ReY P ops m a w) ∧ TH P ops held K (pre ++ post) a w) a w) a w :=
      step_mono (fun a w hk => ⟨hk.1, ih a w hk.2⟩) h
    clear h ih
    -- what is known of the loads held by i goes back over a put of x
    have back : ∀ (a1 : Act) (w1 : World) (v : Value), (∀ m ∈ look held i, m ∉ pre → ReY P ops m (a1.put ox.dst v) w1) → ∀ m ∈ look held i, m ∉ x :: pre → ReY P ops m a1 w1 := by
      intro a1 w1 v hC m hm hn
      obtain ⟨om, oy, hom, hoy, hh⟩ := hx3 m hm x (by simp) (.inr hn)
      have : oy = ox := Option.some.inj (hoy.symm.trans hox)
      subst this
      exact (ReY.put hom (hsel _ _ hom) hh).1 (hC m hm fun h => hn (by simp [h]))
    rcases hcx with hcx | ⟨k1, k2, hxi, hap, hown⟩
    · by_cases kx : kind P ox.op = 2
      · have ki : kind P oi.op = 0 := by
          simp only [comm, Bool.and_eq_true, Bool.or_eq_true, beq_iff_eq] at hcx
          omega
        have hli := hlook i oi hi (by omega)
        have h2 : step P ops x (step P ops i (fun a w => (∀ m ∈ look held x, ReY P ops m a w) ∧ TH P ops held K (pre ++ post) a w)) a w := by
          refine step_mono (fun a1 w1 hk => ?_) h'
          obtain ⟨hC, hk⟩ := hk
          unfold step at hk ⊢
          simp only [hi, ki, if_true] at hk ⊢
          obtain ⟨v, hy, hk⟩ := hk
          refine ⟨v, hy, fun m hm => ?_, hk.2⟩
          obtain ⟨om, hom, hh⟩ := hx4 x (by simp) m hm
          exact (ReY.put hom (hsel _ _ hom) hh).2 (hC m hm)
        refine step_mono (fun a1 w1 hk => ⟨fun m hm => ?_, hk⟩) (swap hox hi (hsel _ _ hox) (hsel _ _ hi) hcx h2)
        rw [hli] at hm; cases hm
      · have hlx := hlook x ox hox kx
        have h2 : step P ops x (step P ops i (fun a w => (∀ m ∈ look held i, m ∉ pre → ReY P ops m a w) ∧ TH P ops held K (pre ++ post) a w)) a w := step_mono (fun _ _ hk => hk.2) h'
        refine step_mono (fun a1 w1 hk => ?_) (swap hox hi (hsel _ _ hox) (hsel _ _ hi) hcx h2)
        have triv : ∀ a w, ∀ m ∈ look held x, ReY P ops m a w := fun a w m hm => by rw [hlx] at hm; cases hm
        refine ⟨?_, step_mono (fun a w hk => ⟨triv a w, hk.2⟩) hk⟩
        have k01 : kind P ox.op = 0 ∨ kind P ox.op = 1 := by
          have : kind P ox.op ≤ 2 := by
            unfold kind
            repeat' split
            all_goals omega
          omega
        unfold step at hk
        simp only [hox] at hk
        rcases k01 with k0 | k1
        · simp only [k0, if_true] at hk
          obtain ⟨v, _, hk⟩ := hk
          exact back a1 w1 v hk.1
        · simp only [k1, if_true, Nat.one_ne_zero, if_false] at hk
          obtain ⟨v, _, hk⟩ := hk
          exact back a1 w1 v hk.1
    · obtain ⟨h1, h2, h3⟩ := Oper.apart_spec hap
      have hlx := hlook x ox hox (by omega)
      have triv : ∀ a w, ∀ m ∈ look held x, ReY P ops m a w := fun a w m hm => by rw [hlx] at hm; cases hm
      have hsx := hsel _ _ hox
      have hsi := hsel _ _ hi
      unfold step at h'
      simp only [hox, k1, Nat.one_ne_zero, if_false, if_true] at h'
      obtain ⟨v, hy, _, h'⟩ := h'
      -- behind i the load is read again
      have fin : ∀ (a1 : Act) (w1 : World), (∀ m ∈ look held i, m ∉ pre → ReY P ops m (a1.put ox.dst v) w1) ∧ TH P ops held K (pre ++ post) (a1.put ox.dst v) w1 →
          (∀ m ∈ look held i, m ∉ x :: pre → ReY P ops m a1 w1) ∧ TH P ops held K (x :: (pre ++ post)) a1 w1 := by
        intro a1 w1 ⟨hC, hT⟩
        refine ⟨back a1 w1 v hC, ?_⟩
        obtain ⟨o, ho, u, hyu, hsl⟩ := hC x hxi hxn
        have : o = ox := Option.some.inj (ho.symm.trans hox)
        subst this
        have heq := put_same_slot hsl
        show step P ops x _ a1 w1
        unfold step
        simp only [hox, k1, Nat.one_ne_zero, if_false, if_true]
        refine ⟨u, (yieldsR_put hsx (ownB_spec hown)).1 hyu, triv _ _, ?_⟩
        rw [← heq]
        exact hT
      unfold step
      have k20 : (kind P oi.op = 0) = False := by simp [k2]
      have k21 : (kind P oi.op = 1) = False := by simp [k2]
      simp only [hi, k20, k21, if_false] at h' ⊢
      rw [wanted_put oi a ox.dst v h1] at h'
      split
      · rename_i hw
        rw [if_pos hw, wp_put hsi h1 h2] at h'
        exact Oper.wp_mono (fun a1 w1 hk => fin a1 w1 hk) h'
      · rename_i hw
        rw [if_neg hw] at h'
        refine fin _ _ ?_
        rw [← Act.put_comm a v undef h2]
        exact h'

/- ---------- the check ---------- -/
def sortedB (pos : Nat → Nat) : List Nat → Bool
  | [] => true
  | x :: l => l.all (fun y => decide (pos x < pos y)) && sortedB pos l
theorem sortedB_spec {pos : Nat → Nat} : ∀ {l : List Nat}, sortedB pos l = true → l.Pairwise fun x y => pos x < pos y
  | [], _ => List.Pairwise.nil
  | x :: l, h => by
    simp only [sortedB, Bool.and_eq_true, List.all_eq_true, decide_eq_true_eq] at h
    exact List.pairwise_cons.2 ⟨h.1, sortedB_spec h.2⟩
def posOf (π : List Nat) (i : Nat) : Nat := π.idxOf i
/-- is x ordered ahead of y, looked for along the order π -/
def heldOk (P : Program) (ops : Array Oper) (π : List Nat) (held : List (Nat × List Nat)) : Bool :=
  Region.noSelect ops && decide (π.length = ops.size) && sortedB (posOf π) π && π.all (fun j => decide (j < ops.size)) && (List.range ops.size).all (fun j => π.contains j) &&
  (List.range ops.size).all fun y => match ops[y]? with
    | none => false
    | some oy =>
      oy.after.all (fun e => !Region.binds .any e || (decide (posOf π e.on < posOf π y) && decide (e.on < ops.size))) &&
      (kind P oy.op == 2 || (look held y).isEmpty) &&
      (look held y).all (fun m => decide (posOf π m < posOf π y)) &&
      (List.range ops.size).all fun x => !decide (posOf π x < posOf π y) || match ops[x]? with
        | none => false
        | some ox =>
          (comm P ops ox oy || ancC (clo ops π []) y x || (kind P ox.op == 1 && kind P oy.op == 2 && (look held y).contains x && ox.apart ops oy && ownB ops ox)) &&
          (!isHeld held x || halfB ops ox oy) && (!isHeld held y || (ancC (clo ops π []) y x || halfB ops oy ox))

theorem heldOk_spec {π : List Nat} (h : heldOk P ops π held = true) : Region.noSelect ops = true ∧ π.length = ops.size ∧ π.Pairwise (fun x y => posOf π x < posOf π y) ∧ (∀ j ∈ π, j < ops.size) ∧ (∀ j, j < ops.size → j ∈ π) ∧
    ∀ y oy, ops[y]? = some oy → (∀ e ∈ oy.after, Region.binds .any e = true → posOf π e.on < posOf π y ∧ e.on < ops.size) ∧ (kind P oy.op ≠ 2 → look held y = []) ∧ (∀ m ∈ look held y, posOf π m < posOf π y) ∧
      ∀ x, x < ops.size → posOf π x < posOf π y → ∃ ox, ops[x]? = some ox ∧
        (comm P ops ox oy = true ∨ ancC (clo ops π []) y x = true ∨ (kind P ox.op = 1 ∧ kind P oy.op = 2 ∧ x ∈ look held y ∧ ox.apart ops oy = true ∧ ownB ops ox = true)) ∧
        (isHeld held x = true → halfB ops ox oy = true) ∧ (isHeld held y = true → ancC (clo ops π []) y x = true ∨ halfB ops oy ox = true) := by
  simp only [heldOk, Bool.and_eq_true, List.all_eq_true, List.mem_range, decide_eq_true_eq] at h
  obtain ⟨⟨⟨⟨⟨h1, h2⟩, h3⟩, h4⟩, h5⟩, h6⟩ := h
  refine ⟨h1, h2, sortedB_spec h3, h4, fun j hj => by simpa using h5 j hj, fun y oy hy => ?_⟩
  have hlt : y < ops.size := (Array.getElem?_eq_some_iff.1 hy).1
  have h7 := h6 y hlt
  simp only [hy, Bool.and_eq_true, List.all_eq_true, List.mem_range, Array.all_eq_true_iff_forall_mem, decide_eq_true_eq] at h7
  obtain ⟨⟨⟨ha, hb⟩, hc⟩, hd⟩ := h7
  refine ⟨fun e he hbd => ?_, fun hk => ?_, hc, fun x hx hp => ?_⟩
  · have := ha e he
    simp [hbd] at this
    exact this
  · simp only [Bool.or_eq_true, beq_iff_eq, List.isEmpty_iff] at hb
    exact hb.resolve_left hk
  · have := hd x hx
    simp only [hp, decide_true, Bool.not_true, Bool.false_or] at this
    cases hox : ops[x]? with
    | none => simp [hox] at this
    | some ox =>
      simp only [hox, Bool.and_eq_true, Bool.or_eq_true, beq_iff_eq, Bool.not_eq_true'] at this
      obtain ⟨⟨q1, q2⟩, q3⟩ := this
      refine ⟨ox, rfl, ?_, fun hh => ?_, fun hh => ?_⟩
      · rcases q1 with (q | q) | ⟨⟨⟨⟨q, q'⟩, q''⟩, q3⟩, q4⟩
        · exact .inl q
        · exact .inr (.inl q)
        · exact .inr (.inr ⟨q, q', by simpa using q'', q3, q4⟩)
      · exact q2.resolve_left (by simp [hh])
      · exact q3.resolve_left (by simp [hh])

structure InvH (ops : Array Oper) (pos : Nat → Nat) (l : List Nat) (listed : Array Bool) : Prop where
  sorted : l.Pairwise fun x y => pos x < pos y
  inside : ∀ j ∈ l, j < ops.size
  mem : ∀ j, j < ops.size → (listed.getD j true = false ↔ j ∈ l)
  size : listed.size = ops.size
  closed : ∀ j oj, ops[j]? = some oj → listed.getD j false = true → ∀ e ∈ oj.after, Region.binds .any e = true → listed.getD e.on false = true

theorem wpAny_of_TH {Q : Exit → Act → World → Prop} {π : List Nat} (hB : heldOk P ops π held = true) (hK : ∀ a w, K a w → Q .normal a w) : ∀ (n : Nat) (l : List Nat) (listed : Array Bool) (a : Act) (w : World), l.length = n → InvH ops (posOf π) l listed → TH P ops held K l a w →
    wpAny P .any ops Q n listed a w := by
  obtain ⟨hsel, -, -, -, -, hspec⟩ := heldOk_spec hB
  have hns : ∀ (j : Nat) (o : Oper), ops[j]? = some o → noSel o := fun j o ho cs b => Region.noSelect_spec hsel j o cs b ho
  intro n
  induction n with
  | zero =>
    intro l listed a w hn inv h
    have : l = [] := by simpa using hn
    subst this
    refine ⟨?_, hK _ _ h⟩
    apply List.eq_nil_iff_forall_not_mem.2
    intro j hj
    obtain ⟨hun, o, ho, _⟩ := mem_ready.1 hj
    have := (inv.mem j (Array.getElem?_eq_some_iff.1 ho).1).1 hun
    cases this
  | succ n ih =>
    intro l listed a w hn inv h
    have unlisted : ∀ j, listed.getD j true = false → listed.getD j false = true → False := by
      intro j h1 h2
      rcases Nat.lt_or_ge j listed.size with h' | h'
      · simp [h'] at h1 h2; rw [h1] at h2; cases h2
      · simp [Array.getElem?_eq_none h'] at h1
    refine ⟨fun hr => ?_, fun i hi => ?_⟩
    · exfalso
      match l, hn with
      | i0 :: l', _ =>
        have hlt := inv.inside i0 (by simp)
        have : i0 ∈ Region.ready .any ops listed := by
          refine mem_ready.2 ⟨(inv.mem i0 hlt).2 (by simp), ops[i0], by simp [hlt], fun e he hb => ?_⟩
          obtain ⟨hlt2, hsz2⟩ := (hspec i0 _ (by simp [hlt])).1 e he hb
          have hnot : e.on ∉ i0 :: l' := by
            intro hm
            rcases List.mem_cons.1 hm with h | h
            · rw [h] at hlt2; omega
            · have := (List.pairwise_cons.1 inv.sorted).1 _ h; omega
          have hsz : e.on < listed.size := by rw [inv.size]; omega
          have hnf : ¬ listed.getD e.on true = false := fun hf => hnot ((inv.mem _ (by omega)).1 hf)
          simp [hsz] at hnf ⊢
          exact hnf
        rw [hr] at this
        cases this
    · obtain ⟨hun, oi, hoi, hall⟩ := mem_ready.1 hi
      have hlt := (Array.getElem?_eq_some_iff.1 hoi).1
      have hmem := (inv.mem i hlt).1 hun
      obtain ⟨pre, post, rfl⟩ := List.append_of_mem hmem
      have hp := inv.sorted
      rw [List.pairwise_append] at hp
      have hpre : ∀ x ∈ pre, posOf π x < posOf π i := fun x hx => hp.2.2 x hx i (by simp)
      have noanc : ∀ x ∈ pre, ∀ (y : Nat) (oy : Oper), ops[y]? = some oy → (listed.getD y false = true ∨ y = i) → ancC (clo ops π []) y x = true → False := by
        intro x hx y oy hy hly hanc
        have hlx : listed.getD x false = true := by
          rcases hly with hly | rfl
          · exact ancC_listed inv.closed _ y x oy hy (inv.closed y oy hy hly) hanc
          · have := Option.some.inj (hoi.symm.trans hy); subst this
            exact ancC_listed inv.closed _ y x oi hoi hall hanc
        exact unlisted x ((inv.mem x (inv.inside x (by simp [hx]))).2 (by simp [hx])) hlx
      have hpull := pullH (K := K) (posOf π) hns (fun j o ho hk => (hspec j o ho).2.1 hk) hoi post pre hp.1 (fun x hx => ?_) (fun x hx m hm => ?_) (fun m hm y hy hor => ?_) a w h
      · refine wpOp_of_step (step_mono (fun a' w' hk => ih (pre ++ post) _ a' w' (by simp at hn ⊢; omega) ?_ hk.2) hpull)
        refine ⟨?_, fun j hj => inv.inside j (by simp at hj ⊢; rcases hj with h | h <;> simp [h]), fun j hj => ?_, by simp [inv.size], fun j oj hoj hl e he hb => ?_⟩
        · rw [List.pairwise_append]
          exact ⟨hp.1, (List.pairwise_cons.1 hp.2.1).2, fun x hx y hy => hp.2.2 x hx y (by simp [hy])⟩
        · by_cases hij : i = j
          · subst hij
            have hnd : i ∉ pre ++ post := by
              intro hm
              rcases List.mem_append.1 hm with h | h
              · have := hpre _ h; omega
              · have := (List.pairwise_cons.1 hp.2.1).1 _ h; omega
            have hsz : i < listed.size := by rw [inv.size]; exact hlt
            simp only [hnd, iff_false]
            simp [hsz]
          · rw [getD_set_ne true hij, inv.mem j hj]
            simp
            constructor
            · rintro (h | h | h)
              · exact .inl h
              · exact absurd h.symm hij
              · exact .inr h
            · rintro (h | h)
              · exact .inl h
              · exact .inr (.inr h)
        · by_cases hij : i = j
          · subst hij
            have : oj = oi := Option.some.inj (hoj.symm.trans hoi)
            subst this
            exact getD_set_true (hall e he hb)
          · rw [getD_set_ne false hij] at hl
            exact getD_set_true (inv.closed j oj hoj hl e he hb)
      · obtain ⟨ox, hox, hc, _⟩ := (hspec i oi hoi).2.2.2 x (inv.inside x (by simp [hx])) (hpre x hx)
        refine ⟨ox, hox, ?_⟩
        rcases hc with hc | hc | hc
        · exact .inl hc
        · exact (noanc x hx i oi hoi (.inr rfl) hc).elim
        · exact .inr hc
      · have hxl := inv.inside x (by simp [hx])
        obtain ⟨_, _, hmp, _⟩ := hspec x ops[x] (by simp [hxl])
        have hpm := hmp m hm
        have hpi := hpre x hx
        by_cases hml : m < ops.size
        · obtain ⟨om, hom, _, hh, _⟩ := (hspec i oi hoi).2.2.2 m hml (by omega)
          exact ⟨om, hom, hh (look_held hm)⟩
        · exfalso
          have hn : m ∉ π := fun h => hml ((heldOk_spec hB).2.2.2.1 m h)
          have h1 : posOf π m = π.length := List.idxOf_eq_length hn
          have h2 : posOf π x ≤ π.length := List.idxOf_le_length
          omega
      · have hyl := inv.inside y (by simp [hy])
        have hpm := (hspec i oi hoi).2.2.1 m hm
        have hml : m < ops.size := by
          rcases Nat.lt_or_ge m ops.size with h | h
          · exact h
          · exfalso
            have hn : m ∉ π := fun h' => by have := (heldOk_spec hB).2.2.2.1 m h'; omega
            have h1 : posOf π m = π.length := List.idxOf_eq_length hn
            have h2 : posOf π i ≤ π.length := List.idxOf_le_length
            omega
        by_cases hlt3 : posOf π m < posOf π y
        · obtain ⟨om, hom, _, hh, _⟩ := (hspec y ops[y] (by simp [hyl])).2.2.2 m hml hlt3
          exact ⟨om, ops[y], hom, by simp [hyl], hh (look_held hm)⟩
        · have hnp : m ∉ pre := hor.resolve_left hlt3
          have hne : m ≠ y := fun e => hnp (e ▸ hy)
          have hyp : posOf π y < posOf π m := by
            have hym : y ∈ π := (heldOk_spec hB).2.2.2.2.1 y hyl
            have hmm : m ∈ π := (heldOk_spec hB).2.2.2.2.1 m hml
            have hneq : posOf π y ≠ posOf π m := fun e => by
              have h1 : π[posOf π y]? = some y := by unfold posOf; rw [List.getElem?_eq_getElem (List.idxOf_lt_length_of_mem hym), List.getElem_idxOf]
              have h2 : π[posOf π m]? = some m := by unfold posOf; rw [List.getElem?_eq_getElem (List.idxOf_lt_length_of_mem hmm), List.getElem_idxOf]
              rw [e] at h1
              exact hne (Option.some.inj (h2.symm.trans h1))
            omega
          obtain ⟨oy, hoy, _, _, hh⟩ := (hspec m ops[m] (by simp [hml])).2.2.2 y hyl hyp
          rcases hh (look_held hm) with hh | hh
          · exfalso
            have hmi : m ≠ i := fun e => by rw [e] at hpm; omega
            have hmpost : m ∉ post := fun hmp => by have := (List.pairwise_cons.1 hp.2.1).1 m hmp; omega
            have hlm : listed.getD m false = true := by
              have hsz : m < listed.size := by rw [inv.size]; exact hml
              have : ¬ listed.getD m true = false := fun hf => by
                have := (inv.mem m hml).1 hf
                simp [hnp, hmi, hmpost] at this
              simp [hsz] at this ⊢
              exact this
            exact noanc y hy m ops[m] (by simp [hml]) (.inl hlm) hh
          · exact ⟨ops[m], oy, by simp [hml], hoy, hh⟩

end
end Go.Lx
