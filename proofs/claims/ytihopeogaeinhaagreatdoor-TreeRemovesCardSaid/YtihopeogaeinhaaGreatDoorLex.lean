import Derived.Test.YtihopeogaeinhaaGreatDoorSwap
set_option linter.unusedSimpArgs false
set_option linter.unusedVariables false
set_option linter.unusedSimpArgs false
set_option maxRecDepth 100000
namespace Go.Lx
section
variable {P : Program} {ops : Array Oper}

def T (P : Program) (ops : Array Oper) (Q : Exit → Act → World → Prop) : List Nat → Act → World → Prop
  | [] => fun a w => Q .normal a w
  | i :: l => step P ops i (T P ops Q l)

theorem pull {Q : Exit → Act → World → Prop} (hsel : ∀ (j : Nat) (o : Oper), ops[j]? = some o → noSel o) {i : Nat} {oi : Oper} (hi : ops[i]? = some oi) (post : List Nat) :
    ∀ (pre : List Nat), (∀ x ∈ pre, ∃ ox, ops[x]? = some ox ∧ comm P ops ox oi = true) → ∀ (a : Act) (w : World), T P ops Q (pre ++ i :: post) a w → step P ops i (T P ops Q (pre ++ post)) a w
  | [], _, a, w, h => h
  | x :: pre, hc, a, w, h => by
    obtain ⟨ox, hx, hcx⟩ := hc x (by simp)
    have h' : step P ops x (step P ops i (T P ops Q (pre ++ post))) a w :=
      step_mono (fun a w hk => pull hsel hi post pre (fun y hy => hc y (by simp [hy])) a w hk) h
    exact swap hx hi (hsel _ _ hx) (hsel _ _ hi) hcx h'

/- what each operation waits for, through others too: sets of bits, worked out in an order -/
def bits : List (Nat × Nat) → Nat → Nat
  | [], _ => 0
  | (i, m) :: l, j => match Nat.beq j i with
    | true => m
    | false => bits l j
def maskE (acc : List (Nat × Nat)) : List Edge → Nat
  | [] => 0
  | e :: l => match Region.binds .any e with
    | true => (2 ^ e.on ||| bits acc e.on) ||| maskE acc l
    | false => maskE acc l
def clo (ops : Array Oper) : List Nat → List (Nat × Nat) → List (Nat × Nat)
  | [], acc => acc
  | j :: l, acc => match ops[j]? with
    | some o => clo ops l ((j, maskE acc o.after.toList) :: acc)
    | none => clo ops l acc
def ancC (acc : List (Nat × Nat)) (y x : Nat) : Bool := (bits acc y).testBit x
theorem maskE_bit {acc : List (Nat × Nat)} {x : Nat} : ∀ {l : List Edge}, (maskE acc l).testBit x = true → ∃ e ∈ l, Region.binds .any e = true ∧ (e.on = x ∨ (bits acc e.on).testBit x = true)
  | [], h => by simp [maskE] at h
  | e :: l, h => by
    unfold maskE at h
    split at h
    · rename_i hb
      rw [Nat.testBit_or, Nat.testBit_or, Nat.testBit_two_pow, Bool.or_eq_true, Bool.or_eq_true, decide_eq_true_eq] at h
      rcases h with h | h
      · exact ⟨e, by simp, hb, h⟩
      · obtain ⟨e', h1, h2⟩ := maskE_bit h
        exact ⟨e', by simp [h1], h2⟩
    · obtain ⟨e', h1, h2⟩ := maskE_bit h
      exact ⟨e', by simp [h1], h2⟩
def GoodC (ops : Array Oper) (L : Nat → Prop) (acc : List (Nat × Nat)) : Prop := ∀ y x, (bits acc y).testBit x = true → ∃ oy, ops[y]? = some oy ∧ ((∀ e ∈ oy.after, Region.binds .any e = true → L e.on) → L x)
theorem clo_good {L : Nat → Prop} (hcl : ∀ j oj, ops[j]? = some oj → L j → ∀ e ∈ oj.after, Region.binds .any e = true → L e.on) : ∀ (l : List Nat) (acc : List (Nat × Nat)), GoodC ops L acc → GoodC ops L (clo ops l acc)
  | [], acc, h => h
  | j :: l, acc, h => by
    unfold clo
    split
    · rename_i o ho
      refine clo_good hcl l _ fun y x hx => ?_
      unfold bits at hx
      split at hx
      · rename_i hb
        obtain rfl := Nat.eq_of_beq_eq_true hb
        refine ⟨o, ho, fun hl => ?_⟩
        obtain ⟨e, he, hbd, h1⟩ := maskE_bit hx
        have he' : e ∈ o.after := by simpa using he
        rcases h1 with rfl | h1
        · exact hl e he' hbd
        · obtain ⟨oe, hoe, h2⟩ := h _ _ h1
          exact h2 (hcl _ _ hoe (hl e he' hbd))
      · exact h _ _ hx
    · exact clo_good hcl l _ h
theorem ancC_listed {listed : Array Bool} (hcl : ∀ j oj, ops[j]? = some oj → listed.getD j false = true → ∀ e ∈ oj.after, Region.binds .any e = true → listed.getD e.on false = true)
    (l : List Nat) (y x : Nat) (oy : Oper) (hy : ops[y]? = some oy) (hl : ∀ e ∈ oy.after, Region.binds .any e = true → listed.getD e.on false = true) (h : ancC (clo ops l []) y x = true) : listed.getD x false = true := by
  obtain ⟨oy', h1, h2⟩ := clo_good (L := fun i => listed.getD i false = true) hcl l [] (fun y x h => by simp [bits] at h) y x h
  rw [hy] at h1; cases h1
  exact h2 hl

structure Inv (ops : Array Oper) (l : List Nat) (listed : Array Bool) : Prop where
  sorted : l.Pairwise (· < ·)
  inside : ∀ j ∈ l, j < ops.size
  mem : ∀ j, j < ops.size → (listed.getD j true = false ↔ j ∈ l)
  size : listed.size = ops.size
  closed : ∀ j oj, ops[j]? = some oj → listed.getD j false = true → ∀ e ∈ oj.after, Region.binds .any e = true → listed.getD e.on false = true

def needs : Op → Bool
  | .binOp _ _ _ _ _ | .nilCheck _ | .convert _ _ _ | .call _ => true
  | _ => false

def lexOk (P : Program) (ops : Array Oper) : Bool :=
  Region.noSelect ops &&
  (List.range ops.size).all fun y => match ops[y]? with
    | none => false
    | some oy =>
      oy.after.all (fun e => !Region.binds .any e || decide (e.on < y)) &&
      ((List.range y).all fun x => match ops[x]? with
        | none => false
        | some ox => comm P ops ox oy || ancC (clo ops (List.range ops.size) []) y x) &&
      (!needs oy.op || (List.range ops.size).all fun j => decide (j < y) || match ops[j]? with
        | none => true
        | some oj => match oj.dst with
          | none => true
          | some d => !(oy.looksAt ops).contains d)

theorem lexOk_spec (h : lexOk P ops = true) : Region.noSelect ops = true ∧ ∀ y oy, ops[y]? = some oy →
    (∀ e ∈ oy.after, Region.binds .any e = true → e.on < y) ∧ (∀ x, x < y → ∃ ox, ops[x]? = some ox ∧ (comm P ops ox oy = true ∨ ancC (clo ops (List.range ops.size) []) y x = true)) ∧
    (needs oy.op = true → ∀ j oj d, y ≤ j → ops[j]? = some oj → oj.dst = some d → d ∉ oy.looksAt ops) := by
  simp only [lexOk, Bool.and_eq_true, List.all_eq_true, List.mem_range] at h
  refine ⟨h.1, fun y oy hy => ?_⟩
  have hlt : y < ops.size := (Array.getElem?_eq_some_iff.1 hy).1
  have h1 := h.2 y hlt
  simp only [hy, Bool.and_eq_true, List.all_eq_true, List.mem_range, Array.all_eq_true_iff_forall_mem, Bool.or_eq_true] at h1
  obtain ⟨⟨ha, hb⟩, hc⟩ := h1
  refine ⟨fun e he hbd => ?_, fun x hx => ?_, fun hn j oj d hj ho hd => ?_⟩
  · have := ha e he
    simp [hbd] at this
    exact this
  · have := hb x hx
    cases hox : ops[x]? with
    | none => simp [hox] at this
    | some ox => simp only [hox, Bool.or_eq_true] at this; exact ⟨ox, rfl, this⟩
  · rcases hc with hc | hc
    · simp [hn] at hc
    · have := hc j (Array.getElem?_eq_some_iff.1 ho).1
      simp only [ho, hd, decide_eq_true_eq] at this
      rcases this with h | h
      · omega
      · simpa using h

theorem wpAny_of_T {Q : Exit → Act → World → Prop} (hB : lexOk P ops = true) : ∀ (n : Nat) (l : List Nat) (listed : Array Bool) (a : Act) (w : World), l.length = n → Inv ops l listed → T P ops Q l a w →
    wpAny P .any ops Q n listed a w := by
  obtain ⟨hsel, hspec⟩ := lexOk_spec hB
  have hns : ∀ (j : Nat) (o : Oper), ops[j]? = some o → noSel o := fun j o ho cs b => Region.noSelect_spec hsel j o cs b ho
  intro n
  induction n with
  | zero =>
    intro l listed a w hn inv h
    have : l = [] := by simpa using hn
    subst this
    refine ⟨?_, h⟩
    apply List.eq_nil_iff_forall_not_mem.2
    intro j hj
    obtain ⟨hun, o, ho, _⟩ := mem_ready.1 hj
    have := (inv.mem j (Array.getElem?_eq_some_iff.1 ho).1).1 hun
    cases this
  | succ n ih =>
    intro l listed a w hn inv h
    have unlisted : ∀ j, listed.getD j true = false → listed.getD j false = true → False := by
      intro j h1 h2
      rcases Nat.lt_or_ge j listed.size with h' | h'
      · simp [h'] at h1 h2; rw [h1] at h2; cases h2
      · simp [Array.getElem?_eq_none h'] at h1
    refine ⟨fun hr => ?_, fun i hi => ?_⟩
    · exfalso
      match l, hn with
      | i0 :: l', _ =>
        have hlt := inv.inside i0 (by simp)
        have : i0 ∈ Region.ready .any ops listed := by
          refine mem_ready.2 ⟨(inv.mem i0 hlt).2 (by simp), ops[i0], by simp [hlt], fun e he hb => ?_⟩
          have hlt2 := (hspec i0 _ (by simp [hlt])).1 e he hb
          have hnot : e.on ∉ i0 :: l' := by
            intro hm
            rcases List.mem_cons.1 hm with h | h
            · omega
            · have := (List.pairwise_cons.1 inv.sorted).1 _ h; omega
          have hsz : e.on < listed.size := by rw [inv.size]; omega
          have hnf : ¬ listed.getD e.on true = false := fun hf => hnot ((inv.mem _ (by omega)).1 hf)
          simp [hsz] at hnf ⊢
          exact hnf
        rw [hr] at this
        cases this
    · obtain ⟨hun, oi, hoi, hall⟩ := mem_ready.1 hi
      have hlt := (Array.getElem?_eq_some_iff.1 hoi).1
      have hmem := (inv.mem i hlt).1 hun
      obtain ⟨pre, post, rfl⟩ := List.append_of_mem hmem
      have hp := inv.sorted
      rw [List.pairwise_append] at hp
      have hpre : ∀ x ∈ pre, x < i := fun x hx => hp.2.2 x hx i (by simp)
      refine wpOp_of_step (step_mono (fun a' w' hk => ih (pre ++ post) _ a' w' (by simp at hn ⊢; omega) ?_ hk) (pull hns hoi post pre (fun x hx => ?_) a w h))
      · refine ⟨?_, fun j hj => inv.inside j (by simp at hj ⊢; rcases hj with h | h <;> simp [h]), fun j hj => ?_, by simp [inv.size], fun j oj hoj hl e he hb => ?_⟩
        · rw [List.pairwise_append]
          exact ⟨hp.1, (List.pairwise_cons.1 hp.2.1).2, fun x hx y hy => hp.2.2 x hx y (by simp [hy])⟩
        · by_cases hij : i = j
          · subst hij
            have hnd : i ∉ pre ++ post := by
              intro hm
              rcases List.mem_append.1 hm with h | h
              · have := hpre _ h; omega
              · have := (List.pairwise_cons.1 hp.2.1).1 _ h; omega
            have hsz : i < listed.size := by rw [inv.size]; exact hlt
            simp only [hnd, iff_false]
            simp [hsz]
          · rw [getD_set_ne true hij, inv.mem j hj]
            simp
            constructor
            · rintro (h | h | h)
              · exact .inl h
              · exact absurd h.symm hij
              · exact .inr h
            · rintro (h | h)
              · exact .inl h
              · exact .inr (.inr h)
        · by_cases hij : i = j
          · subst hij
            have : oj = oi := Option.some.inj (hoj.symm.trans hoi)
            subst this
            exact getD_set_true (hall e he hb)
          · rw [getD_set_ne false hij] at hl
            exact getD_set_true (inv.closed j oj hoj hl e he hb)
      · have hxi := hpre x hx
        obtain ⟨ox, hox, hc⟩ := (hspec i oi hoi).2.1 x hxi
        refine ⟨ox, hox, ?_⟩
        rcases hc with hc | hc
        · exact hc
        · exfalso
          have hxl := ancC_listed inv.closed _ i x oi hoi hall hc
          have hxu := (inv.mem x (Array.getElem?_eq_some_iff.1 hox).1).2 (by simp [hx])
          exact unlisted x hxu hxl

def saneAll (ops : Array Oper) (tmps : Array Value) : Bool :=
  ops.all fun o => !needs o.op || !Region.wanted o (yielded ops tmps) || sane (Act.eval { tmps := tmps, defers := [] }) o.op

/-- the end of a region that is walked in the text's order: no panic, and the operands were plain -/
def Sane (ops : Array Oper) (Q : Exit → Act → World → Prop) : Exit → Act → World → Prop :=
  fun e a w => e = .normal ∧ saneAll ops a.tmps = true ∧ Q .normal a w

theorem Sane.mk {Q : Exit → Act → World → Prop} {a : Act} {w : World} (h : saneAll ops a.tmps = true) (hq : Q .normal a w) : Sane ops Q .normal a w := ⟨rfl, h, hq⟩

theorem sane_congr {ρ ρ' : Operand → Value} (op : Op) (h : ∀ x ∈ op.operands, ρ x = ρ' x) : sane ρ op = sane ρ' op := by
  cases op <;> try rfl
  case binOp => simp [Op.operands] at h; simp [sane, h]
  case nilCheck => simp [Op.operands] at h; simp [sane, h]
  case convert => simp [Op.operands] at h; simp [sane, h]
  case call c =>
    obtain ⟨callee, args, argTypes⟩ := c
    cases callee <;> try rfl
    rename_i b
    have ha : ∀ x ∈ args, ρ x = ρ' x := fun x hx => h x (by simp [Op.operands, Call.operands, hx])
    have hall : (args.all fun x => plainArg (ρ x)) = (args.all fun x => plainArg (ρ' x)) := by
      rw [Bool.eq_iff_iff]
      simp only [Array.all_eq_true_iff_forall_mem]
      exact ⟨fun k x hx => ha x hx ▸ k x hx, fun k x hx => (ha x hx).symm ▸ k x hx⟩
    cases b <;> first | rfl | exact hall

theorem eval_eq_of_tmps {a a' : Act} (h : a.tmps = a'.tmps) : a.eval = a'.eval := by
  funext x
  cases x <;> simp [Act.eval, h]

theorem getD_replicate (m j : Nat) : (Array.replicate m false).getD j false = false := by
  rcases Nat.lt_or_ge j m with h | h
  · simp [h]
  · simp [h]

/-- what o looks at is not among what these write -/
def Away (ops : Array Oper) (l : List Oper) (o : Oper) : Prop := ∀ oj ∈ l, ∀ d, oj.dst = some d → d ∉ o.looksAt ops

theorem same_form {o x : Oper} {a a1 : Act} (h : ∀ d, x.dst = some d → d ∉ o.looksAt ops) (hf : Form x a a1) :
    sane a1.eval o.op = sane a.eval o.op ∧ Region.wanted o (yielded ops a1.tmps) = Region.wanted o (yielded ops a.tmps) := by
  have key : ∀ (a : Act) (u : Value), sane (a.put x.dst u).eval o.op = sane a.eval o.op := fun a u =>
    sane_congr _ fun y hy => Act.eval_put fun d hd hxd => h d hd (by
      subst hxd
      exact List.mem_append_left _ (List.mem_filterMap.2 ⟨.tmp d, by simpa using hy, rfl⟩))
  rcases hf with ⟨u, rfl⟩ | ⟨d, rfl⟩
  · exact ⟨key a u, wanted_put o a x.dst u h⟩
  · exact ⟨(key _ _).trans (by rfl), (wanted_put (ops := ops) o _ x.dst undef h).trans rfl⟩

theorem final_sane {Q : Exit → Act → World → Prop} : ∀ (l : List Oper) (a : Act) (w : World), wpList P ops (Sane ops Q) l a w →
    ∃ af : Act, saneAll ops af.tmps = true ∧ ∀ o, Away ops l o → sane af.eval o.op = sane a.eval o.op ∧ Region.wanted o (yielded ops af.tmps) = Region.wanted o (yielded ops a.tmps)
  | [], a, w, h => ⟨a, h.2.1, fun _ _ => ⟨rfl, rfl⟩⟩
  | x :: l, a, w, h => by
    have hlets : ¬ LetsOut (Sane ops Q) := fun ⟨_, _, h⟩ => by cases h.1
    have hpan : ∀ c a w, ¬ Sane ops Q (.panic c) a w := fun c a w h => by cases h.1
    unfold wpList at h
    have hex : ∃ a1 w1, Form x a a1 ∧ wpList P ops (Sane ops Q) l a1 w1 := by
      split at h
      · rcases h with h | h
        · exact wp_some hpan hlets (wp_form h)
        · exact absurd h.2 hlets
      · exact ⟨_, _, .inl ⟨_, rfl⟩, h⟩
    obtain ⟨a1, w1, hf, hl⟩ := hex
    obtain ⟨af, hs, hall⟩ := final_sane l a1 w1 hl
    refine ⟨af, hs, fun o ho => ?_⟩
    have h1 := hall o fun oj hj d hd => ho oj (by simp [hj]) d hd
    have h2 := same_form (fun d hd => ho x (by simp) d hd) hf
    exact ⟨h1.1.trans h2.1, h1.2.trans h2.2⟩

theorem sane_of_not_needs {ρ : Operand → Value} {op : Op} (h : needs op = false) : sane ρ op = true := by
  cases op <;> first | rfl | (simp [needs] at h)

theorem sane_now {Q : Exit → Act → World → Prop} {k : Nat} {o : Oper} {l : List Oper} (hB : lexOk P ops = true) (hd : ops.toList.drop k = o :: l) {a : Act} {w : World} (h : wpList P ops (Sane ops Q) (o :: l) a w)
    (hw : Region.wanted o (yielded ops a.tmps) = true) : sane a.eval o.op = true := by
  by_cases hn : needs o.op = true
  · have ho : ops[k]? = some o := by
      have : (ops.toList.drop k)[0]? = some o := by rw [hd]; rfl
      simpa using this
    have hst := ((lexOk_spec hB).2 k o ho).2.2 hn
    obtain ⟨af, hs, hall⟩ := final_sane _ a w h
    have haw : Away ops (o :: l) o := by
      intro oj hj d hdst
      rw [← hd] at hj
      obtain ⟨m, hm⟩ := List.mem_iff_getElem?.1 hj
      refine hst (k + m) oj d (by omega) ?_ hdst
      simpa using hm
    obtain ⟨e1, e2⟩ := hall o haw
    have := (Array.all_eq_true_iff_forall_mem.1 hs) o (Array.mem_of_getElem? ho)
    simp only [hn, e2, hw, Bool.not_true, Bool.false_or] at this
    rw [← e1, ← this]
    exact congrArg (fun ρ => sane ρ o.op) (eval_eq_of_tmps rfl)
  · exact sane_of_not_needs (by simpa using hn)

theorem T_of_list {Q : Exit → Act → World → Prop} (hB : lexOk P ops = true) : ∀ (l : List Oper) (k : Nat) (a : Act) (w : World), ops.toList.drop k = l → wpList P ops (Sane ops Q) l a w → T P ops Q (List.range' k l.length) a w
  | [], k, a, w, _, h => h.2.2
  | o :: l, k, a, w, hd, h => by
    have ho : ops[k]? = some o := by
      have : (ops.toList.drop k)[0]? = some o := by rw [hd]; rfl
      simpa using this
    have hd' : ops.toList.drop (k + 1) = l := by
      have := congrArg List.tail hd
      simpa [List.tail_drop] using this
    have hlets : ¬ LetsOut (Sane ops Q) := fun ⟨_, _, h⟩ => by cases h.1
    have hsane := sane_now hB hd h
    show step P ops k (T P ops Q (List.range' (k + 1) l.length)) a w
    have ih : ∀ a w, wpList P ops (Sane ops Q) l a w → T P ops Q (List.range' (k + 1) l.length) a w := fun a w => T_of_list hB l (k + 1) a w hd'
    unfold step
    simp only [ho]
    unfold wpList at h
    by_cases hw : Region.wanted o (yielded ops a.tmps) = true
    · rw [if_pos hw] at h
      have h := h.resolve_right fun h => hlets h.2
      have hs := hsane hw
      by_cases k0 : kind P o.op = 0
      · rw [if_pos k0]
        unfold Oper.wp at h
        rcases pureOp (P := P) o k0 hs with ⟨v, hv⟩ | hn
        · rw [hv, Oper.upon_value] at h
          exact ⟨v, .inl ⟨hw, hv⟩, ih _ _ h⟩
        · exfalso
          cases hr : (execOp a.eval o).run P w with
          | ok n w' => exact hn _ _ _ hr
          | halt x w' => rw [hr] at h; cases x <;> simp only [Oper.upon] at h <;> first | exact h | exact absurd h.1 (by simp)
      · rw [if_neg k0]
        by_cases k1 : kind P o.op = 1
        · rw [if_pos k1]
          unfold Oper.wp at h
          cases hr : (execOp a.eval o).run P w with
          | ok n w' =>
            obtain ⟨rfl, v, rfl⟩ := readOp o k1 hs hr
            rw [hr, Oper.upon_value] at h
            exact ⟨v, .inl ⟨hw, hr⟩, ih _ _ h⟩
          | halt x w' => exfalso; rw [hr] at h; cases x <;> simp only [Oper.upon] at h <;> first | exact h | exact absurd h.1 (by simp)
        · rw [if_neg k1, if_pos hw]
          have h := Oper.wp_mono ih h
          unfold Oper.wp at *
          generalize (execOp a.eval o).run P w = r at *
          cases r with
          | ok n w' =>
            cases n <;> simp only [Oper.upon] at h ⊢ <;>
              first
                | exact h
                | exact Calls.mono h (fun e w'' he => by cases e <;> first | exact he | exact absurd he.1 (by simp) | exact absurd he hlets)
          | halt x w' => cases x <;> simp only [Oper.upon] at h ⊢ <;> first | exact h | exact absurd h.1 (by simp)
    · rw [if_neg hw] at h
      have hwf : Region.wanted o (yielded ops a.tmps) = false := by simpa using hw
      have h := ih _ _ h
      by_cases k0 : kind P o.op = 0
      · rw [if_pos k0]; exact ⟨undef, .inr ⟨hwf, rfl⟩, h⟩
      · rw [if_neg k0]
        by_cases k1 : kind P o.op = 1
        · rw [if_pos k1]; exact ⟨undef, .inr ⟨hwf, rfl⟩, h⟩
        · rw [if_neg k1, if_neg hw]; exact h

/-- A REGION THAT DRAWS ITS ORDER MAY BE WALKED IN THE TEXT's ORDER, where lexOk holds. -/
theorem wp_region_text {id : Nat} {l : List Oper} {Q : Exit → Act → World → Prop} {a : Act} {w : World} (hm : P.follows .mixedOrders = true) (hB : lexOk P l.toArray = true)
    (h : wpList P l.toArray (Sane l.toArray Q) l a w.drew) : (Code.region id l.toArray true).wp P Q a w := by
  refine wp_region_any hm ?_
  have hT := T_of_list (ops := l.toArray) hB l 0 a w.drew (by simp) h
  have hsz : l.toArray.size = l.length := by simp
  refine wpAny_of_T hB l.toArray.size (List.range' 0 l.length) (Array.replicate l.toArray.size false) a _ (by simp) ?_ hT
  refine ⟨List.pairwise_lt_range', fun j hj => by simpa using hj, fun j hj => ?_, by simp, fun j oj hoj hl => ?_⟩
  · have hj' : j < l.length := by simpa using hj
    simp [hj']
  · exfalso
    rw [getD_replicate] at hl
    cases hl
end
end Go.Lx
