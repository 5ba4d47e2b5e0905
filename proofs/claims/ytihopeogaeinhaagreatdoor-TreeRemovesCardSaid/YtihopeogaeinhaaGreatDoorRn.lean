import Derived.Test.YtihopeogaeinhaaGreatDoorSpl
import Derived.RangeFuncIn
import Derived.RangeFuncLeaves
import Derived.TacticsIn
set_option linter.unusedSimpArgs false
set_option linter.unusedVariables false
set_option linter.unusedSimpArgs false
set_option maxRecDepth 100000
/- The engine, ranges over a function: what the frame of a round does, what a call of yield asks. -/
namespace Go.Vc
open Go.Lx
abbrev FR (r : Option Nat) : Fence := { Fence.wide with round := r }
theorem callsIn_FR {P : Program} {g : FuncId} {as : Array Value} {w : World} {R : Ending → World → Prop} (r : Option Nat) {n : Nat} (h : Calls P g as w R) : CallsIn (FR r) n P g as w R := by
  cases r with
  | none => exact callsIn_wide.2 h
  | some l => exact (callsIn_wide.2 h : CallsIn Fence.wide n P g as w R)
/-- a call of yield: the round that it is comes to an end, and R holds of what it hands back -/
structure YieldH (P : Program) (l : Nat) (args : List Value) (H : Heap) (R : Value → Heap → Prop) : Prop where
  out : ∀ w : World, w.heap = H → ∃ f tmps assign body w', (Instr.yield l args.toArray).run P w = .ok (.round l f tmps assign body) w' ∧ Same w w' ∧ RoundIn Fence.wide 0 P l f tmps assign body w' fun e w'' => Same w w'' ∧ ∃ v, e = .returned v ∧ R v w''.heap
theorem YieldH.mono {P : Program} {l : Nat} {args : List Value} {H : Heap} {R R' : Value → Heap → Prop} (h : YieldH P l args H R) (hr : ∀ v H, R v H → R' v H) : YieldH P l args H R' :=
  ⟨fun w hw => let ⟨f, t, a, b, w', h1, h2, h3⟩ := h.out w hw; ⟨f, t, a, b, w', h1, h2, RoundIn.mono h3 fun _ _ ⟨hs, v, he, hk⟩ => ⟨hs, v, he, hr _ _ hk⟩⟩⟩
def yieldOf (env : Env) (o : Oper) : Option (Nat × List Value) := match o.op with
  | .call c => match c.callee with
    | .value f => match ev env f with
      | some (.func (.yield l) a b) => match a.toList, b.toList with
        | [], [] => match evs env c.args.toList with
          | some vs => some (l, vs)
          | none => none
        | _, _ => none
      | _ => none
    | _ => none
  | _ => none
def vcOpY (P : Program) (o : Oper) (env : Env) (H : Heap) (k : Value → Heap → Prop) : Prop := match yieldOf env o with
  | some (l, vs) => YieldH P l vs H k
  | none => vcOp P o env H NoX k
def vcOpsY (P : Program) (ops : List Oper) : Nat → List Oper → Env → Heap → (Env → Heap → Prop) → Prop
  | _, [], env, H, k => k env H
  | i, o :: l, env, H, k => match wants ops env o with
    | some true => match o.dst with
      | some d => match isSrc ops i with
        | true => vcOpY P o env H fun v H' => vcSplit true v fun v => vcOpsY P ops (i + 1) l ((d, v) :: env) H' k
        | false => vcOpY P o env H fun v H' => vcOpsY P ops (i + 1) l ((d, v) :: env) H' k
      | none => vcOpY P o env H fun _ H' => vcOpsY P ops (i + 1) l env H' k
    | some false => match o.dst with
      | some d => vcOpsY P ops (i + 1) l ((d, undef) :: env) H k
      | none => vcOpsY P ops (i + 1) l env H k
    | none => False
def noDefO (o : Oper) : Bool := match o.op with
  | .defer _ => false
  | _ => true
def noDefC : Code → Bool
  | .region _ ops _ => ops.toList.all noDefO
  | .seq x y => noDefC x && noDefC y
  | .cond _ x y => noDefC x && noDefC y
  | .block _ x => noDefC x
  | .loop x => noDefC x
  | .skip => true
  | .exit _ => true
  | .ret => true
  | _ => false
/-- what is asked of a piece of code, in a frame of whatever round -/
structure CodeY (P : Program) (r : Option Nat) (n : Nat) (c : Code) (env : Env) (H : Heap) (Q : Post) : Prop where
  out : ∀ (w0 : World) (a : Act) (w : World), Agrees env a → a.tmps.size = n → Same w0 w → w.heap = H → c.wpIn (FR r) 0 P (LiftQ w0 n a (mods c) Q) a w
structure LoopY (P : Program) (n : Nat) (c : Code) (env : Env) (H : Heap) (Q : Post) : Prop where
  out : ∀ r, fitsC n (.loop c) = true → noDefC c = true → CodeY P r n (.loop c) env H Q
def vcCodeY (P : Program) (n : Nat) (c : Code) (env : Env) (H : Heap) (Q : Post) : Prop :=
  match c with
  | .skip => Q .normal env H
  | .region id ops draw => match draw with
    | false => vcOpsY P ops.toList 0 ops.toList env H (Q .normal)
    | true => False
  | .seq x y => vcCodeY P n x env H fun e env H => match e with
      | .normal => vcCodeY P n y env H Q
      | e => Q e env H
  | .cond c x y => match ev env c with
    | some (.bool b) => CondH b (vcCodeY P n x env H Q) (vcCodeY P n y env H Q)
    | _ => False
  | .block id x => vcCodeY P n x env H fun e env H => match e with
    | .exit j => match Nat.beq j id with
      | true => Q .normal env H
      | false => Q (.exit j) env H
    | e => Q e env H
  | .loop x => LoopY P n x env H Q
  | .exit id => Q (.exit id) env H
  | .ret => Q .ret env H
  | _ => False

theorem semAt_FR {r : Option Nat} {o : Oper} (hd : noDefO o = true) (ρ : Operand → Value) : o.semAt (FR r).round ρ = execOp ρ o := by
  cases r with
  | none => rfl
  | some l => exact Oper.semAt_some l _ _ fun c e => by unfold noDefO at hd; rw [e] at hd; cases hd
theorem wpInOp_of_comes {r : Option Nat} {P : Program} {o : Oper} {a : Act} {w : World} {k : Value → Heap → Prop} {next : Act → World → Prop} {Q : Exit → Act → World → Prop} (hd : noDefO o = true)
    (h : Comes1 P o a w NoX k) (hnext : ∀ v w', Same w w' → k v w'.heap → next (a.put o.dst v) w') : o.wpIn (FR r) 0 P a w next Q := by
  refine ⟨fun _ _ => trivial, ?_⟩
  rw [semAt_FR hd]
  rcases h with ⟨v, hv, hk⟩ | ⟨h0, h1, h⟩
  · rw [hv w]; exact hnext v w (Same.refl w) hk
  · cases hr : (execOp a.eval o).run P w with
    | halt x w' => rw [hr] at h; cases x <;> first | exact h.elim | exact h.2.elim
    | ok n w' =>
      rw [hr] at h
      cases n <;> simp only at h <;> try exact h.elim
      · exact hnext _ _ h.1 h.2
      · exact hnext _ _ h.1 h.2
      · refine ⟨fun hd => (by cases hd), callsIn_FR r (Calls.mono h.2 fun e w'' ⟨hs, hv⟩ => ?_)⟩
        rcases hv with ⟨v, he, hk⟩ | ⟨c, he, hx⟩
        · exact he ▸ hnext v w'' hs hk
        · exact hx.elim
theorem wpInOp_of_yield {r : Option Nat} {P : Program} {o : Oper} {a : Act} {w : World} {H : Heap} {k : Value → Heap → Prop} {next : Act → World → Prop} {Q : Exit → Act → World → Prop} {l : Nat} {vs : List Value} (hd : noDefO o = true)
    (he : execOp a.eval o = Instr.yield l vs.toArray) (h : YieldH P l vs H k) (hw : w.heap = H) (hnext : ∀ v w', Same w w' → k v w'.heap → next (a.put o.dst v) w') : o.wpIn (FR r) 0 P a w next Q := by
  refine ⟨fun _ _ => trivial, ?_⟩
  rw [semAt_FR hd, he]
  obtain ⟨f, tmps, assign, body, w', h1, h2, h3⟩ := h.out w hw
  rw [h1]
  refine ⟨fun hd => (by cases hd), RoundIn.mono (F := FR r) h3 fun e w'' ⟨hs, v, he, hk⟩ => ?_⟩
  subst he
  exact hnext v w'' hs hk
theorem vcOpY_sound {r : Option Nat} {P : Program} {o : Oper} {env : Env} {a : Act} {w : World} {H : Heap} {k : Value → Heap → Prop} {next : Act → World → Prop} {Q : Exit → Act → World → Prop} (hd : noDefO o = true)
    (h : vcOpY P o env H k) (ha : Agrees env a) (hw : w.heap = H) (hnext : ∀ v w', Same w w' → k v w'.heap → next (a.put o.dst v) w') : o.wpIn (FR r) 0 P a w next Q := by
  unfold vcOpY at h
  split at h
  · rename_i l vs hy
    refine wpInOp_of_yield hd ?_ h hw hnext
    unfold yieldOf at hy
    obtain ⟨dst, op, type, pos, after, guard⟩ := o
    dsimp only at hy
    split at hy
    · rename_i c
      obtain ⟨callee, args, argTypes⟩ := c
      dsimp only at hy
      split at hy
      · split at hy
        · rename_i f l' x y hf
          split at hy
          · rename_i hx hyy
            split at hy
            · rename_i vs' hvs
              obtain ⟨rfl, rfl⟩ : l' = l ∧ vs' = vs := by simpa using hy
              have ex : x = #[] := Array.toList_inj.1 hx
              have ey : y = #[] := Array.toList_inj.1 hyy
              subst ex; subst ey
              simp only [execOp, resolve, ha.ev hf, map_evs ha hvs, Deferred.ofValue]
              simp only [pure_bind, invoke, Array.append_empty, Array.empty_append]
              try rfl
            · cases hy
          · cases hy
        · cases hy
      · cases hy
    · cases hy
  · exact wpInOp_of_comes hd (vcOp_sound h ha hw) hnext
theorem vcOpsY_sound {r : Option Nat} {P : Program} {ops : Array Oper} {n : Nat} {k : Env → Heap → Prop} {w0 : World} {a0 : Act} {Q : Exit → Act → World → Prop} (hQ : ∀ a w, Lift w0 n a0 (modsO ops.toList) k a w → Q .normal a w)
    (hfit : ∀ o ∈ ops.toList, fitsO n o = true) (hdef : ∀ o ∈ ops.toList, noDefO o = true) :
    ∀ (l : List Oper) (i : Nat), ops.toList.drop i = l → ∀ (env : Env) (H : Heap), vcOpsY P ops.toList i l env H k → ∀ (a : Act) (w : World), Agrees env a → a.defers = a0.defers → a.tmps.size = n → Same w0 w →
      (∀ i, i ∉ modsO ops.toList → a.tmps[i]? = a0.tmps[i]?) → w.heap = H → wpOpsIn (FR r) 0 P ops Q (List.range' i l.length) a w
  | [], i, _, env, H, h, a, w, ha, hd, hn, hs, hfr, hw => hQ a w ⟨hd, hn, hs, hfr, env, ha, hw ▸ h⟩
  | o :: l, i, hl, env, H, h, a, w, ha, hd, hn, hs, hfr, hw => by
    have ho : ops[i]? = some o := by
      have : (ops.toList.drop i)[0]? = some o := by rw [hl]; rfl
      simpa using this
    have hl' : ops.toList.drop (i + 1) = l := by
      have := congrArg List.tail hl
      simpa [List.tail_drop] using this
    have hmem : o ∈ ops.toList := List.mem_of_mem_drop (i := i) (by rw [hl]; simp)
    have hf := hfit o hmem
    have hm : ∀ t, o.dst = some t → t ∈ modsO ops.toList := fun t ht => modsO_mem hmem ht
    show wpOpsIn (FR r) 0 P ops Q (i :: List.range' (i + 1) l.length) a w
    simp only [wpOpsIn, ho]
    simp only [vcOpsY] at h
    split at h
    · rename_i hwt
      have hwt := wants_spec hwt ha
      rw [if_pos hwt]
      have h : vcOpY P o env H fun v H' => vcSplit (isSrc ops.toList i && o.dst.isSome) v fun v => vcOpsY P ops.toList (i + 1) l (putE env o.dst v) H' k := by
        cases hd : o.dst with
        | none => simp only [hd] at h; simpa [vcSplit, putE] using h
        | some d =>
          simp only [hd] at h
          cases hs : isSrc ops.toList i
          · simp only [hs] at h; simpa [vcSplit, putE] using h
          · simp only [hs] at h; simpa [putE] using h
      refine vcOpY_sound (hdef o hmem) h ha hw ?_
      intro v w' hsame hk
      have hk := vcSplit_sound hk
      exact vcOpsY_sound hQ hfit hdef l (i + 1) hl' _ _ hk _ _ (ha.putE hn hf v) (by rw [put_defers']; exact hd) (by rw [put_size]; exact hn) (hs.trans hsame) (put_frame hfr hm v) rfl
    · rename_i hwt
      have hwt := wants_spec hwt ha
      have h : vcOpsY P ops.toList (i + 1) l (putE env o.dst undef) H k := by
        cases hd : o.dst with
        | none => simp only [hd] at h; simpa [putE] using h
        | some d => simp only [hd] at h; simpa [putE] using h
      rw [if_neg (by rw [hwt]; simp)]
      exact ⟨fun _ _ => trivial, vcOpsY_sound hQ hfit hdef l (i + 1) hl' _ _ h _ _ (ha.putE hn hf undef) (by rw [put_defers']; exact hd) (by rw [put_size]; exact hn) hs (put_frame hfr hm undef) hw⟩
    · exact h.elim
theorem vcCodeY_sound {P : Program} {r : Option Nat} {n : Nat} : ∀ (c : Code) (env : Env) (H : Heap) (Q : Post), fitsC n c = true → noDefC c = true → vcCodeY P n c env H Q → CodeY P r n c env H Q
  | .skip, env, H, Q, _, _, h => ⟨fun w0 a w ha hn hs hw => wpIn_skip ⟨rfl, hn, hs, fun _ _ => rfl, env, ha, hw ▸ h⟩⟩
  | .region id ops draw, env, H, Q, hf, hdf, h => by
    cases draw with
    | false =>
      refine ⟨fun w0 a w ha hn hs hw => wpIn_region ?_⟩
      have := vcOpsY_sound (r := r) (a0 := a) (Q := LiftQ w0 n a (modsO ops.toList) Q) (fun _ _ h => h) (List.all_eq_true.1 hf) (List.all_eq_true.1 hdf) ops.toList 0 rfl env H h a w ha rfl hn hs (fun _ _ => rfl) hw
      rw [← List.range_eq_range', Array.length_toList] at this
      exact this
    | true => exact h.elim
  | .seq x y, env, H, Q, hf, hdf, h => by
    simp only [fitsC, Bool.and_eq_true] at hf
    simp only [noDefC, Bool.and_eq_true] at hdf
    unfold vcCodeY at h
    have hx := vcCodeY_sound (r := r) x env H _ hf.1 hdf.1 h
    refine ⟨fun w0 a w ha hsz hs hw => wpIn_seq (wpIn_mono (hx.out w0 a w ha hsz hs hw) ?_)⟩
    intro e a' w' ⟨h1, h2, h3, hfr, env', h4, h5⟩
    have other : e ≠ .normal → LiftQ w0 n a (mods (.seq x y)) Q e a' w' := fun hne => ⟨h1, h2, h3, fun i hi => hfr i (fun hm => hi (by simp [mods, hm])), env', h4, by cases e <;> first | exact absurd rfl hne | exact h5⟩
    cases e with
    | normal =>
      have hy := vcCodeY_sound (r := r) y env' w'.heap Q hf.2 hdf.2 h5
      refine wpIn_mono (hy.out w0 a' w' h4 h2 h3 rfl) ?_
      intro e a2 w2 ⟨g1, g2, g3, gfr, env2, g4, g5⟩
      exact ⟨g1.trans h1, g2, g3, fun i hi => (gfr i (fun hm => hi (by simp [mods, hm]))).trans (hfr i (fun hm => hi (by simp [mods, hm]))), env2, g4, g5⟩
    | exit j => exact other (by simp)
    | goto j => exact other (by simp)
    | ret => exact other (by simp)
    | panic c => exact other (by simp)
    | outgrown => exact other (by simp)
  | .cond c x y, env, H, Q, hf, hdf, h => by
    simp only [fitsC, Bool.and_eq_true] at hf
    simp only [noDefC, Bool.and_eq_true] at hdf
    simp only [vcCodeY] at h
    split at h
    · rename_i b hb
      refine ⟨fun w0 a w ha hn hs hw => wpIn_cond (ha.ev hb) ?_⟩
      cases b with
      | true => exact wpIn_mono ((vcCodeY_sound x env H Q hf.1 hdf.1 (h.t rfl)).out w0 a w ha hn hs hw) fun e a' w' ⟨h1, h2, h3, h4, h5⟩ => ⟨h1, h2, h3, fun i hi => h4 i (fun hm => hi (by simp [mods, hm])), h5⟩
      | false => exact wpIn_mono ((vcCodeY_sound y env H Q hf.2 hdf.2 (h.f rfl)).out w0 a w ha hn hs hw) fun e a' w' ⟨h1, h2, h3, h4, h5⟩ => ⟨h1, h2, h3, fun i hi => h4 i (fun hm => hi (by simp [mods, hm])), h5⟩
    · exact h.elim
  | .block id x, env, H, Q, hf, hdf, h => by
    have hx := vcCodeY_sound (r := r) x env H _ hf hdf h
    refine ⟨fun w0 a w ha hn hs hw => wpIn_block (wpIn_mono (hx.out w0 a w ha hn hs hw) ?_)⟩
    intro e a' w' ⟨h1, h2, h3, hfr, env', h4, h5⟩
    cases e with
    | exit j =>
      show if j = id then _ else _
      dsimp only at h5
      split at h5
      · rename_i hb
        rw [if_pos (Nat.eq_of_beq_eq_true hb)]
        exact ⟨h1, h2, h3, hfr, env', h4, h5⟩
      · rename_i hb
        rw [if_neg (fun e => by subst e; simp at hb)]
        exact ⟨h1, h2, h3, hfr, env', h4, h5⟩
    | _ => exact ⟨h1, h2, h3, hfr, env', h4, h5⟩
  | .loop x, env, H, Q, hf, hdf, h => h.out r hf hdf
  | .exit id, env, H, Q, _, _, h => ⟨fun w0 a w ha hn hs hw => wpIn_exit ⟨rfl, hn, hs, fun _ _ => rfl, env, ha, hw ▸ h⟩⟩
  | .ret, env, H, Q, _, _, h => ⟨fun w0 a w ha hn hs hw => wpIn_ret ⟨rfl, hn, hs, fun _ _ => rfl, env, ha, hw ▸ h⟩⟩
theorem wpIn_loop_by {F : Fence} {m : Nat} {P : Program} {c : Code} {Q : Exit → Act → World → Prop} {a : Act} {w : World} (I : Nat → Act → World → Prop) (n₀ : Nat) (h₀ : I n₀ a w)
    (round : ∀ n a w, I n a w → c.wpIn F m P (Exit.then (fun a' w' => ∃ n', n' < n ∧ I n' a' w') Q) a w) : (Code.loop c).wpIn F m P Q a w := by
  intro b k cs hro hb hr
  have key : ∀ j a w, I j a w → ∃ e a' w', Q e a' w' ∧ ArrivesIn (Machine.fenced P F) P (lone (b.atR a (.code c :: .inLoop c :: k)) cs w) b k cs e a' w' := by
    intro j
    induction j using Nat.strongRecOn with
    | _ j ih =>
      intro a w hI
      obtain ⟨e, a₁, w₁, hq, harr⟩ := round j a w hI b (.inLoop c :: k) cs hro hb hr
      cases e with
      | normal =>
        obtain ⟨j', hlt, hI₁⟩ := hq
        obtain ⟨e₂, a₂, w₂, hq₂, harr₂⟩ := ih j' hlt a₁ w₁ hI₁
        exact ⟨e₂, a₂, w₂, hq₂, .of_steps (StepsIn.trans harr (.one (fenced_calm hb hr rfl) stepR_inLoop)) harr₂⟩
      | exit id => exact ⟨_, a₁, w₁, hq, .pass (x := .inLoop c) rfl (fun _ _ => .inl (by simp)) harr⟩
      | goto l => exact ⟨_, a₁, w₁, hq, .pass (x := .inLoop c) rfl (fun _ _ => .inl (by simp)) harr⟩
      | ret => exact ⟨_, a₁, w₁, hq, .pass (x := .inLoop c) rfl (fun _ _ => .inl (by simp)) harr⟩
      | panic ch => exact ⟨_, a₁, w₁, hq, .pass (x := .inLoop c) rfl (fun _ _ => .inl (by simp)) harr⟩
      | outgrown => exact ⟨_, a₁, w₁, hq, .pass (x := .inLoop c) rfl (fun _ _ => .inl (by simp)) harr⟩
  obtain ⟨e, a', w', hq, harr⟩ := key n₀ a w h₀
  exact ⟨e, a', w', hq, .of_steps (.one (fenced_calm hb hr rfl) stepR_loop) harr⟩
theorem LoopY.intro {σ : Type} {P : Program} {n : Nat} {c : Code} {env : Env} {H : Heap} {Q : Post} (S : σ → Env) (I : σ → Heap → Prop) (μ : σ → Nat) (s0 : σ) (h0 : Bears env (S s0)) (hI : I s0 H)
    (round : ∀ s H, I s H → enterK (mods c) env (S s) fun E => vcCodeY P n c E H fun e env' H' => match e with
      | .normal => ∃ s', Bears env' (S s') ∧ I s' H' ∧ μ s' < μ s
      | e => Q e env' H') : LoopY P n c env H Q := by
  refine ⟨fun r hf hdf => ⟨fun w0 a w ha hn hs hw => ?_⟩⟩
  refine wpIn_loop_by (fun m a' w' => a'.defers = a.defers ∧ a'.tmps.size = n ∧ Same w0 w' ∧ (∀ i, i ∉ mods c → a'.tmps[i]? = a.tmps[i]?) ∧ ∃ s, (∀ p ∈ S s, a'.tmps[p.1]? = some p.2) ∧ I s w'.heap ∧ μ s = m) (μ s0)
    ⟨rfl, hn, hs, fun _ _ => rfl, s0, bears_get ha h0, hw ▸ hI, rfl⟩ ?_
  intro m a' w' ⟨h1, h2, h3, h4, s, h5, h6, h7⟩
  obtain ⟨E, hcode, hE⟩ := enterK_spec (round s _ h6) ha h4 h5
  refine wpIn_mono ((vcCodeY_sound (r := r) c _ _ _ hf hdf hcode).out w0 a' w' hE h2 h3 rfl) ?_
  intro e a1 w1 ⟨g1', g2, g3, g4, env1, g5, g6⟩
  have g1 := g1'.trans h1
  have hfr : ∀ i, i ∉ mods c → a1.tmps[i]? = a.tmps[i]? := fun i hi => (g4 i hi).trans (h4 i hi)
  cases e with
  | normal =>
    obtain ⟨s', hb, hI', hlt⟩ := g6
    exact ⟨μ s', h7 ▸ hlt, g1, g2, g3, hfr, s', bears_get g5 hb, hI', rfl⟩
  | exit id => exact ⟨g1, g2, g3, hfr, env1, g5, g6⟩
  | goto l => exact ⟨g1, g2, g3, hfr, env1, g5, g6⟩
  | ret => exact ⟨g1, g2, g3, hfr, env1, g5, g6⟩
  | panic ch => exact ⟨g1, g2, g3, hfr, env1, g5, g6⟩
  | outgrown => exact ⟨g1, g2, g3, hfr, env1, g5, g6⟩
end Go.Vc
