import Derived.Test.YtihopeogaeinhaaGreatDoorRn
import Derived.Test.YtihopeogaeinhaaGreatDoorSt
set_option linter.unusedSimpArgs false
set_option linter.unusedVariables false
set_option linter.unusedSimpArgs false
set_option maxRecDepth 100000
/- The engine, ranges over a function: the statement itself, one round of it, and a function that holds one. -/
namespace Go.Vc
open Go.Lx
/-- block l is a loop's record -/
structure LoopO (H : Heap) (l : Nat) (s : LoopState) (p : Option Code) (r : Loop) : Prop where out : H[l]? = some (.loop { r with state := s, pending := p })
theorem LoopO.lt {H : Heap} {l : Nat} {s : LoopState} {p : Option Code} {r : Loop} (h : LoopO H l s p r) : l < H.size := (Array.getElem?_eq_some_iff.1 h.out).1
theorem LoopO.keep {F : Nat → Prop} {H H' : Heap} {l : Nat} {s : LoopState} {p : Option Code} {r : Loop} (h : LoopO H l s p r) (k : Only F H H') (hl : ¬ F l) : LoopO H' l s p r := ⟨(k.same l h.lt hl).trans h.out⟩
theorem LoopO.ext {H H' : Heap} {l : Nat} {s : LoopState} {p : Option Code} {r : Loop} (h : LoopO H l s p r) (k : Ext H H') : LoopO H' l s p r := h.keep k id
theorem LoopO.ne {H : Heap} {l g : Nat} {s : LoopState} {p : Option Code} {r : Loop} {c : Array Value} {t : TypeId} (h : LoopO H l s p r) (k : Blk H g c t) : l ≠ g := by
  rintro rfl
  obtain ⟨_, h2, _⟩ := k.out
  rw [h.out] at h2; cases h2
/-- block D is a block for deferred calls, of which there are none -/
structure DefO (H : Heap) (D : Nat) : Prop where out : H[D]? = some (.deferred (some []))
theorem DefO.lt {H : Heap} {D : Nat} (h : DefO H D) : D < H.size := (Array.getElem?_eq_some_iff.1 h.out).1
theorem DefO.keep {F : Nat → Prop} {H H' : Heap} {D : Nat} (h : DefO H D) (k : Only F H H') (hl : ¬ F D) : DefO H' D := ⟨(k.same D h.lt hl).trans h.out⟩
theorem DefO.ext {H H' : Heap} {D : Nat} (h : DefO H D) (k : Ext H H') : DefO H' D := h.keep k id
theorem DefO.ne {H : Heap} {D g : Nat} {c : Array Value} {t : TypeId} (h : DefO H D) (k : Blk H g c t) : D ≠ g := by
  rintro rfl
  obtain ⟨_, h2, _⟩ := k.out
  rw [h.out] at h2; cases h2
theorem DefO.neL {H : Heap} {D l : Nat} {s : LoopState} {p : Option Code} {r : Loop} (h : DefO H D) (k : LoopO H l s p r) : D ≠ l := by
  rintro rfl
  have := h.out
  rw [k.out] at this; cases this
variable {P : Program}
theorem run_loopGet {w : World} {l : Nat} {r : Loop} (h : w.heap[l]? = some (.loop r)) : (Instr.getLoop l).run P w = .ok r w := by simp [Instr.getLoop, Sem.run_bind, getObj, Sem.run, h, Result.andThen]
theorem run_loopSet {w : World} {l : Nat} {r : Loop} {o' : Obj} (h : w.heap[l]? = some (.loop r)) : (setObj l o').run P w = .ok () { w with heap := w.heap.setIfInBounds l o' } := by simp [setObj, Sem.run, h]
theorem run_beginR {w : World} {l : Nat} {p : Option Code} {r : Loop} (h : LoopO w.heap l .ready p r) :
    (Instr.beginRound l).run P w = .ok () { w with heap := w.heap.setIfInBounds l (.loop { r with state := .busy, pending := p }) } := by
  simp only [Instr.beginRound, Sem.run_bind, run_loopGet h.out, Result.andThen_ok, run_loopSet h.out]; rfl
theorem run_endR {w : World} {l : Nat} {s : LoopState} {p : Option Code} {r : Loop} (h : LoopO w.heap l s p r) (j : Option Code) :
    (Instr.endRound l j).run P w = .ok (.bool j.isNone) { w with heap := w.heap.setIfInBounds l (.loop { r with state := if j.isNone then .ready else .done, pending := j }) } := by
  simp only [Instr.endRound, Sem.run_bind, run_loopGet h.out, Result.andThen_ok, run_loopSet h.out, Sem.run_pure]
theorem run_endL {w : World} {l : Nat} {s : LoopState} {p : Option Code} {r : Loop} (h : LoopO w.heap l s p r) (hs : s ≠ .busy) :
    (Instr.endLoop l).run P w = .ok p { w with heap := w.heap.setIfInBounds l (.loop { r with state := .exhausted, pending := p }) } := by
  have hb : (s == LoopState.busy) = false := by cases s <;> first | rfl | exact absurd rfl hs
  simp only [Instr.endLoop, Sem.run_bind, run_loopGet h.out, Result.andThen_ok, hb]
  simp [Sem.run_bind, run_loopSet h.out, Sem.run_pure]
theorem loop_set {H : Heap} {l : Nat} {s s' : LoopState} {p p' : Option Code} {r : Loop} (h : LoopO H l s p r) : LoopO (H.setIfInBounds l (.loop { r with state := s', pending := p' })) l s' p' r :=
  ⟨Array.getElem?_setIfInBounds_self_of_lt h.lt⟩
/-- ONE ROUND. -/
theorem YieldH.round {l n t : Nat} {x : Value} {H : Heap} {R : Value → Heap → Prop} {p : Option Code} {r : Loop} {env : Env} {assign body : Code} (hl : LoopO H l .ready p r) (hn : r.tmps.size = n) (hag : ∀ i v, get env i = some v → r.tmps[i]? = some v)
    (hps : r.params = #[t]) (hta : r.assign = assign) (htb : r.body = body) (ht : t < n) (hf : fitsC n assign = true) (hdf : noDefC assign = true) (hf' : fitsC n body = true) (hdf' : noDefC body = true)
    (h : vcCodeY P n assign ((t, x) :: env) H fun e env1 H1 => e = .normal ∧ LoopO H1 l .ready p r ∧ ∀ H2, H2.size = H1.size → LoopO H2 l .busy p r → But l H1 H2 → vcCodeY P n body env1 H2 fun e _ H3 => LoopO H3 l .busy p r ∧ match e with
      | .normal => ∀ H4, H4.size = H3.size → LoopO H4 l .ready none r → But l H3 H4 → R (.bool true) H4
      | .ret => ∀ H4, H4.size = H3.size → LoopO H4 l .done (some .ret) r → But l H3 H4 → R (.bool false) H4
      | .exit j => ∀ H4, H4.size = H3.size → LoopO H4 l .done (some (.exit j)) r → But l H3 H4 → R (.bool false) H4
      | _ => False) : YieldH P l [x] H R := by
  subst hta; subst htb
  refine ⟨fun w hw => ?_⟩
  subst hw
  refine ⟨r.fn, r.tmps.setIfInBounds t x, r.assign, r.body, w, ?_, Same.refl w, ?_⟩
  · simp only [Instr.yield, Sem.run_bind, run_loopGet hl.out, Result.andThen_ok, hps]
    simp [Sem.run_pure]
  refine roundIn_of_wpIn (F := Fence.wide) trivial ?_
  show r.assign.wpIn (FR (some l)) 0 P _ _ _
  have ha : Agrees ((t, x) :: env) { tmps := r.tmps.setIfInBounds t x, defers := [] } := by
    have h0 : Agrees env { tmps := r.tmps, defers := [] } := hag
    exact h0.put (d := t) (by show t < r.tmps.size; omega) x
  refine wpIn_mono ((vcCodeY_sound (r := some l) r.assign _ _ _ hf hdf h).out w _ w ha (by simpa using hn) (Same.refl w) rfl) ?_
  intro e a1 w1 ⟨g1, g2, g3, _, env1, g4, he, hl1, hb⟩
  subst he
  refine ⟨_, run_beginR hl1, ?_⟩
  have hb := hb _ (by simp) (loop_set hl1) (Only.set _ _ _)
  refine wpIn_mono ((vcCodeY_sound (r := some l) r.body _ _ _ hf' hdf' hb).out w a1 { w1 with heap := w1.heap.setIfInBounds l (.loop { r with state := .busy, pending := p }) } g4 g2 (g3.trans ⟨rfl, rfl, rfl⟩) rfl) ?_
  intro e a2 w2 ⟨k1, k2, k3, _, env2, k4, hl2, k5⟩
  cases e with
  | normal => exact ⟨_, _, run_endR hl2 none, k3.trans ⟨rfl, rfl, rfl⟩, _, rfl, k5 _ (by simp) (loop_set hl2) (Only.set _ _ _)⟩
  | ret => exact ⟨_, _, run_endR hl2 (some .ret), k3.trans ⟨rfl, rfl, rfl⟩, _, rfl, k5 _ (by simp) (loop_set hl2) (Only.set _ _ _)⟩
  | exit j => exact ⟨_, _, run_endR hl2 (some (.exit j)), k3.trans ⟨rfl, rfl, rfl⟩, _, rfl, k5 _ (by simp) (loop_set hl2) (Only.set _ _ _)⟩
  | goto j => exact k5.elim
  | panic c => exact k5.elim
  | outgrown => exact k5.elim
/- ---------- a function that holds such a range ---------- -/
def markD (D : Nat) : Deferred := { target := .collected D, args := #[] }
abbrev PostR := Exit → List Nat → Env → Heap → Prop
structure RangeH (P : Program) (n : Nat) (g : Operand) (ps : Array Tmp) (assign body : Code) (env : Env) (H : Heap) (K : Option Code → Nat → Heap → Prop) : Prop where
  out : ∃ gf captured, ev env g = some (.func (.func gf) #[] captured) ∧ (∀ (args : Array Value) (w : World), (callFunc gf args).run P w = .ok (.enter gf args) w) ∧
    ∀ (r : Loop) H2, r.tmps.size = n → (∀ i v, get env i = some v → r.tmps[i]? = some v) → r.params = ps → r.assign = assign → r.body = body → H2.size = H.size + 2 → Ext H H2 → DefO H2 H.size → LoopO H2 (H.size + 1) .ready none r →
      CallH P gf (.func (.yield (H.size + 1)) #[] #[] :: captured.toList) H2 fun _ H3 => ∃ s p, s ≠ .busy ∧ LoopO H3 (H.size + 1) s p r ∧ ∀ H4, H4.size = H3.size → But (H.size + 1) H3 H4 → K p H.size H4
def LiftR (w0 : World) (n : Nat) (a0 : Act) (ms : List Nat) (Q : PostR) (e : Exit) (a : Act) (w : World) : Prop :=
  ∃ ds : List Nat, a.defers = ds.map markD ∧ a.tmps.size = n ∧ Same w0 w ∧ (∀ i, i ∉ ms → a.tmps[i]? = a0.tmps[i]?) ∧ ∃ env, Agrees env a ∧ Q e ds env w.heap
structure CodeR (P : Program) (n : Nat) (c : Code) (ds : List Nat) (env : Env) (H : Heap) (Q : PostR) : Prop where
  out : ∀ (w0 : World) (a : Act) (w : World), Agrees env a → a.defers = ds.map markD → a.tmps.size = n → Same w0 w → w.heap = H → c.wpIn Fence.wide 0 P (LiftR w0 n a (mods c) Q) a w
def vcCodeR (P : Program) (n : Nat) (c : Code) (ds : List Nat) (env : Env) (H : Heap) (Q : PostR) : Prop :=
  match c with
  | .skip => Q .normal ds env H
  | .region id ops draw => match draw with
    | false => vcOpsY P ops.toList 0 ops.toList env H (Q .normal ds)
    | true => False
  | .seq x y => vcCodeR P n x ds env H fun e ds env H => match e with
      | .normal => vcCodeR P n y ds env H Q
      | e => Q e ds env H
  | .cond c x y => match ev env c with
    | some (.bool b) => CondH b (vcCodeR P n x ds env H Q) (vcCodeR P n y ds env H Q)
    | _ => False
  | .block id x => vcCodeR P n x ds env H fun e ds env H => match e with
    | .exit j => match Nat.beq j id with
      | true => Q .normal ds env H
      | false => Q (.exit j) ds env H
    | e => Q e ds env H
  | .rangeFunc g ps assign body => RangeH P n g ps assign body env H fun p D H' => match p with
    | none => Q .normal (D :: ds) env H'
    | some .ret => Q .ret (D :: ds) env H'
    | some (.exit j) => Q (.exit j) (D :: ds) env H'
    | _ => False
  | .exit id => Q (.exit id) ds env H
  | .ret => Q .ret ds env H
  | _ => False
def noDefR : Code → Bool
  | .region _ ops _ => ops.toList.all noDefO
  | .seq x y => noDefR x && noDefR y
  | .cond _ x y => noDefR x && noDefR y
  | .block _ x => noDefR x
  | .skip => true
  | .exit _ => true
  | .ret => true
  | .rangeFunc _ _ _ _ => true
  | _ => false
theorem run_enterL {w : World} (fn : FuncId) (tmps : Array Value) (ps : Array Tmp) (assign body : Code) :
    (Instr.enterLoop fn tmps ps assign body none).run P w = .ok (w.heap.size + 1, [markD w.heap.size]) { w with heap := (w.heap.push (.deferred (some []))).push (.loop ⟨.ready, none, fn, tmps, ps, assign, body, w.heap.size⟩) } := by
  simp [Instr.enterLoop, Sem.run_bind, run_newObj, Sem.run_pure, markD]
  rfl
theorem vcCodeR_sound {P : Program} {n : Nat} : ∀ (c : Code) (ds : List Nat) (env : Env) (H : Heap) (Q : PostR), fitsC n c = true → noDefR c = true → vcCodeR P n c ds env H Q → CodeR P n c ds env H Q
  | .skip, ds, env, H, Q, _, _, h => ⟨fun w0 a w ha hd hn hs hw => wpIn_skip ⟨ds, hd, hn, hs, fun _ _ => rfl, env, ha, hw ▸ h⟩⟩
  | .region id ops draw, ds, env, H, Q, hf, hdf, h => by
    cases draw with
    | false =>
      refine ⟨fun w0 a w ha hd hn hs hw => wpIn_region ?_⟩
      have := vcOpsY_sound (r := none) (a0 := a) (Q := LiftR w0 n a (modsO ops.toList) Q) (fun a' w' ⟨h1, h2, h3, h4, h5⟩ => ⟨ds, h1.trans hd, h2, h3, h4, h5⟩) (List.all_eq_true.1 hf) (List.all_eq_true.1 hdf) ops.toList 0 rfl env H h a w ha rfl hn hs (fun _ _ => rfl) hw
      rw [← List.range_eq_range', Array.length_toList] at this
      exact this
    | true => exact h.elim
  | .seq x y, ds, env, H, Q, hf, hdf, h => by
    simp only [fitsC, Bool.and_eq_true] at hf
    simp only [noDefR, Bool.and_eq_true] at hdf
    unfold vcCodeR at h
    have hx := vcCodeR_sound x ds env H _ hf.1 hdf.1 h
    refine ⟨fun w0 a w ha hd hsz hs hw => wpIn_seq (wpIn_mono (hx.out w0 a w ha hd hsz hs hw) ?_)⟩
    intro e a' w' ⟨es, h1, h2, h3, hfr, env', h4, h5⟩
    have other : e ≠ .normal → LiftR w0 n a (mods (.seq x y)) Q e a' w' := fun hne => ⟨es, h1, h2, h3, fun i hi => hfr i (fun hm => hi (by simp [mods, hm])), env', h4, by cases e <;> first | exact absurd rfl hne | exact h5⟩
    cases e with
    | normal =>
      have hy := vcCodeR_sound y es env' w'.heap Q hf.2 hdf.2 h5
      refine wpIn_mono (hy.out w0 a' w' h4 h1 h2 h3 rfl) ?_
      intro e a2 w2 ⟨es2, g1, g2, g3, gfr, env2, g4, g5⟩
      exact ⟨es2, g1, g2, g3, fun i hi => (gfr i (fun hm => hi (by simp [mods, hm]))).trans (hfr i (fun hm => hi (by simp [mods, hm]))), env2, g4, g5⟩
    | exit j => exact other (by simp)
    | goto j => exact other (by simp)
    | ret => exact other (by simp)
    | panic c => exact other (by simp)
    | outgrown => exact other (by simp)
  | .cond c x y, ds, env, H, Q, hf, hdf, h => by
    simp only [fitsC, Bool.and_eq_true] at hf
    simp only [noDefR, Bool.and_eq_true] at hdf
    simp only [vcCodeR] at h
    split at h
    · rename_i b hb
      refine ⟨fun w0 a w ha hd hn hs hw => wpIn_cond (ha.ev hb) ?_⟩
      cases b with
      | true => exact wpIn_mono ((vcCodeR_sound x ds env H Q hf.1 hdf.1 (h.t rfl)).out w0 a w ha hd hn hs hw) fun e a' w' ⟨es, h1, h2, h3, h4, h5⟩ => ⟨es, h1, h2, h3, fun i hi => h4 i (fun hm => hi (by simp [mods, hm])), h5⟩
      | false => exact wpIn_mono ((vcCodeR_sound y ds env H Q hf.2 hdf.2 (h.f rfl)).out w0 a w ha hd hn hs hw) fun e a' w' ⟨es, h1, h2, h3, h4, h5⟩ => ⟨es, h1, h2, h3, fun i hi => h4 i (fun hm => hi (by simp [mods, hm])), h5⟩
    · exact h.elim
  | .block id x, ds, env, H, Q, hf, hdf, h => by
    have hx := vcCodeR_sound x ds env H _ hf hdf h
    refine ⟨fun w0 a w ha hd hn hs hw => wpIn_block (wpIn_mono (hx.out w0 a w ha hd hn hs hw) ?_)⟩
    intro e a' w' ⟨es, h1, h2, h3, hfr, env', h4, h5⟩
    cases e with
    | exit j =>
      show if j = id then _ else _
      dsimp only at h5
      split at h5
      · rename_i hb
        rw [if_pos (Nat.eq_of_beq_eq_true hb)]
        exact ⟨es, h1, h2, h3, hfr, env', h4, h5⟩
      · rename_i hb
        rw [if_neg (fun e => by subst e; simp at hb)]
        exact ⟨es, h1, h2, h3, hfr, env', h4, h5⟩
    | _ => exact ⟨es, h1, h2, h3, hfr, env', h4, h5⟩
  | .rangeFunc g ps assign body, ds, env, H, Q, hf, hdf, h => by
    obtain ⟨gf, captured, hev, hc, hcall⟩ := h.out
    refine ⟨fun w0 a w ha hd hn hs hw => wpIn_rangeFunc (F := Fence.wide) fun fn _ => ?_⟩
    subst hw
    let r : Loop := ⟨.ready, none, fn, a.tmps, ps, assign, body, w.heap.size⟩
    let w1 : World := { w with heap := (w.heap.push (.deferred (some []))).push (.loop r) }
    have hx1 : Ext w.heap w1.heap := (Only.push _ _ _).trans (Only.push _ _ _) fun _ _ => id
    have hdo : DefO w1.heap w.heap.size := ⟨by show ((w.heap.push _).push _)[w.heap.size]? = _; rw [Array.getElem?_push_lt (by simp)]; simp⟩
    have hlo : LoopO w1.heap (w.heap.size + 1) .ready none r := ⟨by show ((w.heap.push _).push _)[w.heap.size + 1]? = _; have := push_last (w.heap.push (.deferred (some []))) (Obj.loop r); simpa using this⟩
    have hcc := (hcall r w1.heap hn ha rfl rfl rfl (by show ((w.heap.push _).push _).size = _; simp) hx1 hdo hlo).out w1 rfl
    rw [hc] at hcc
    obtain ⟨hsame, hcc⟩ := hcc
    refine ⟨w.heap.size + 1, [markD w.heap.size], w1, ⟨.fn (.func gf) captured, #[.func (.yield (w.heap.size + 1)) #[] #[]]⟩, w1, gf, #[.func (.yield (w.heap.size + 1)) #[] #[]] ++ captured, w1, run_enterL _ _ _ _ _, ?_, fun _ _ => trivial, ?_, fun hd => (by cases hd), ?_⟩
    · simp only [rangeCall, resolve, ha.ev hev, Deferred.ofValue]
      simp [Sem.run_pure, Act.eval]
    · exact hc _ _
    have eargs : (Value.func (.yield (w.heap.size + 1)) #[] #[] :: captured.toList).toArray = #[.func (.yield (w.heap.size + 1)) #[] #[]] ++ captured := by apply Array.toList_inj.1; simp
    rw [eargs] at hcc
    refine callsIn_wide.2 (Calls.mono hcc fun e w3 h3 => ?_)
    obtain ⟨hs3, v, he, s, p, hsb, hl3, hK⟩ := h3
    subst he
    have hK := hK _ (by simp) (Only.set w3.heap (w.heap.size + 1) (.loop { r with state := .exhausted, pending := p }))
    have hsame3 : Same w0 { w3 with heap := w3.heap.setIfInBounds (w.heap.size + 1) (.loop { r with state := .exhausted, pending := p }) } := (hs.trans ⟨rfl, rfl, rfl⟩ : Same w0 w1).trans (hs3.trans ⟨rfl, rfl, rfl⟩)
    have hdd : [markD w.heap.size] ++ a.defers = (w.heap.size :: ds).map markD := by rw [hd]; rfl
    refine ⟨p, _, run_endL hl3 hsb, ?_⟩
    cases p with
    | none => exact ⟨_, hdd, hn, hsame3, fun _ _ => rfl, env, ha, hK⟩
    | some c =>
      cases c <;> try exact hK.elim
      case exit j => exact wpIn_exit ⟨_, hdd, hn, hsame3, fun _ _ => rfl, env, ha, hK⟩
      case ret => exact wpIn_ret ⟨_, hdd, hn, hsame3, fun _ _ => rfl, env, ha, hK⟩
  | .loop x, ds, env, H, Q, hf, hdf, h => h.elim
  | .exit id, ds, env, H, Q, _, _, h => ⟨fun w0 a w ha hd hn hs hw => wpIn_exit ⟨ds, hd, hn, hs, fun _ _ => rfl, env, ha, hw ▸ h⟩⟩
  | .ret, ds, env, H, Q, _, _, h => ⟨fun w0 a w ha hd hn hs hw => wpIn_ret ⟨ds, hd, hn, hs, fun _ _ => rfl, env, ha, hw ▸ h⟩⟩
/- the function whole -/
theorem run_takeD {w : World} {b : Nat} {ds : List Deferred} (h : w.heap[b]? = some (.deferred (some ds))) : (Instr.takeDeferred b).run P w = .ok ds { w with heap := w.heap.setIfInBounds b (.deferred none) } := by
  simp [Instr.takeDeferred, Sem.run_bind, getObj, setObj, Sem.run, h, Result.andThen]
def vcTake (P : Program) (rs : List ResultVar) (R : Value → Heap → Prop) : List Nat → Env → Heap → Prop
  | [], env, H => vcRes P env H rs fun vs => R (one vs) H
  | D :: ds, env, H => DefO H D ∧ ∀ H', H'.size = H.size → But D H H' → vcTake P rs R ds env H'
def vcPostR (P : Program) (rs : List ResultVar) (R : Value → Heap → Prop) : PostR := fun e ds env H => match e with
  | .normal => vcTake P rs R ds env H
  | .ret => vcTake P rs R ds env H
  | _ => False
theorem vcTake_sound {fn : Func} {R : Value → Heap → Prop} {w0 : World} {env : Env} {a : Act} (ha : Agrees env a) : ∀ (ds : List Nat) (w : World), Same w0 w → vcTake P fn.results.toList R ds env w.heap →
    LeavesInM Fence.wide 0 P fn a.tmps (fun e w' => Same w0 w' ∧ ∃ v, e = .returned v ∧ R v w'.heap) (ds.map markD) .returning w
  | [], w, hs, hk => by
    obtain ⟨vs, hr, hR⟩ := vcRes_sound ha _ _ hk
    refine ⟨one vs, ?_, hs, _, rfl, hR⟩
    rw [results_eq, Array.mapM_eq_mapM_toList]
    simp only [bind_assoc, map_eq_pure_bind, pure_bind, Sem.run_bind]
    rw [hr]
    simp only [Result.andThen_ok, Sem.run_pure]
    rcases vs with _ | ⟨x, _ | ⟨y, l⟩⟩ <;> simp [one]
  | D :: ds, w, hs, ⟨h1, h2⟩ => by
    refine ⟨by simp, .inl ⟨D, _, rfl, run_takeD h1.out, ?_⟩⟩
    exact vcTake_sound ha ds _ (hs.trans ⟨rfl, rfl, rfl⟩) (h2 _ (by simp) (Only.set _ _ _))
/-- A CALL FROM ITS BODY, which holds ranges over functions. -/
theorem CallH.bodyR {f : FuncId} {fn : Func} {c : Code} {args : List Value} {H : Heap} {R : Value → Heap → Prop} (hf : P.funcs[f]? = some fn)
    (hc : ∀ (args : Array Value) (w : World), (callFunc f args).run P w = .ok (.enter f args) w) (hb : fn.body = some c) (hfit : fitsC fn.ntmps c = true) (hdef : noDefR c = true) (hargs : Nat.ble args.length fn.ntmps = true)
    (h : vcCodeR P fn.ntmps c [] (argEnv 0 args) H (vcPostR P fn.results.toList R)) : CallH P f args H R := by
  have hargs := Nat.le_of_ble_eq_true hargs
  refine ⟨fun w hw => ?_⟩
  rw [hc]
  refine ⟨Same.refl w, ?_⟩
  refine callsIn_wide (n := 0).1 (callsIn_of_wp_marks hf hb trivial ?_)
  have hcode := (vcCodeR_sound c [] _ H _ hfit hdef h).out w { tmps := args.toArray ++ Array.replicate (fn.ntmps - args.toArray.size) undef, defers := [] } w ?_ rfl (by simp; omega) (Same.refl w) hw
  · refine wpIn_mono hcode fun e a w' h => ?_
    obtain ⟨ds, h1, h2, h3, _, env, h5, h6⟩ := h
    cases e with
    | normal => show LeavesInM _ _ _ _ _ _ _ _ _; rw [h1]; exact vcTake_sound h5 ds w' h3 h6
    | ret => show LeavesInM _ _ _ _ _ _ _ _ _; rw [h1]; exact vcTake_sound h5 ds w' h3 h6
    | _ => exact h6.elim
  · intro i v hv
    obtain ⟨_, h2⟩ := argEnv_get args 0 i v hv
    have h2 : args[i]? = some v := by simpa using h2
    have hlt : i < args.length := by
      rcases Nat.lt_or_ge i args.length with h | h
      · exact h
      · rw [List.getElem?_eq_none h] at h2; cases h2
    simp only
    rw [Array.getElem?_append_left (by simpa using hlt)]
    simpa using h2
/-- A CALL FROM ITS BODY, which calls yield. -/
theorem CallH.bodyY {f : FuncId} {fn : Func} {c : Code} {args : List Value} {H : Heap} {R : Value → Heap → Prop} (hf : P.funcs[f]? = some fn)
    (hc : ∀ (args : Array Value) (w : World), (callFunc f args).run P w = .ok (.enter f args) w) (hb : fn.body = some c) (hfit : fitsC fn.ntmps c = true) (hdef : noDefC c = true) (hargs : Nat.ble args.length fn.ntmps = true)
    (h : vcCodeY P fn.ntmps c (argEnv 0 args) H (vcPost P fn.results.toList R)) : CallH P f args H R := by
  have hargs := Nat.le_of_ble_eq_true hargs
  refine ⟨fun w hw => ?_⟩
  rw [hc]
  refine ⟨Same.refl w, ?_⟩
  refine callsIn_wide (n := 0).1 (callsIn_of_wp hf hb trivial ?_)
  have hcode := (vcCodeY_sound (r := none) c _ H _ hfit hdef h).out w { tmps := args.toArray ++ Array.replicate (fn.ntmps - args.toArray.size) undef, defers := [] } w ?_ (by simp; omega) (Same.refl w) hw
  · exact wpIn_mono hcode fun e a w h => vcPost_sound rfl h
  · intro i v hv
    obtain ⟨_, h2⟩ := argEnv_get args 0 i v hv
    have h2 : args[i]? = some v := by simpa using h2
    have hlt : i < args.length := by
      rcases Nat.lt_or_ge i args.length with h | h
      · exact h
      · rw [List.getElem?_eq_none h] at h2; cases h2
    simp only
    rw [Array.getElem?_append_left (by simpa using hlt)]
    simpa using h2
end Go.Vc
