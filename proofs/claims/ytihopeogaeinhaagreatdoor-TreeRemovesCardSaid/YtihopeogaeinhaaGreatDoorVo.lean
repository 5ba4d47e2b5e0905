import Derived.Test.YtihopeogaeinhaaGreatDoorVc
import Derived.Test.YtihopeogaeinhaaGreatDoorHeld
set_option linter.unusedSimpArgs false
set_option linter.unusedVariables false
set_option linter.unusedSimpArgs false
set_option maxRecDepth 100000
/- Regions that draw their order, walked in an order of our own. -/
namespace Go.Vc
open Go.Lx

/-- read again, the cell holds what it held -/
structure StillH (P : Program) (t : TypeId) (vx v : Value) (H : Heap) (k : Prop) : Prop where
  now : SemH P (Instr.loadAt t vx) H fun u _ => u = v
  rest : k

def vcStill (P : Program) (ops : List Oper) (env : Env) (H : Heap) (k : Prop) : List Nat → Prop
  | [] => k
  | j :: js => match nth ops j with
    | some o => match wants ops env o with
      | some true => match o.op with
        | .load t x => match ev env x with
          | some vx => match o.dst with
            | some d => match get env d with
              | some v => StillH P t vx v H (vcStill P ops env H k js)
              | none => False
            | none => False
          | none => False
        | _ => False
      | some false => match o.dst with
        | some d => NeedH (get env d = some undef) (vcStill P ops env H k js)
        | none => vcStill P ops env H k js
      | none => False
    | none => False

/-- what is read again, one load at a time (a head of its own: the kernel must not run through vcStill) -/
structure StillsH (P : Program) (ops : List Oper) (env : Env) (H : Heap) (k : Prop) (js : List Nat) : Prop where
  out : vcStill P ops env H k js
def vcHold (P : Program) (ops : List Oper) (env : Env) (H : Heap) (k : Prop) (js : List Nat) : Prop :=
  match js with
  | [] => k
  | j :: l => StillsH P ops env H k (j :: l)
theorem vcHold_out {P : Program} {ops : List Oper} {env : Env} {H : Heap} {k : Prop} {js : List Nat} (h : vcHold P ops env H k js) : vcStill P ops env H k js := by
  cases js with
  | nil => exact h
  | cons j l => exact h.out
theorem StillsH.nil {P : Program} {ops : List Oper} {env : Env} {H : Heap} {k : Prop} (h : k) : StillsH P ops env H k [] := ⟨h⟩
theorem StillsH.load {P : Program} {ops : List Oper} {env : Env} {H : Heap} {k : Prop} {js : List Nat} {j : Nat} {o : Oper} {t : TypeId} {x : Operand} {vx v : Value} {d : Nat} (hj : nth ops j = some o) (hw : wants ops env o = some true) (ho : o.op = .load t x) (hx : ev env x = some vx) (hd : o.dst = some d) (hv : get env d = some v)
    (now : SemH P (Instr.loadAt t vx) H fun u _ => u = v) (rest : StillsH P ops env H k js) : StillsH P ops env H k (j :: js) := by
  refine ⟨?_⟩
  unfold vcStill; simp only [hj, hw, ho, hx, hd, hv]; exact ⟨now, rest.out⟩
/-- a load that was not wanted -/
theorem StillsH.skip {P : Program} {ops : List Oper} {env : Env} {H : Heap} {k : Prop} {js : List Nat} {j : Nat} {o : Oper} {d : Nat} (hj : nth ops j = some o) (hw : wants ops env o = some false) (hd : o.dst = some d) (hv : get env d = some undef)
    (rest : StillsH P ops env H k js) : StillsH P ops env H k (j :: js) := by
  refine ⟨?_⟩
  unfold vcStill; simp only [hj, hw, hd]; exact ⟨hv, rest.out⟩

def vcOrd (P : Program) (ops : List Oper) (held : List (Nat × List Nat)) : List Nat → Env → Heap → (Env → Heap → Prop) → Prop
  | [], env, H, k => k env H
  | i :: l, env, H, k => match nth ops i with
    | some o => match wants ops env o with
      | some true => match o.dst with
        | some d => match isSrc ops i with
          | true => vcOp P o env H NoX fun v H' => vcSplit true v fun v => vcHold P ops ((d, v) :: env) H' (vcOrd P ops held l ((d, v) :: env) H' k) (Lx.look held i)
          | false => vcOp P o env H NoX fun v H' => vcHold P ops ((d, v) :: env) H' (vcOrd P ops held l ((d, v) :: env) H' k) (Lx.look held i)
        | none => vcOp P o env H NoX fun _ H' => vcHold P ops env H' (vcOrd P ops held l env H' k) (Lx.look held i)
      | some false => match o.dst with
        | some d => vcHold P ops ((d, undef) :: env) H (vcOrd P ops held l ((d, undef) :: env) H k) (Lx.look held i)
        | none => vcHold P ops env H (vcOrd P ops held l env H k) (Lx.look held i)
      | none => False
    | none => False

theorem vcStill_sound {P : Program} {ops : Array Oper} {env : Env} {H : Heap} {k : Prop} {a : Act} {w : World} (ha : Agrees env a) (hw : w.heap = H) : ∀ {js : List Nat}, vcStill P ops.toList env H k js → (∀ j ∈ js, ReY P ops j a w) ∧ k
  | [], h => ⟨fun j hj => (by cases hj), h⟩
  | j :: js, h => by
    unfold vcStill at h
    split at h
    · rename_i o hj
      rw [nth_eq] at hj
      have hj : ops[j]? = some o := by simpa using hj
      split at h
      · rename_i hwt
        have hwt := wants_spec hwt ha
        split at h
        · rename_i t x hop
          split at h
          · rename_i vx hvx
            split at h
            · rename_i d hd
              split at h
              · rename_i v hv
                obtain ⟨hr, hk⟩ := vcStill_sound ha hw h.rest
                refine ⟨fun m hm => ?_, hk⟩
                rcases List.mem_cons.1 hm with rfl | hm
                · obtain ⟨u, w', hrun, _, hu⟩ := h.now.out w hw
                  subst hu
                  have hx : (execOp a.eval o).run P w = .ok (.value u) w' := by
                    unfold execOp
                    simp only [hop, ha.ev hvx, Sem.run_bind, hrun, Result.andThen_ok, Sem.run_pure]
                  obtain ⟨rfl, _⟩ := readOp o (by rw [hop]; rfl) (by rw [hop]; rfl) hx
                  refine ⟨o, hj, u, .inl ⟨hwt, hx⟩, fun d' hd' => ?_⟩
                  rw [hd] at hd'; cases hd'
                  exact .inr (ha _ _ hv)
                · exact hr m hm
              · exact h.elim
            · exact h.elim
          · exact h.elim
        · exact h.elim
      · rename_i hwt
        have hwt := wants_spec hwt ha
        split at h
        · rename_i d hd
          obtain ⟨hg, h⟩ := h.out
          obtain ⟨hr, hk⟩ := vcStill_sound ha hw h
          refine ⟨fun m hm => ?_, hk⟩
          rcases List.mem_cons.1 hm with rfl | hm
          · refine ⟨o, hj, undef, .inr ⟨hwt, rfl⟩, fun d' hd' => ?_⟩
            rw [hd] at hd'; cases hd'
            exact .inr (ha _ _ hg)
          · exact hr m hm
        · rename_i hd
          obtain ⟨hr, hk⟩ := vcStill_sound ha hw h
          refine ⟨fun m hm => ?_, hk⟩
          rcases List.mem_cons.1 hm with rfl | hm
          · exact ⟨o, hj, undef, .inr ⟨hwt, rfl⟩, fun d' hd' => by rw [hd] at hd'; cases hd'⟩
          · exact hr m hm
      · exact h.elim
    · exact h.elim

theorem vcOrd_sound {P : Program} {ops : Array Oper} {held : List (Nat × List Nat)} {n : Nat} {k : Env → Heap → Prop} {w0 : World} {a0 : Act} (hfit : ∀ o ∈ ops.toList, fitsO n o = true) :
    ∀ (l : List Nat) (env : Env) (H : Heap), vcOrd P ops.toList held l env H k → ∀ (a : Act) (w : World), Agrees env a → a.defers = a0.defers → a.tmps.size = n → Same w0 w →
      (∀ i, i ∉ modsO ops.toList → a.tmps[i]? = a0.tmps[i]?) → w.heap = H → TH P ops held (Lift w0 n a0 (modsO ops.toList) k) l a w
  | [], env, H, h, a, w, ha, hd, hn, hs, hfr, hw => ⟨hd, hn, hs, hfr, env, ha, hw ▸ h⟩
  | i :: l, env, H, h, a, w, ha, hd, hn, hs, hfr, hw => by
    show Lx.step P ops i (fun a w => (∀ j ∈ Lx.look held i, ReY P ops j a w) ∧ TH P ops held _ l a w) a w
    unfold vcOrd at h
    split at h
    · rename_i o ho
      rw [nth_eq] at ho
      have ho : ops[i]? = some o := by simpa using ho
      have hmem : o ∈ ops.toList := by
        have := Array.mem_of_getElem? ho
        simpa using this
      have hf := hfit o hmem
      have hm : ∀ t, o.dst = some t → t ∈ modsO ops.toList := fun t ht => modsO_mem hmem ht
      split at h
      · rename_i hwt
        have hwt := wants_spec hwt ha
        have h : vcOp P o env H NoX fun v H' => vcSplit (isSrc ops.toList i && o.dst.isSome) v fun v => vcHold P ops.toList (putE env o.dst v) H' (vcOrd P ops.toList held l (putE env o.dst v) H' k) (Lx.look held i) := by
          cases hd : o.dst with
          | none => simp only [hd] at h; simpa [vcSplit, putE] using h
          | some d =>
            simp only [hd] at h
            cases hs : isSrc ops.toList i
            · simp only [hs] at h; simpa [vcSplit, putE] using h
            · simp only [hs] at h; simpa [putE] using h
        refine step_of_comes ho hwt (vcOp_sound h ha hw) ?_
        intro v w' hsame hk
        have hk := vcSplit_sound hk
        have ha' := ha.putE hn hf v
        obtain ⟨h1, h2⟩ := vcStill_sound ha' rfl (vcHold_out hk)
        exact ⟨h1, vcOrd_sound hfit l _ _ h2 _ _ ha' (by rw [put_defers']; exact hd) (by rw [put_size]; exact hn) (hs.trans hsame) (put_frame hfr hm v) rfl⟩
      · rename_i hwt
        have hwt := wants_spec hwt ha
        have h : vcHold P ops.toList (putE env o.dst undef) H (vcOrd P ops.toList held l (putE env o.dst undef) H k) (Lx.look held i) := by
          cases hd : o.dst with
          | none => simp only [hd] at h; simpa [putE] using h
          | some d => simp only [hd] at h; simpa [putE] using h
        have ha' := ha.putE hn hf undef
        obtain ⟨h1, h2⟩ := vcStill_sound ha' hw (vcHold_out h)
        have hrest := vcOrd_sound hfit l _ _ h2 _ _ ha' (by rw [put_defers']; exact hd) (by rw [put_size]; exact hn) hs (put_frame hfr hm undef) hw
        unfold Lx.step
        simp only [ho, hwt, Bool.false_eq_true, if_false]
        split
        · exact ⟨_, .inr ⟨hwt, rfl⟩, h1, hrest⟩
        · split
          · exact ⟨_, .inr ⟨hwt, rfl⟩, h1, hrest⟩
          · exact ⟨h1, hrest⟩
      · exact h.elim
    · exact h.elim

/-- A REGION THAT DRAWS ITS ORDER, walked in the order π: what the loads tell that others are not ordered with is read again behind these. -/
theorem DrawH.held {P : Program} {n id : Nat} {ops : Array Oper} {env : Env} {H : Heap} {k : Env → Heap → Prop} (π : List Nat) (held : List (Nat × List Nat)) (hm : P.follows .mixedOrders = true) (hB : heldOk P ops π held = true)
    (h : vcOrd P ops.toList held π env H k) : DrawH P n id ops env H k := by
  refine ⟨fun hf => ⟨fun w0 a w ha hd hn hs hw => wp_region_any hm ?_⟩⟩
  have hf : ∀ o ∈ ops.toList, fitsO n o = true := List.all_eq_true.1 hf
  have hT := vcOrd_sound (a0 := a) (w0 := w0) hf π env H h a { w with drawn := w.drawn + 1 } ha hd hn (hs.trans ⟨rfl, rfl, rfl⟩) (fun _ _ => rfl) hw
  obtain ⟨_, hlen, hsort, hin, hall, _⟩ := heldOk_spec hB
  refine wpAny_of_TH hB (Q := LiftQ w0 n a (mods (.region id ops true)) fun e env H => e = .normal ∧ k env H) (fun a w h => Lift.mono h fun _ _ h => ⟨rfl, h⟩) ops.size π (Array.replicate ops.size false) a _ hlen ?_ hT
  refine ⟨hsort, hin, fun j hj => ?_, by simp, fun j oj hoj hl => ?_⟩
  · have := hall j hj
    simp [hj, this]
  · exfalso
    rw [getD_replicate] at hl
    cases hl
end Go.Vc
