import Derived.Test.YtphkaogbcfdllaaGreatDoorKd
import Derived.Test.YtphkaogbcfdllaaGreatDoorKe
import Derived.Test.YtphkaogbcfdllaaGreatDoorKc
set_option linter.unusedVariables false
set_option linter.unusedSimpArgs false
set_option maxRecDepth 100000
/- Build scripts at work, plain: what holds of every run. -/
namespace Go.Run
open Go.Scr Go.Pth Go.Tre Go.Blk
open Go.Vc (mget mput mget_put)
theorem walk_code (stay : Nat) : ∀ (xs l : List Txt), (walkF stay l xs).2 ≤ 51
  | [], l => by
    unfold walkF
    split <;> exact Nat.le_of_ble_eq_true rfl
  | x :: xs, l => by
    unfold walkF
    split
    · exact walk_code stay xs l
    split
    · split
      · exact Nat.le_of_ble_eq_true rfl
      · exact walk_code stay xs _
    split
    · exact Nat.le_of_ble_eq_true rfl
    · exact walk_code stay xs _
theorem clean_code (s : Txt) : (cleanF s).2 ≤ 51 := by
  rcases join_cases s with h | h | ⟨_, h⟩
  · show (joinP [] s).2 ≤ 51; rw [h]; exact Nat.le_of_ble_eq_true rfl
  · show (joinP [] s).2 ≤ 51; rw [h]; exact Nat.le_refl _
  · show (joinP [] s).2 ≤ 51; rw [h]; exact walk_code _ _ _
theorem write_code (A : Tr) (s b : Txt) : (writeF A s b).2 ≤ 55 := by
  unfold writeF
  split
  · unfold writeP
    split
    · exact Nat.le_of_ble_eq_true rfl
    split <;> exact Nat.le_of_ble_eq_true rfl
  · have := clean_code s; dsimp only; omega
theorem append_code (A : Tr) (s b : Txt) : (appendF A s b).2 ≤ 55 := by
  unfold appendF
  split
  · unfold writeP
    split
    · exact Nat.le_of_ble_eq_true rfl
    split <;> exact Nat.le_of_ble_eq_true rfl
  · have := clean_code s; dsimp only; omega
theorem mkdir_code (A : Tr) (s : Txt) : (mkdirF A s).2 ≤ 55 := by
  unfold mkdirF
  split
  · unfold mkdirP
    split
    · exact Nat.le_of_ble_eq_true rfl
    split
    · exact Nat.le_of_ble_eq_true rfl
    split <;> exact Nat.le_of_ble_eq_true rfl
  · have := clean_code s; dsimp only; omega
theorem remove_code (A : Tr) (s : Txt) : (removeF A s).2 ≤ 55 := by
  unfold removeF
  split
  · split
    · exact Nat.le_of_ble_eq_true rfl
    split <;> exact Nat.le_of_ble_eq_true rfl
  · have := clean_code s; dsimp only; omega
theorem two_codeP (A : Tr) (p q : Txt) (st : Bool) : (twoP A p q st).2 ≤ 55 := by
  unfold twoP
  by_cases h1 : p ≠ [] ∧ mget A p = none
  · rw [if_pos h1]; exact Nat.le_of_ble_eq_true rfl
  rw [if_neg h1]
  by_cases h2 : p = [] ∨ withinF q p = true
  · rw [if_pos h2]; exact Nat.le_of_ble_eq_true rfl
  rw [if_neg h2]
  by_cases h3 : q = [] ∨ (mget A q).isSome = true
  · rw [if_pos h3]; exact Nat.le_of_ble_eq_true rfl
  rw [if_neg h3]
  by_cases h4 : fileF A q = true
  · rw [if_pos h4]; exact Nat.le_of_ble_eq_true rfl
  rw [if_neg h4]
  by_cases h5 : badM (movedF A p q) = true
  · rw [if_pos h5]; exact Nat.le_of_ble_eq_true rfl
  rw [if_neg h5]
  by_cases h6 : 500 < A.length + ((lackF A q).length + if st = true then (movedF A p q).length else 0) ∨ 1048576 < sizeT A + (if st = true then sizeT (movedF A p q) else 0)
  · rw [if_pos h6]; exact Nat.le_refl _
  · rw [if_neg h6]; exact Nat.zero_le _
theorem two_code (A : Tr) (s t : Txt) (st : Bool) : (Tre.twoF A s t st).2 ≤ 55 := by
  unfold Tre.twoF
  split
  · split
    · exact two_codeP _ _ _ _
    · have := clean_code t; dsimp only; omega
  · have := clean_code s; dsimp only; omega
/-- a line does something to the tree, or to what else there is -/
theorem step_cases (K : List Nat) (x : Ln) (s : St) : (∃ r : Tr × Nat, stepP K x s = doneF s r ∧ r.2 ≤ 55 ∧ (Okay s.A → Okay r.1)) ∨
    ((stepP K x s).1.A = s.A ∧ (stepP K x s).2 ≤ 72 ∧ ((stepP K x s).1.V = s.V ∨ ((stepP K x s).1.V = s.V.map (fun V => mput V x.a (fillF V x.tx)) ∧ (fillF (varsF s.V) x.tx).length ≤ 65536))) := by
  unfold stepP
  by_cases h0 : x.k = 0
  · rw [if_pos h0]; exact .inl ⟨_, rfl, two_code _ _ _ _, fun h => Okay.twoF h _ _ _⟩
  rw [if_neg h0]
  by_cases h1 : x.k = 1
  · rw [if_pos h1]; exact .inl ⟨_, rfl, write_code _ _ _, fun h => Okay.writeF h _ _⟩
  rw [if_neg h1]
  by_cases h2 : x.k = 2
  · rw [if_pos h2]; exact .inl ⟨_, rfl, append_code _ _ _, fun h => Okay.appendF h _ _⟩
  rw [if_neg h2]
  by_cases h3 : x.k = 3
  · rw [if_pos h3]; exact .inl ⟨_, rfl, mkdir_code _ _, fun h => Okay.mkdirF h _⟩
  rw [if_neg h3]
  by_cases h4 : x.k = 4
  · rw [if_pos h4]; exact .inl ⟨_, rfl, remove_code _ _, fun h => Okay.removeF h _⟩
  rw [if_neg h4]
  by_cases h5 : x.k = 5
  · rw [if_pos h5]; exact .inl ⟨_, rfl, two_code _ _ _ _, fun h => Okay.twoF h _ _ _⟩
  rw [if_neg h5]
  refine .inr ?_
  by_cases h6 : x.k = 6
  · rw [if_pos h6]
    by_cases ha : isName x.a = false
    · rw [if_pos ha]; exact ⟨rfl, Nat.le_refl _, .inl rfl⟩
    rw [if_neg ha]
    by_cases hb : 65536 < (fillF (varsF s.V) x.tx).length
    · rw [if_pos hb]; exact ⟨rfl, Nat.le_of_ble_eq_true rfl, .inl rfl⟩
    · rw [if_neg hb]; exact ⟨rfl, Nat.zero_le _, .inr ⟨rfl, by omega⟩⟩
  rw [if_neg h6]
  by_cases h7 : x.k = 7
  · rw [if_pos h7]
    by_cases ha : existsF s.A (fillF (varsF s.V) x.a) = x.nt
    · rw [if_pos ha]; exact ⟨rfl, Nat.zero_le _, .inl rfl⟩
    · rw [if_neg ha]; exact ⟨rfl, Nat.zero_le _, .inl rfl⟩
  rw [if_neg h7]
  by_cases h8 : x.k = 8
  · rw [if_pos h8]
    by_cases ha : x.n = 0
    · rw [if_pos ha]; exact ⟨rfl, Nat.zero_le _, .inl rfl⟩
    · rw [if_neg ha]; exact ⟨rfl, Nat.zero_le _, .inl rfl⟩
  rw [if_neg h8]
  by_cases h9 : x.k = 9
  · rw [if_pos h9]; exact ⟨rfl, Nat.zero_le _, .inl rfl⟩
  rw [if_neg h9]
  by_cases h10 : x.k = 10
  · rw [if_pos h10]
    cases hS : s.S with
    | nil => exact ⟨rfl, Nat.zero_le _, .inl rfl⟩
    | cons p S =>
      dsimp only
      by_cases ha : (endsF K p.1).2 = s.at_
      · rw [if_pos ha]
        by_cases hb : 1 < p.2
        · rw [if_pos hb]; exact ⟨rfl, Nat.zero_le _, .inl rfl⟩
        · rw [if_neg hb]; exact ⟨rfl, Nat.zero_le _, .inl rfl⟩
      · rw [if_neg ha]; exact ⟨rfl, Nat.zero_le _, .inl rfl⟩
  rw [if_neg h10]
  by_cases h11 : x.k = 11
  · rw [if_pos h11]; exact ⟨rfl, Nat.le_refl _, .inl rfl⟩
  · rw [if_neg h11]; exact ⟨rfl, Nat.zero_le _, .inl rfl⟩
/-- a line's error is never that fuel is spent -/
theorem step_code (K : List Nat) (x : Ln) (s : St) : (stepP K x s).2 ≤ 72 := by
  rcases step_cases K x s with ⟨r, e, h, _⟩ | ⟨_, h, _⟩
  · rw [e]; show r.2 ≤ 72; omega
  · exact h
theorem step_okay (K : List Nat) (x : Ln) {s : St} (h : Okay s.A) : Okay (stepP K x s).1.A := by
  rcases step_cases K x s with ⟨r, e, _, h2⟩ | ⟨e, _, _⟩
  · rw [e]; exact h2 h
  · rw [e]; exact h
theorem run_okay (L : List Ln) : ∀ (f u : Nat) (s : St), Okay s.A → Okay (runP L f u s).2.A
  | 0, u, s, h => by
    rw [runP]
    split <;> exact h
  | f + 1, u, s, h => by
    cases hx : L[s.at_]? with
    | none => rw [runP, hx]; exact h
    | some x =>
      rw [runP_step hx]
      have h2 := step_okay (kindsL L) x h
      split
      · exact run_okay L f _ _ h2
      · exact h2
theorem run_le (L : List Ln) : ∀ (f u : Nat) (s : St), u ≤ (runP L f u s).1.1 ∧ (runP L f u s).1.1 ≤ u + f
  | 0, u, s => by
    rw [runP]
    split <;> exact ⟨Nat.le_refl _, Nat.le_refl _⟩
  | f + 1, u, s => by
    cases hx : L[s.at_]? with
    | none => rw [runP, hx]; dsimp only; omega
    | some x =>
      rw [runP_step hx]
      split
      · have := run_le L f (u + 1) (stepP (kindsL L) x s).1; omega
      · dsimp only; omega
theorem run_spent (L : List Ln) : ∀ (f u : Nat) (s : St), (runP L f u s).1.2 = 73 → (runP L f u s).1.1 = u + f
  | 0, u, s, h => by
    rw [runP]
    split <;> rfl
  | f + 1, u, s, h => by
    cases hx : L[s.at_]? with
    | none => rw [runP, hx] at h; cases h
    | some x =>
      rw [runP_step hx] at h ⊢
      split at h
      · rename_i h0
        rw [if_pos h0]
        have := run_spent L f (u + 1) _ h; omega
      · have := step_code (kindsL L) x s
        dsimp only at h; omega
/-- more fuel changes nothing -/
theorem run_more (L : List Ln) : ∀ (f g u : Nat) (s : St), f ≤ g → (runP L f u s).1.2 ≠ 73 → runP L g u s = runP L f u s
  | 0, g, u, s, hg, h => by
    rw [runP] at h
    split at h
    · exact absurd rfl h
    · rename_i hlt
      rw [runP_end (by omega), runP_end (by omega)]
  | f + 1, 0, u, s, hg, h => by omega
  | f + 1, g + 1, u, s, hg, h => by
    cases hx : L[s.at_]? with
    | none => rw [runP, hx, runP, hx]
    | some x =>
      rw [runP_step hx] at h ⊢
      rw [runP_step hx]
      split
      · rename_i h0
        rw [if_pos h0] at h
        exact run_more L f g (u + 1) _ (by omega) h
      · rfl
/-- with less it has none left, just there -/
theorem run_less (L : List Ln) : ∀ (f g u : Nat) (s : St), u + g < (runP L f u s).1.1 → (runP L g u s).1 = (u + g, 73)
  | 0, g, u, s, h => by have := run_le L 0 u s; omega
  | f + 1, 0, u, s, h => by
    cases hx : L[s.at_]? with
    | none => rw [runP, hx] at h; dsimp only at h; omega
    | some x => rw [runP_out (List.getElem?_eq_some_iff.1 hx).1]; rfl
  | f + 1, g + 1, u, s, h => by
    cases hx : L[s.at_]? with
    | none => rw [runP, hx] at h; dsimp only at h; omega
    | some x =>
      rw [runP_step hx] at h ⊢
      split
      · rename_i h0
        rw [if_pos h0] at h
        have := run_less L f g (u + 1) (stepP (kindsL L) x s).1 (by omega)
        rw [this, show u + 1 + g = u + (g + 1) by omega]
      · rename_i h0
        rw [if_neg h0] at h
        dsimp only at h; omega
/- ---------- variables ---------- -/
/-- no variable is longer than a file -/
def Fit (V : Option Vars) : Prop := ∀ k, (getV (varsF V) k).length ≤ 65536
theorem Fit.none : Fit none := fun k => by simp [varsF, getV, mget]
theorem Fit.put {V : Vars} (h : Fit (some V)) {k t : Txt} (ht : t.length ≤ 65536) : Fit (some (mput V k t)) := fun k' => by
  have := h k'
  show ((mget (mput V k t) k').getD []).length ≤ _
  rw [mget_put]
  split
  · exact ht
  · exact this
/-- where a run ends -/
theorem kinds_get {L : List Ln} {i : Nat} {x : Ln} (h : L[i]? = some x) : (kindsL L)[i]? = some x.k := by unfold kindsL; rw [List.getElem?_map, h]; rfl
theorem kinds_len (L : List Ln) : (kindsL L).length = L.length := by simp [kindsL]
theorem step_at {L : List Ln} (hn : Nested (kindsL L)) {x : Ln} {s : St} (hx : L[s.at_]? = some x) (hS : ∀ p ∈ s.S, p.1 < L.length) : (stepP (kindsL L) x s).1.at_ ≤ L.length ∧ ∀ p ∈ (stepP (kindsL L) x s).1.S, p.1 < L.length := by
  have hk := kinds_get hx
  have hl := (List.getElem?_eq_some_iff.1 hx).1
  have hlen := kinds_len L
  unfold stepP
  by_cases h0 : x.k = 0
  · rw [if_pos h0]; exact ⟨by unfold doneF; dsimp only; omega, hS⟩
  rw [if_neg h0]
  by_cases h1 : x.k = 1
  · rw [if_pos h1]; exact ⟨by unfold doneF; dsimp only; omega, hS⟩
  rw [if_neg h1]
  by_cases h2 : x.k = 2
  · rw [if_pos h2]; exact ⟨by unfold doneF; dsimp only; omega, hS⟩
  rw [if_neg h2]
  by_cases h3 : x.k = 3
  · rw [if_pos h3]; exact ⟨by unfold doneF; dsimp only; omega, hS⟩
  rw [if_neg h3]
  by_cases h4 : x.k = 4
  · rw [if_pos h4]; exact ⟨by unfold doneF; dsimp only; omega, hS⟩
  rw [if_neg h4]
  by_cases h5 : x.k = 5
  · rw [if_pos h5]; exact ⟨by unfold doneF; dsimp only; omega, hS⟩
  rw [if_neg h5]
  by_cases h6 : x.k = 6
  · rw [if_pos h6]
    by_cases ha : isName x.a = false
    · rw [if_pos ha]; exact ⟨by dsimp only; omega, hS⟩
    rw [if_neg ha]
    by_cases hb : 65536 < (fillF (varsF s.V) x.tx).length
    · rw [if_pos hb]; exact ⟨by dsimp only; omega, hS⟩
    · rw [if_neg hb]; exact ⟨by unfold nextF; dsimp only; omega, hS⟩
  rw [if_neg h6]
  by_cases h7 : x.k = 7
  · rw [if_pos h7]
    rw [h7] at hk
    have he := ends_of hn hk (.inl rfl)
    by_cases ha : existsF s.A (fillF (varsF s.V) x.a) = x.nt
    · rw [if_pos ha]
      refine ⟨?_, hS⟩
      dsimp only
      split
      · rename_i e hee
        have := (List.getElem?_eq_some_iff.1 (he.els e hee).1).1
        omega
      · have := he.lt; omega
    · rw [if_neg ha]; exact ⟨by unfold nextF; dsimp only; omega, hS⟩
  rw [if_neg h7]
  by_cases h8 : x.k = 8
  · rw [if_pos h8]
    rw [h8] at hk
    have he := ends_of hn hk (.inr rfl)
    by_cases ha : x.n = 0
    · rw [if_pos ha]; exact ⟨by have := he.lt; dsimp only; omega, hS⟩
    · rw [if_neg ha]
      refine ⟨by unfold nextF; dsimp only; omega, fun p hp => ?_⟩
      rcases List.mem_cons.1 hp with rfl | hp
      · exact hl
      · exact hS p hp
  rw [if_neg h8]
  by_cases h9 : x.k = 9
  · rw [if_pos h9]
    rw [h9] at hk
    exact ⟨by have := (ende_of hn hk).lt; dsimp only; omega, hS⟩
  rw [if_neg h9]
  by_cases h10 : x.k = 10
  · rw [if_pos h10]
    cases hSe : s.S with
    | nil => exact ⟨by unfold nextF; dsimp only; omega, by dsimp only [nextF]; rw [hSe]; intro p hp; cases hp⟩
    | cons p S =>
      obtain ⟨h, n⟩ := p
      dsimp only
      have hh := hS (h, n) (by rw [hSe]; simp)
      by_cases ha : (endsF (kindsL L) h).2 = s.at_
      · rw [if_pos ha]
        by_cases hb : 1 < n
        · rw [if_pos hb]
          refine ⟨by dsimp only at hh ⊢; omega, fun p hp => ?_⟩
          rcases List.mem_cons.1 hp with rfl | hp
          · exact hh
          · exact hS p (by rw [hSe]; exact List.mem_cons_of_mem _ hp)
        · rw [if_neg hb]
          exact ⟨by unfold nextF; dsimp only; omega, fun p hp => hS p (by rw [hSe]; exact List.mem_cons_of_mem _ hp)⟩
      · rw [if_neg ha]; exact ⟨by unfold nextF; dsimp only; omega, hS⟩
  rw [if_neg h10]
  by_cases h11 : x.k = 11
  · rw [if_pos h11]; exact ⟨by dsimp only; omega, hS⟩
  · rw [if_neg h11]; exact ⟨by unfold nextF; dsimp only; omega, hS⟩
end Go.Run
/- Build scripts at work, the code: what variables, tables, lines are in a heap. -/
namespace Go.Vc
variable {P : Program} {H H' : Heap}
theorem SemH.lookupNil {t kt et : TypeId} {i : TypeInfo} {z : Value} {k : Bs} {K : Value → Heap → Prop} (ht : P.underlying t = some (.map kt et)) (hk : P.underlying kt = some .string)
    (hi : P.info? et = some i) (hz : i.zero = some z) (h : K z H) : SemH P (Instr.lookup t (.map none) (.string (mkS k)) false) H K := by
  refine ⟨fun w hw => ⟨_, w, ?_, Same.refl w, by rw [hw]; exact h⟩⟩
  have hf : Instr.findNow .string (.string (mkS k)) [] 0 = some none := rfl
  simp [Instr.lookup, Sem.run_bind, underlying_of ht, run_key hk, run_find hk hf, zeroValue, typeInfo_of hi, hz]
/-- rows with texts in them keep off blocks without -/
theorem Row.dumb {F : Nat → Prop} {a : Option Addr} {cs : List Value} {s : ByteArray} (h : Row H a cs) (k : Only F H H') {j : Nat} (hs : cs ≠ [] → cs[j]? = some (.string s)) (hF : ∀ b, F b → b < H.size → Dumb H b) : Row H' a cs := h.keep' k fun hne p hp hf => by
  obtain ⟨b, o, ha, hlt, hc⟩ := h.at (List.length_pos_iff.2 hne)
  rw [ha] at hp; cases hp
  have := (hF _ hf hlt).out _ _ (hc j _ (hs hne))
  cases this
end Go.Vc
namespace Go.Proofs.YtphkaogbcfdllaaGreatDoor
open Go Go.Vc Go.Scr Go.Pth Go.Tre Go.Blk Go.Run
variable {Z : Nat → Prop}
def varV (V : Vars) : List (Bs × Value) := V.map fun x => (x.1, .string (mkS x.2))
theorem var_get : ∀ (V : Vars) (k : Bs), mget (varV V) k = (mget V k).map fun t => Value.string (mkS t)
  | [], k => rfl
  | x :: V, k => by
    show (if k = x.1 then some (Value.string (mkS x.2)) else mget (varV V) k) = (if k = x.1 then some x.2 else mget V k).map _
    split
    · rfl
    · exact var_get V k
theorem var_put : ∀ (V : Vars) (k t : Bs), mput (varV V) k (.string (mkS t)) = varV (mput V k t)
  | [], k, t => rfl
  | x :: V, k, t => by
    show (if k = x.1 then (k, Value.string (mkS t)) :: varV V else (x.1, Value.string (mkS x.2)) :: mput (varV V) k (.string (mkS t))) = varV (if k = x.1 then (k, t) :: V else x :: mput V k t)
    split
    · rfl
    · rw [var_put V k t]; rfl
/-- variables in a heap: no map, or one -/
def VarsO (H : Heap) : Option Nat → Option Vars → Prop
  | none, none => True
  | some b, some V => MapO H b (varV V)
  | _, _ => False
theorem VarsO.keep {F : Nat → Prop} {H H' : Heap} {vm : Option Nat} {V : Option Vars} (h : VarsO H vm V) (k : Only F H H') (hF : ∀ b, vm = some b → ¬ F b) : VarsO H' vm V := by
  cases vm with
  | none => cases V with | none => trivial | some V => exact h.elim
  | some b => cases V with | none => exact h.elim | some V => exact MapO.keep h k (hF b rfl)
theorem VarsO.ext {H H' : Heap} {vm : Option Nat} {V : Option Vars} (h : VarsO H vm V) (k : Ext H H') : VarsO H' vm V := h.keep k fun _ _ => id
theorem SemH.var {H : Heap} {vm : Option Nat} {V : Option Vars} {k : Bs} {K : Value → Heap → Prop} (h : VarsO H vm V) (hk : K (.string (mkS (getV (varsF V) k))) H) : SemH Tryz.prog (Instr.lookup 44 (.map vm) (.string (mkS k)) false) H K := by
  cases vm with
  | none =>
    cases V with
    | some V => exact h.elim
    | none => exact SemH.lookupNil (z := .string ⟨#[]⟩) rfl rfl rfl rfl hk
  | some b =>
    cases V with
    | none => exact h.elim
    | some V =>
      refine SemH.lookupS (z := .string ⟨#[]⟩) h rfl rfl rfl rfl ?_
      rw [var_get]
      have e : ((mget V k).map fun t => Value.string (mkS t)).getD (.string ⟨#[]⟩) = .string (mkS (getV (varsF (some V)) k)) := by
        show _ = Value.string (mkS ((mget V k).getD []))
        cases mget V k <;> rfl
      rw [e]; exact hk
/-- bytes behind bytes -/
theorem NextH.appY {H : Heap} {u ty : TypeId} {a : Option Addr} {n cap base m : Nat} {l y : Bs} {x : Value} {cb : Array Bool} {K : Value → Heap → Prop}
    (hown : Own H base 5 1 a n cap (strV l)) (hsrc : Src Tryz.prog H x 1 m (strV y)) (hn : n ≤ 1000000000000) (hm : m ≤ 1000000000000) (hb : base ≤ H.size) (hu : ∃ d, Tryz.prog.underlying u = some d ∧ (∀ k, d ≠ .int k))
    (hk : ∀ a' cap' H', Own H' base 5 1 a' (n + m) cap' (strV (l ++ y)) → Wr a H H' → K (.slice a' (n + m) cap') H') : NextH Tryz.prog (builtin .append #[33, u] ty cb #[.slice a n cap, x]) H K := by
  refine Go.Vc.NextH.append (i := Tryz.t5) (z := .int .u8 0) rfl hu rfl rfl rfl hown hsrc (by unfold maxLen; omega) ?_ hb fun a' cap' H' h1 h2 _ => hk a' cap' H' (by rw [strV_append]; exact h1) h2
  show (n + m) * 1 ≤ _
  omega
theorem take_cutv (l v r : Bs) (m : Nat) (hm : m = min v.length 65537) : ((l ++ v.take m) ++ r).take 65537 = (l ++ (v ++ r)).take 65537 := by
  rcases Nat.lt_or_ge 65537 v.length with h | h
  · rw [show m = 65537 by omega, List.append_assoc, List.take_append, List.take_append, List.take_append, List.take_append (l₁ := v), List.take_take, List.length_take]
    congr 2
    · rw [Nat.min_eq_left (by omega)]
    · rw [show 65537 - l.length - min 65537 v.length = 0 by omega, show 65537 - l.length - v.length = 0 by omega, List.take_zero]
  · rw [show m = v.length by omega, List.take_length, List.append_assoc]
theorem lns_dumb {F : Nat → Prop} {H H' : Heap} {a : Option Addr} {L : List Ln} (h : Row H a (lnsV L)) (k : Only F H H') (hF : ∀ b, F b → b < H.size → Dumb H b) : Row H' a (lnsV L) := by
  cases L with
  | nil => exact Row.nil _ _
  | cons x L => exact Row.dumb (j := 1) (s := mkS x.a) h k (fun _ => rfl) hF
theorem nat_get {l : List Nat} {j n : Nat} (h : l[j]? = some n) : (natV l)[j]? = some (.int .i64 (n : Int)) := by unfold natV; rw [List.getElem?_map, h]; rfl
theorem nat_set (l : List Nat) (j n : Nat) : (natV l).set j (.int .i64 (n : Int)) = natV (l.set j n) := by unfold natV; rw [List.map_set]
theorem nat_made (n : Nat) : (madeCells (Value.int .i64 0).cells (n * 1)).toList = natV (List.replicate n 0) := by
  apply List.ext_getElem?
  intro j
  rw [Nat.mul_one, Array.getElem?_toList]
  simp only [madeCells, Array.getElem?_map, Array.getElem?_range, natV, List.map_replicate, List.getElem?_replicate]
  split
  · show some ((#[Value.int .i64 0])[j % 1]!) = _; rw [Nat.mod_one]; rfl
  · simp
/-- a row of numbers of the call's own, its block named -/
abbrev Tab (H : Heap) (B g n : Nat) (l : List Nat) : Prop := Own H B 3 1 (some ⟨g, 0, none⟩) n n (natV l)
theorem Tab.blk {H : Heap} {B g n : Nat} {l : List Nat} (h : Tab H B g n l) (hl : l.length = n) : Blk H g (natV l).toArray 3 := by
  rcases h.out with ⟨h1, _⟩ | ⟨g', cur, h1, _, hb, _, _, hs, ht⟩
  · cases h1
  · cases h1
    have : cur.toList = natV l := by rw [← ht, List.take_of_length_le]; rw [Array.length_toList]; omega
    rw [← this]; simpa using hb
theorem Tab.dumb {H : Heap} {B g n : Nat} {l : List Nat} (h : Tab H B g n l) (hl : l.length = n) : Oth H g := Oth.blk (h.blk hl) (fun v hv => by
  have hv : v ∈ natV l := by simpa using hv
  obtain ⟨n, _, rfl⟩ := List.mem_map.1 hv
  rfl) (by decide)
end Go.Proofs.YtphkaogbcfdllaaGreatDoor
/- Build scripts at work, the code: names, texts with their variables put in. -/
namespace Go.Proofs.YtphkaogbcfdllaaGreatDoor
open Go Go.Vc Go.Scr Go.Pth Go.Tre Go.Blk Go.Run
theorem small_any (c : UInt8) (H : Heap) : CallH Tryz.prog 204 [.int .u8 c.toNat] H fun v H' => v = .bool (lowB c) ∧ H = H' := by
  have hc := c.toNat_lt
  unfold lowB
  refine Vc.CallH.body Tryz.func204 Tryz.call204 rfl (by decide +kernel) rfl ?_
  ((conv => whnf); repeat (any_goals (first | (refine Vc.stp ?_; intros; (conv => whnf)) | (refine Vc.spl ?_ ?_ <;> (intro _; (conv => whnf))))))
  all_goals (refine ⟨?_, rfl⟩; first | (rw [decide_eq_true (by omega)]; rfl) | (rw [decide_eq_false (by omega)]; rfl) | (show Value.bool _ = Value.bool _; congr 1; rw [Bool.eq_iff_iff, decide_eq_true_eq, decide_eq_true_eq]; omega))
theorem digit_any (c : UInt8) (H : Heap) : CallH Tryz.prog 205 [.int .u8 c.toNat] H fun v H' => v = .bool (digB c) ∧ H = H' := by
  have hc := c.toNat_lt
  unfold digB
  refine Vc.CallH.body Tryz.func205 Tryz.call205 rfl (by decide +kernel) rfl ?_
  ((conv => whnf); repeat (any_goals (first | (refine Vc.stp ?_; intros; (conv => whnf)) | (refine Vc.spl ?_ ?_ <;> (intro _; (conv => whnf))))))
  all_goals (refine ⟨?_, rfl⟩; first | (rw [decide_eq_true (by omega)]; rfl) | (rw [decide_eq_false (by omega)]; rfl) | (show Value.bool _ = Value.bool _; congr 1; rw [Bool.eq_iff_iff, decide_eq_true_eq, decide_eq_true_eq]; omega))
theorem named_any (s : Bs) (hl : s.length ≤ 1000000000) (H : Heap) : CallH Tryz.prog 164 [.string (mkS s)] H fun v H' => v = .int .i64 (nameN s) ∧ H = H' := by
  have hsz : (mkS s).size = s.length := rfl
  by_cases hnil : s = []
  · subst hnil
    refine Vc.CallH.body Tryz.func164 Tryz.call164 rfl (by decide +kernel) rfl ?_
    ((conv => whnf); repeat (any_goals (first | (refine Vc.stp ?_; intros; (conv => whnf)) | (refine Vc.spl ?_ ?_ <;> (intro _; (conv => whnf))))))
    exact ⟨rfl, rfl⟩
  obtain ⟨c, t, hct⟩ : ∃ c t, s = c :: t := by cases s with | nil => exact absurd rfl hnil | cons c t => exact ⟨c, t, rfl⟩
  have hne : ((mkS s).toList == (⟨#[]⟩ : ByteArray).toList) = false := by rw [hct]; exact ne_empty c t
  have hs0 := fun H => small_any c H
  have h0 : (mkS s).data.toList.getD 0 0 = c := by rw [hct]; rfl
  have hlen : s.length = t.length + 1 := by rw [hct]; rfl
  refine Vc.CallH.body Tryz.func164 Tryz.call164 rfl (by decide +kernel) rfl ?_
  cases hlow : lowB c with
  | false =>
    rw [hlow] at hs0
    have hnm : nameN s = 0 := by rw [hct]; show (if lowB c = true then _ else 0) = 0; rw [hlow]; rfl
    rw [hnm]
    ((conv => whnf); repeat (any_goals (first | ((refine IdxH.nat 0 rfl (by omega) ?_; (conv => whnf); rw [h0]); (conv => whnf)) | ((refine (hs0 _).mono ?_; rintro _ _ ⟨rfl, rfl⟩); (conv => whnf)) | (refine Vc.stp ?_; intros; (conv => whnf)) | (refine Vc.spl ?_ ?_ <;> (intro _; (conv => whnf))))))
    exact ⟨rfl, rfl⟩
  | true =>
    rw [hlow] at hs0
    have hnm : nameN s = (s.takeWhile fun x => lowB x || digB x).length := by
      rw [hct, List.takeWhile_cons, if_pos (by rw [hlow]; rfl), List.length_cons]
      show (if lowB c = true then 1 + (t.takeWhile fun x => lowB x || digB x).length else 0) = _
      rw [if_pos hlow]; omega
    ((conv => whnf); repeat (any_goals (first | ((refine IdxH.nat 0 rfl (by omega) ?_; (conv => whnf); rw [h0]); (conv => whnf)) | ((refine (hs0 _).mono ?_; rintro _ _ ⟨rfl, rfl⟩); (conv => whnf)) | (refine Vc.stp ?_; intros; (conv => whnf)) | (refine Vc.spl ?_ ?_ <;> (intro _; (conv => whnf))))))
    clear hs0 h0 hlow hne
    refine LoopH.intro (fun (i : Nat) => [(14, .int .i64 i)]) (fun i H' => H = H' ∧ i ≤ s.length ∧ nameN s = i + ((s.drop i).takeWhile fun x => lowB x || digB x).length) (fun i => s.length - i) 0 ⟨rfl, trivial⟩ ⟨rfl, Nat.zero_le _, by rw [hnm]; simp⟩ ?_
    rintro i _ ⟨rfl, hi, hb⟩
    dsimp only
    by_cases hlt : i < s.length
    · obtain ⟨c, hc, hd⟩ := drop_get hlt
      rw [hd, List.takeWhile_cons] at hb
      have hs1 := fun H => small_any c H
      have hd1 := fun H => digit_any c H
      cases hb1 : lowB c with
      | true =>
        rw [hb1] at hs1 hb
        rw [Bool.true_or, if_pos rfl, List.length_cons] at hb
        ((conv => whnf); repeat (any_goals (first | ((refine IdxH.nat i rfl (by omega) ?_; (conv => whnf); rw [hc]); (conv => whnf)) | ((refine (hs1 _).mono ?_; rintro _ _ ⟨rfl, rfl⟩); (conv => whnf)) | ((refine (hd1 _).mono ?_; rintro _ _ ⟨rfl, rfl⟩); (conv => whnf)) | (refine Vc.stp ?_; intros; (conv => whnf)) | (refine Vc.spl ?_ ?_ <;> (intro _; (conv => whnf))))))
        exact ⟨i + 1, ⟨rfl, trivial⟩, ⟨rfl, by omega, by omega⟩, by omega⟩
      | false =>
        rw [hb1] at hs1 hb
        cases hb2 : digB c with
        | true =>
          rw [hb2] at hd1 hb
          rw [Bool.false_or, if_pos rfl, List.length_cons] at hb
          ((conv => whnf); repeat (any_goals (first | ((refine IdxH.nat i rfl (by omega) ?_; (conv => whnf); rw [hc]); (conv => whnf)) | ((refine (hs1 _).mono ?_; rintro _ _ ⟨rfl, rfl⟩); (conv => whnf)) | ((refine (hd1 _).mono ?_; rintro _ _ ⟨rfl, rfl⟩); (conv => whnf)) | (refine Vc.stp ?_; intros; (conv => whnf)) | (refine Vc.spl ?_ ?_ <;> (intro _; (conv => whnf))))))
          exact ⟨i + 1, ⟨rfl, trivial⟩, ⟨rfl, by omega, by omega⟩, by omega⟩
        | false =>
          rw [hb2] at hd1 hb
          rw [Bool.false_or, if_neg (by decide)] at hb
          ((conv => whnf); repeat (any_goals (first | ((refine IdxH.nat i rfl (by omega) ?_; (conv => whnf); rw [hc]); (conv => whnf)) | ((refine (hs1 _).mono ?_; rintro _ _ ⟨rfl, rfl⟩); (conv => whnf)) | ((refine (hd1 _).mono ?_; rintro _ _ ⟨rfl, rfl⟩); (conv => whnf)) | (refine Vc.stp ?_; intros; (conv => whnf)) | (refine Vc.spl ?_ ?_ <;> (intro _; (conv => whnf))))))
          exact ⟨by rw [hb]; rfl, rfl⟩
    · rw [List.drop_of_length_le (by omega)] at hb
      ((conv => whnf); repeat (any_goals (first | (refine Vc.stp ?_; intros; (conv => whnf)) | (refine Vc.spl ?_ ?_ <;> (intro _; (conv => whnf))))))
      exact ⟨by rw [hb]; show Value.int _ _ = Value.int _ _; congr 1; simp; omega, rfl⟩
structure TxS where
  i : Nat
  l : Bs
  a : Option Addr
  cap : Nat
set_option maxHeartbeats 2000000 in
theorem vtext_any (g : Nat) (vm : Option Nat) (V : Option Vars) (s : Bs) (hl : s.length ≤ 1000000000) (H : Heap) (hv : VarsO H vm V) (hvm : hcell H ⟨g, 4, none⟩ = some (.map vm)) :
    CallH Tryz.prog 110 [.pointer (some ⟨g, 0, none⟩), .string (mkS s)] H fun v H' => v = .string (mkS ((fillF (varsF V) s).take 65537)) ∧ Ext H H' := by
  have hsz : (mkS s).size = s.length := rfl
  obtain ⟨W, hW⟩ : ∃ W, varsF V = W := ⟨_, rfl⟩
  rw [hW]
  refine Vc.CallH.body Tryz.func110 Tryz.call110 rfl (by decide +kernel) rfl ?_
  ((conv => whnf); repeat (any_goals (first | (refine Vc.stp ?_; intros; (conv => whnf)))))
  refine LoopH.intro (fun (x : TxS) => [(6, .int .i64 x.i), (5, .slice x.a x.l.length x.cap)]) (fun x H' => x.i ≤ s.length ∧ x.l.length ≤ 131074 ∧ Own H' H.size 5 1 x.a x.l.length x.cap (strV x.l) ∧ (fillF W s).take 65537 = (x.l ++ fillF W (s.drop x.i)).take 65537 ∧ Ext H H') (fun x => s.length - x.i) ⟨0, [], none, 0⟩ ⟨rfl, rfl, trivial⟩ ⟨Nat.zero_le _, Nat.zero_le _, Own.nil _ _ _ _, rfl, Ext.refl _⟩ ?_
  rintro ⟨i, l, a, cap⟩ H1 ⟨hi, hll, ho, hinv, hx1⟩
  dsimp only at hi hll ho hinv hx1 ⊢
  have hz1 := hx1.size
  by_cases hlt : i < s.length
  · obtain ⟨c, hc, hd⟩ := drop_get hlt
    rw [hd, fillF_cons] at hinv
    by_cases hlm : l.length < 65537
    · by_cases h36 : c ≠ 36
      · rw [if_pos h36] at hinv
        have n36 := ne_nat 36 (by decide) h36
        ((conv => whnf); repeat (any_goals (first | ((refine IdxH.nat i rfl (by omega) ?_; (conv => whnf); rw [hc]); (conv => whnf)) | ((refine BndH.nat (i + 1 + n) (by omega) (by omega) ?_); (conv => whnf)) | ((refine BndH.nat m hmin (by omega) ?_; (conv => whnf); rw [mkS_take]); (conv => whnf)) | ((refine SemH.var (hv.ext (by exact Vc.xt)) ?_; rw [hW, hv']); (conv => whnf)) | ((refine NextH.appY (y := v.take m) (m := (mkS (v.take m)).size) ho (Src.str (mkS (v.take m))) (by omega) (by omega) (by omega) ⟨_, rfl, fun _ h => by cases h⟩ ?_; intro a2 c2 H2 ho2 hw2); (conv => whnf)) | ((refine BndH.nat (i + 1) (by omega) (by omega) ?_; (conv => whnf); first | rw [hkey] | rw [mkS_drop, ht]); (conv => whnf)) | ((refine (hnm _).mono ?_; rintro _ _ ⟨rfl, rfl⟩); (conv => whnf)) | (refine Vc.stp ?_; intros; (conv => whnf)))))
        rename_i Ha za ba xa a2 c2 H2 ho2 hx2
        exact ⟨⟨i + 1, l ++ [c], a2, c2⟩, ⟨rfl, sl_snoc a2 l c c2, trivial⟩, ⟨by show i + 1 ≤ _; omega, by show (l ++ [c]).length ≤ _; simp; omega, own_snoc ho2, by show _ = ((l ++ [c]) ++ _).take _; rw [hinv, List.append_assoc]; rfl, hx2⟩, by show s.length - (i + 1) < s.length - i; omega⟩
      · have h36 : c = 36 := Classical.not_not.1 h36
        subst h36
        rw [if_neg (by simp)] at hinv
        have n36 : (36 : UInt8).toNat = 36 := rfl
        obtain ⟨t, ht⟩ : ∃ t, s.drop (i + 1) = t := ⟨_, rfl⟩
        have htl : t.length = s.length - (i + 1) := by rw [← ht, List.length_drop]
        have hnle := nameN_le t
        rw [ht] at hinv
        obtain ⟨n, hN⟩ : ∃ n, nameN t = n := ⟨_, rfl⟩
        rw [hN] at hinv hnle
        have hnm := fun H => named_any t (by omega) H
        rw [hN] at hnm
        by_cases hn0 : n = 0
        · rw [if_neg (by omega)] at hinv
          subst hn0
          cases t with
          | nil =>
            have hl1 : i + 1 = s.length := by rw [List.length_nil] at htl; omega
            rw [if_neg (by simp)] at hinv
            ((conv => whnf); repeat (any_goals (first | ((refine IdxH.nat i rfl (by omega) ?_; (conv => whnf); rw [hc]); (conv => whnf)) | ((refine BndH.nat (i + 1 + n) (by omega) (by omega) ?_); (conv => whnf)) | ((refine BndH.nat m hmin (by omega) ?_; (conv => whnf); rw [mkS_take]); (conv => whnf)) | ((refine SemH.var (hv.ext (by exact Vc.xt)) ?_; rw [hW, hv']); (conv => whnf)) | ((refine NextH.appY (y := v.take m) (m := (mkS (v.take m)).size) ho (Src.str (mkS (v.take m))) (by omega) (by omega) (by omega) ⟨_, rfl, fun _ h => by cases h⟩ ?_; intro a2 c2 H2 ho2 hw2); (conv => whnf)) | ((refine BndH.nat (i + 1) (by omega) (by omega) ?_; (conv => whnf); first | rw [hkey] | rw [mkS_drop, ht]); (conv => whnf)) | ((refine (hnm _).mono ?_; rintro _ _ ⟨rfl, rfl⟩); (conv => whnf)) | (refine Vc.stp ?_; intros; (conv => whnf)))))
            rename_i Ha za ba xa a2 c2 H2 ho2 hx2
            exact ⟨⟨i + 1, l ++ [36], a2, c2⟩, ⟨rfl, sl_snoc a2 l 36 c2, trivial⟩, ⟨by show i + 1 ≤ _; omega, by show (l ++ [36]).length ≤ _; simp; omega, own_snoc ho2, by show _ = ((l ++ [36]) ++ fillF W (s.drop (i + 1))).take _; rw [hinv, List.append_assoc, ht]; rfl, hx2⟩, by show s.length - (i + 1) < s.length - i; omega⟩
          | cons d u =>
            have hl1 : i + 1 < s.length := by rw [List.length_cons] at htl; omega
            obtain ⟨d', hd', hdd⟩ := drop_get hl1
            rw [ht, List.cons.injEq] at hdd
            obtain ⟨rfl, hu⟩ := hdd
            by_cases h2 : d = 36
            · subst h2
              rw [if_pos (by rfl)] at hinv
              have n37 : (36 : UInt8).toNat = 36 := rfl
              ((conv => whnf); repeat (any_goals (first | ((refine IdxH.nat (i + 1) (by omega) (by omega) ?_; (conv => whnf); rw [hd']); (conv => whnf)) | ((refine IdxH.nat i rfl (by omega) ?_; (conv => whnf); rw [hc]); (conv => whnf)) | ((refine BndH.nat (i + 1 + n) (by omega) (by omega) ?_); (conv => whnf)) | ((refine BndH.nat m hmin (by omega) ?_; (conv => whnf); rw [mkS_take]); (conv => whnf)) | ((refine SemH.var (hv.ext (by exact Vc.xt)) ?_; rw [hW, hv']); (conv => whnf)) | ((refine NextH.appY (y := v.take m) (m := (mkS (v.take m)).size) ho (Src.str (mkS (v.take m))) (by omega) (by omega) (by omega) ⟨_, rfl, fun _ h => by cases h⟩ ?_; intro a2 c2 H2 ho2 hw2); (conv => whnf)) | ((refine BndH.nat (i + 1) (by omega) (by omega) ?_; (conv => whnf); first | rw [hkey] | rw [mkS_drop, ht]); (conv => whnf)) | ((refine (hnm _).mono ?_; rintro _ _ ⟨rfl, rfl⟩); (conv => whnf)) | (refine Vc.stp ?_; intros; (conv => whnf)))))
              rename_i Ha za ba xa a2 c2 H2 ho2 hx2
              exact ⟨⟨i + 1 + 1, l ++ [36], a2, c2⟩, ⟨rfl, sl_snoc a2 l 36 c2, trivial⟩, ⟨by show i + 1 + 1 ≤ _; omega, by show (l ++ [36]).length ≤ _; simp; omega, own_snoc ho2, by show _ = ((l ++ [36]) ++ fillF W (s.drop (i + 1 + 1))).take _; rw [hinv, List.append_assoc, ← hu]; rfl, hx2⟩, by show s.length - (i + 1 + 1) < s.length - i; omega⟩
            · rw [if_neg (by simpa using h2)] at hinv
              have n37 := ne_nat 36 (by decide) h2
              ((conv => whnf); repeat (any_goals (first | ((refine IdxH.nat (i + 1) (by omega) (by omega) ?_; (conv => whnf); rw [hd']); (conv => whnf)) | ((refine IdxH.nat i rfl (by omega) ?_; (conv => whnf); rw [hc]); (conv => whnf)) | ((refine BndH.nat (i + 1 + n) (by omega) (by omega) ?_); (conv => whnf)) | ((refine BndH.nat m hmin (by omega) ?_; (conv => whnf); rw [mkS_take]); (conv => whnf)) | ((refine SemH.var (hv.ext (by exact Vc.xt)) ?_; rw [hW, hv']); (conv => whnf)) | ((refine NextH.appY (y := v.take m) (m := (mkS (v.take m)).size) ho (Src.str (mkS (v.take m))) (by omega) (by omega) (by omega) ⟨_, rfl, fun _ h => by cases h⟩ ?_; intro a2 c2 H2 ho2 hw2); (conv => whnf)) | ((refine BndH.nat (i + 1) (by omega) (by omega) ?_; (conv => whnf); first | rw [hkey] | rw [mkS_drop, ht]); (conv => whnf)) | ((refine (hnm _).mono ?_; rintro _ _ ⟨rfl, rfl⟩); (conv => whnf)) | (refine Vc.stp ?_; intros; (conv => whnf)))))
              rename_i Ha za ba xa a2 c2 H2 ho2 hx2
              exact ⟨⟨i + 1, l ++ [36], a2, c2⟩, ⟨rfl, sl_snoc a2 l 36 c2, trivial⟩, ⟨by show i + 1 ≤ _; omega, by show (l ++ [36]).length ≤ _; simp; omega, own_snoc ho2, by show _ = ((l ++ [36]) ++ fillF W (s.drop (i + 1))).take _; rw [hinv, List.append_assoc, ht]; rfl, hx2⟩, by show s.length - (i + 1) < s.length - i; omega⟩
        · rw [if_pos hn0] at hinv
          obtain ⟨v, hv'⟩ : ∃ v, getV W (t.take n) = v := ⟨_, rfl⟩
          rw [hv'] at hinv
          have hkey : (mkS s).extract (i + 1) (i + 1 + n) = mkS (t.take n) := by rw [mkS_ext, ht, show i + 1 + n - (i + 1) = n by omega]
          obtain ⟨m, hm⟩ : ∃ m, m = min v.length 65537 := ⟨_, rfl⟩
          have hmin : min ((v.length : Nat) : Int) 65537 = (m : Int) := by omega
          have hvl : (mkS v).size = v.length := rfl
          have hvt : (mkS (v.take m)).size = m := by show (v.take m).length = m; rw [List.length_take]; omega
          ((conv => whnf); repeat (any_goals (first | ((refine IdxH.nat i rfl (by omega) ?_; (conv => whnf); rw [hc]); (conv => whnf)) | ((refine BndH.nat (i + 1 + n) (by omega) (by omega) ?_); (conv => whnf)) | ((refine BndH.nat m hmin (by omega) ?_; (conv => whnf); rw [mkS_take]); (conv => whnf)) | ((refine SemH.var (hv.ext (by exact Vc.xt)) ?_; rw [hW, hv']); (conv => whnf)) | ((refine NextH.appY (y := v.take m) (m := (mkS (v.take m)).size) ho (Src.str (mkS (v.take m))) (by omega) (by omega) (by omega) ⟨_, rfl, fun _ h => by cases h⟩ ?_; intro a2 c2 H2 ho2 hw2); (conv => whnf)) | ((refine BndH.nat (i + 1) (by omega) (by omega) ?_; (conv => whnf); first | rw [hkey] | rw [mkS_drop, ht]); (conv => whnf)) | ((refine (hnm _).mono ?_; rintro _ _ ⟨rfl, rfl⟩); (conv => whnf)) | (refine Vc.stp ?_; intros; (conv => whnf)))))
          have hx2 : Ext H H2 := hx1.wr ho (Nat.le_refl _) hw2
          have hll2 : (l ++ v.take m).length = l.length + (mkS (v.take m)).size := by rw [List.length_append]; rfl
          refine ⟨⟨i + n + 1, l ++ v.take m, a2, c2⟩, ⟨rfl, by show Value.slice _ _ _ = Value.slice _ _ _; rw [hll2], trivial⟩, ⟨by show i + n + 1 ≤ _; omega, by show (l ++ v.take m).length ≤ _; omega, by show Own _ _ _ 1 _ (l ++ v.take m).length _ _; rw [hll2]; exact ho2, ?_, hx2⟩, by show s.length - (i + n + 1) < s.length - i; omega⟩
          show _ = ((l ++ v.take m) ++ fillF W (s.drop (i + n + 1))).take 65537
          rw [hinv, take_cutv l v _ m hm, ← ht, List.drop_drop, show i + 1 + n = i + n + 1 by omega]
    · rw [List.take_append_of_le_length (by omega)] at hinv
      (obtain ⟨M, hM⟩ : ∃ M, M = min l.length 65537 := ⟨_, rfl⟩; have hmn : min ((l.length : Nat) : Int) 65537 = (M : Int) := (by omega); have hcl := ho.cap_le; have hrow := ho.row.take M; rw [strV_take] at hrow; have hMl : (l.take M).length = M := (by rw [List.length_take]; omega); have hfin : l.take M = l.take 65537 := (by rcases Nat.lt_or_ge 65537 l.length with h | h; (rw [show M = 65537 by omega]); (rw [List.take_of_length_le (by omega), List.take_of_length_le (by omega)])); ((conv => whnf); repeat (any_goals (first | ((refine BndH.nat M hmn (by omega) ?_); (conv => whnf)) | ((refine to_string' (l := l.take M) rfl rfl rfl hrow hMl ?_); (conv => whnf)) | (refine Vc.stp ?_; intros; (conv => whnf))))); exact ⟨(by rw [hinv, ← hfin]; rfl), hx1⟩)
  · rw [List.drop_of_length_le (by omega), fillF_nil, List.append_nil] at hinv
    (obtain ⟨M, hM⟩ : ∃ M, M = min l.length 65537 := ⟨_, rfl⟩; have hmn : min ((l.length : Nat) : Int) 65537 = (M : Int) := (by omega); have hcl := ho.cap_le; have hrow := ho.row.take M; rw [strV_take] at hrow; have hMl : (l.take M).length = M := (by rw [List.length_take]; omega); have hfin : l.take M = l.take 65537 := (by rcases Nat.lt_or_ge 65537 l.length with h | h; (rw [show M = 65537 by omega]); (rw [List.take_of_length_le (by omega), List.take_of_length_le (by omega)])); ((conv => whnf); repeat (any_goals (first | ((refine BndH.nat M hmn (by omega) ?_); (conv => whnf)) | ((refine to_string' (l := l.take M) rfl rfl rfl hrow hMl ?_); (conv => whnf)) | (refine Vc.stp ?_; intros; (conv => whnf))))); exact ⟨(by rw [hinv, ← hfin]; rfl), hx1⟩)
end Go.Proofs.YtphkaogbcfdllaaGreatDoor
/- Build scripts at work, the code: the machine, what sets a variable. -/
namespace Go.Proofs.YtphkaogbcfdllaaGreatDoor
open Go Go.Vc Go.Scr Go.Pth Go.Tre Go.Blk Go.Run
/-- a machine's parts -/
structure MP where
  B : Nat
  g : Nat
  go : Nat
  gh : Nat
  gm : Nat
  al : Option Addr
  cl : Nat
  n : Nat
  L : List Ln
  O : List Nat
  Hd : List Nat
  b : Nat
  mb : Nat
  vm : Option Nat
def macC (m : MP) (f : Nat) : Array Value := #[.slice (some ⟨m.go, 0, none⟩) m.n m.n, .slice (some ⟨m.gh, 0, none⟩) m.n m.n, .slice m.al m.n m.cl, .pointer (some ⟨m.b, 0, none⟩), .map m.vm, .slice (some ⟨m.gm, 0, none⟩) m.n m.n, .int .i64 f]
structure Mac (H : Heap) (m : MP) (s : St) (M : List Nat) (f : Nat) : Prop where
  blk : Blk H m.g (macC m f) 139
  oth : Tab H m.B m.go m.n m.O
  hds : Tab H m.B m.gh m.n m.Hd
  mor : Tab H m.B m.gm m.n M
  row : Row H m.al (lnsV m.L)
  len : m.L.length = m.n
  small : m.n ≤ 1000000
  lens : ∀ x ∈ m.L, x.a.length ≤ 1000000 ∧ x.b.length ≤ 1000000 ∧ x.tx.length ≤ 1000000 ∧ x.n ≤ 1000000
  bnd : ∀ c ∈ M, c ≤ 1000000
  tree : TreeO no H m.b m.mb s.A
  vars : VarsO H m.vm s.V
  tabs : Go.Blk.Tables (kindsL m.L) m.O m.Hd
  rel : RelM (kindsL m.L) s.at_ s.S M
  okay : Okay s.A
  d1 : m.go ≠ m.gm
  d2 : m.gh ≠ m.gm
  dv : ∀ v, m.vm = some v → v ≠ m.mb
theorem mac_dumb (m : MP) (f : Nat) : ∀ v ∈ (macC m f).toList, dumbV v = true := by simp [macC, dumbV]
theorem Mac.othG {H : Heap} {m : MP} {s : St} {M : List Nat} {f : Nat} (h : Mac H m s M f) : Oth H m.g := .blk h.blk (mac_dumb m f) (by decide)
theorem Mac.klen {H : Heap} {m : MP} {s : St} {M : List Nat} {f : Nat} (h : Mac H m s M f) : (kindsL m.L).length = m.n := by rw [kinds_len, h.len]
theorem Mac.vm4 {H : Heap} {m : MP} {s : St} {M : List Nat} {f : Nat} (h : Mac H m s M f) : hcell H ⟨m.g, 4, none⟩ = some (.map m.vm) := by rw [h.blk.cell]; rfl
/-- the blocks that a step writes -/
def doM (m : MP) (x : Nat) : Prop := x = m.b ∨ x = m.mb ∨ m.vm = some x ∨ x = m.gm
theorem vars_map {H : Heap} {vm : Option Nat} {V : Option Vars} (h : VarsO H vm V) {v : Nat} (e : vm = some v) : ∃ W, V = some W ∧ MapO H v (varV W) := by
  subst e
  cases V with
  | none => exact h.elim
  | some W => exact ⟨W, rfl, h⟩
/-- what stays of a machine when the blocks of a step are written -/
theorem Mac.keep {H H' : Heap} {m : MP} {s s' : St} {M M' : List Nat} {f : Nat} (h : Mac H m s M f) (k : Only (doM m) H H') (hm : Tab H' m.B m.gm m.n M') (ht : TreeO no H' m.b m.mb s'.A) (hv : VarsO H' m.vm s'.V) (hr : RelM (kindsL m.L) s'.at_ s'.S M') (ho : Okay s'.A) (hbd : ∀ c ∈ M', c ≤ 1000000) : Mac H' m s' M' f := by
  have hMl : M.length = m.n := by rw [h.rel.len, h.klen]
  have hgm := h.mor.blk hMl
  have notG : ∀ {g : Nat} {c : Array Value} {t : TypeId}, Blk H g c t → t ≠ 133 → g ≠ m.gm → ¬ doM m g := by
    intro g c t hb ht' hg hd
    rcases hd with e | e | e | e
    · subst e; exact ht' (blk_one hb h.tree.blk).1
    · exact h.tree.map.ne hb e.symm
    · obtain ⟨W, _, hW⟩ := vars_map h.vars e
      exact hW.ne hb rfl
    · exact hg e
  have hgG : m.g ≠ m.gm := fun e => by
    have h1 := h.blk
    rw [e] at h1
    exact absurd (blk_one h1 hgm).1 (by decide)
  have hOl : m.O.length = m.n := by rw [h.tabs.lenO, h.klen]
  have hHl : m.Hd.length = m.n := by rw [h.tabs.lenH, h.klen]
  have tabK : ∀ {g : Nat} {l : List Nat}, Tab H m.B g m.n l → l.length = m.n → g ≠ m.gm → Tab H' m.B g m.n l := by
    intro g l ht' hl hg
    exact ht'.keep k fun p hp hd => by
      cases hp
      exact notG (ht'.blk hl) (by decide) hg hd
  refine ⟨h.blk.keep k (notG h.blk (by decide) hgG), tabK h.oth hOl h.d1, tabK h.hds hHl h.d2, hm, lns_dumb h.row k fun x hx _ => ?_, h.len, h.small, h.lens, hbd, ht, hv, h.tabs, hr, ho, h.d1, h.d2, h.dv⟩
  rcases hx with e | e | e | e
  · subst e; exact h.tree.oth.dumb
  · subst e; exact h.tree.map.oth.dumb
  · obtain ⟨W, _, hW⟩ := vars_map h.vars e
    exact .map hW
  · subst e; exact (h.mor.dumb hMl).dumb
theorem Mac.ext {H H' : Heap} {m : MP} {s : St} {M : List Nat} {f : Nat} (h : Mac H m s M f) (k : Ext H H') : Mac H' m s M f :=
  h.keep k.only (h.mor.ext k) (h.tree.ext k) (h.vars.ext k) h.rel h.okay h.bnd
/-- a step on the tree -/
theorem Mac.did {H H1 H' : Heap} {m : MP} {s : St} {M : List Nat} {f : Nat} {v : Value} {r : Tr × Nat} (h : Mac H m s M f) (k : Ext H H1) (hd : Did no H1 H' m.b m.mb v r) (ho : Okay r.1) (hh : hdF (kindsL m.L) (s.at_ + 1) = hdF (kindsL m.L) s.at_) :
    Mac H' m (doneF s r).1 M f ∧ Only (doM m) H H' := by
  have h1 := h.ext k
  have hMl : M.length = m.n := by rw [h.rel.len, h.klen]
  have hx : Only (doM m) H1 H' := hd.only.mono fun x e => e.elim .inl fun e => .inr (.inl e)
  refine ⟨h1.keep hx (h1.mor.keep hd.only fun p hp e => ?_) hd.tree (h1.vars.keep hd.only fun v hv e => ?_) (h1.rel.same hh) ho h.bnd, k.only.trans hx fun _ _ e => e⟩
  · cases hp
    have hb := h1.mor.blk hMl
    rcases e with e | e
    · dsimp only at e; rw [e] at hb; exact absurd (blk_one hb h1.tree.blk).1 (by decide)
    · exact h1.tree.map.ne hb e.symm
  · obtain ⟨W, _, hW⟩ := vars_map h1.vars hv
    rcases e with e | e
    · exact hW.ne h1.tree.blk e
    · exact h.dv v hv e
/-- a step on how often a repeat is still to go -/
theorem Mac.more {H H1 H' : Heap} {m : MP} {s s' : St} {M M' : List Nat} {f : Nat} (h : Mac H m s M f) (k : Ext H H1) (hm : Tab H' m.B m.gm m.n M') (hb : But m.gm H1 H') (hA : s'.A = s.A) (hV : s'.V = s.V) (hr : RelM (kindsL m.L) s'.at_ s'.S M') (hbd : ∀ c ∈ M', c ≤ 1000000) :
    Mac H' m s' M' f ∧ Only (doM m) H H' := by
  have h1 := h.ext k
  have hMl : M.length = m.n := by rw [h.rel.len, h.klen]
  have hgm := h1.mor.blk hMl
  have hx : Only (doM m) H1 H' := hb.mono fun x e => .inr (.inr (.inr e))
  refine ⟨h1.keep hx hm ?_ ?_ hr (by rw [hA]; exact h1.okay) hbd, k.only.trans hx fun _ _ e => e⟩
  · rw [hA]
    refine h1.tree.keep hb (fun e => ?_) (fun e => h1.tree.map.ne hgm e) fun x e _ => by subst e; exact .inl (h1.mor.dumb hMl)
    have h2 := h1.tree.blk
    rw [e] at h2
    exact absurd (blk_one h2 hgm).1 (by decide)
  · rw [hV]
    exact h1.vars.keep hb fun v hv e => by
      obtain ⟨W, _, hW⟩ := vars_map h1.vars hv
      exact hW.ne hgm e
/-- a step that only goes to another line -/
theorem Mac.to {H H' : Heap} {m : MP} {s s' : St} {M : List Nat} {f : Nat} (h : Mac H m s M f) (k : Ext H H') (hA : s'.A = s.A) (hV : s'.V = s.V) (hr : RelM (kindsL m.L) s'.at_ s'.S M) : Mac H' m s' M f ∧ Only (doM m) H H' :=
  ⟨h.keep k.only (h.mor.ext k) (by rw [hA]; exact h.tree.ext k) (by rw [hV]; exact h.vars.ext k) hr (by rw [hA]; exact h.okay) h.bnd, k.only⟩
/-- a step that sets a variable -/
theorem Mac.set {H H1 H' : Heap} {m : MP} {s s' : St} {M : List Nat} {f : Nat} (h : Mac H m s M f) (k : Ext H H1) (hA : s'.A = s.A) (hv : VarsO H' m.vm s'.V) (hb : Only (fun y => m.vm = some y) H1 H') (hr : RelM (kindsL m.L) s'.at_ s'.S M) : Mac H' m s' M f ∧ Only (doM m) H H' := by
  have h1 := h.ext k
  have hMl : M.length = m.n := by rw [h.rel.len, h.klen]
  have hx : Only (doM m) H1 H' := hb.mono fun x e => .inr (.inr (.inl e))
  refine ⟨h1.keep hx (h1.mor.keep hb fun p hp e => ?_) ?_ hv hr (by rw [hA]; exact h1.okay) h.bnd, k.only.trans hx fun _ _ e => e⟩
  · cases hp
    obtain ⟨W, _, hW⟩ := vars_map h1.vars e
    exact hW.ne (h1.mor.blk hMl) rfl
  · rw [hA]
    refine h1.tree.keep hb (fun e => ?_) (fun e => h.dv _ e rfl) fun x e _ => ?_
    · obtain ⟨W, _, hW⟩ := vars_map h1.vars e
      exact hW.ne h1.tree.blk rfl
    · obtain ⟨W, _, hW⟩ := vars_map h1.vars e
      exact .inl (.map hW)
end Go.Proofs.YtphkaogbcfdllaaGreatDoor
/- Build scripts at work, the code: a line that sets a variable; how far behind an else. -/
namespace Go.Proofs.YtphkaogbcfdllaaGreatDoor
open Go Go.Vc Go.Scr Go.Pth Go.Tre Go.Blk Go.Run
theorem mapNe {vm : Option Nat} {o1 o2 : Operand} {K : Value → Prop} (hk : K (.bool vm.isSome)) : PureH Tryz.prog (do eqGuard .neq 44 o1 o2 (.map vm) (.map none); binOp .neq 44 (.map vm) (.map none)) K := by
  refine ⟨⟨_, fun w => ?_, hk⟩⟩
  cases vm <;> rfl
structure SetV (H H' : Heap) (vm : Option Nat) (V : Option Vars) (x : Ln) (v : Value) : Prop where
  out : if isName x.a = false then v = .int .i64 72 ∧ Ext H H'
  else if 65536 < (fillF (varsF V) x.tx).length then v = .int .i64 55 ∧ Ext H H'
  else v = .int .i64 0 ∧ ∃ H1, Ext H H1 ∧ VarsO H' vm (V.map fun V => mput V x.a (fillF V x.tx)) ∧ Only (fun y => vm = some y) H1 H'
theorem vset_any (g : Nat) (vm : Option Nat) (V : Option Vars) (x : Ln) (hxa : x.a.length ≤ 1000000000) (hxt : x.tx.length ≤ 1000000000) (H : Heap) (hv : VarsO H vm V) (hvm : hcell H ⟨g, 4, none⟩ = some (.map vm)) :
    CallH Tryz.prog 115 [.pointer (some ⟨g, 0, none⟩), .agg (lnC x)] H fun v H' => SetV H H' vm V x v := by
  have e0 := eq_empty x.a
  have hsz : (mkS x.a).size = x.a.length := rfl
  obtain ⟨F, hF⟩ : ∃ F, fillF (varsF V) x.tx = F := ⟨_, rfl⟩
  have hFs : (mkS (F.take 65537)).size = min 65537 F.length := by show (F.take 65537).length = _; exact List.length_take
  refine Vc.CallH.body Tryz.func115 Tryz.call115 rfl (by decide +kernel) rfl ?_
  by_cases ha : x.a = []
  · rw [decide_eq_true ha] at e0
    have hn : isName x.a = false := by unfold isName; rw [decide_eq_false_iff_not]; exact fun h => h.1 ha
    ((conv => whnf); repeat (any_goals (first | ((refine (vtext_any g _ _ x.tx hxt _ (hv.ext (by exact Vc.xt)) (hcell_keep hvm (by exact Vc.xt) id)).mono ?_; rintro _ H3 ⟨rfl, hx3⟩; have hz3 := hx3.size; rw [hF]); (conv => whnf)) | (((with_reducible apply mapNe); (focus ((conv => whnf)))); (conv => whnf)) | ((refine (named_any x.a hxa _).mono ?_; rintro _ _ ⟨rfl, rfl⟩); (conv => whnf)) | (((with_reducible refine Vc.DrawH.held [0, 1, 2, 3, 4, 5, 7, 8, 9, 6, 10, 11, 12] [(6, [8])] mixed (by decide +kernel) ?_)); (conv => whnf)) | (refine Vc.stp ?_; intros; (conv => whnf)))))
    exact ⟨by rw [if_pos hn]; exact ⟨rfl, by exact Vc.xt⟩⟩
  rw [decide_eq_false ha] at e0
  by_cases hb : nameN x.a = x.a.length
  · have hn : isName x.a = true := by unfold isName; rw [decide_eq_true_eq]; exact ⟨ha, hb⟩
    by_cases hc : 65536 < F.length
    · ((conv => whnf); repeat (any_goals (first | ((refine (vtext_any g _ _ x.tx hxt _ (hv.ext (by exact Vc.xt)) (hcell_keep hvm (by exact Vc.xt) id)).mono ?_; rintro _ H3 ⟨rfl, hx3⟩; have hz3 := hx3.size; rw [hF]); (conv => whnf)) | (((with_reducible apply mapNe); (focus ((conv => whnf)))); (conv => whnf)) | ((refine (named_any x.a hxa _).mono ?_; rintro _ _ ⟨rfl, rfl⟩); (conv => whnf)) | (((with_reducible refine Vc.DrawH.held [0, 1, 2, 3, 4, 5, 7, 8, 9, 6, 10, 11, 12] [(6, [8])] mixed (by decide +kernel) ?_)); (conv => whnf)) | (refine Vc.stp ?_; intros; (conv => whnf)))))
      exact ⟨by rw [if_neg (by rw [hn]; decide), hF, if_pos hc]; exact ⟨rfl, by exact Vc.xt⟩⟩
    · have hFt : F.take 65537 = F := List.take_of_length_le (by omega)
      cases vm with
      | none =>
        cases V with
        | some W => exact hv.elim
        | none =>
          ((conv => whnf); repeat (any_goals (first | ((refine (vtext_any g _ _ x.tx hxt _ (hv.ext (by exact Vc.xt)) (hcell_keep hvm (by exact Vc.xt) id)).mono ?_; rintro _ H3 ⟨rfl, hx3⟩; have hz3 := hx3.size; rw [hF]); (conv => whnf)) | (((with_reducible apply mapNe); (focus ((conv => whnf)))); (conv => whnf)) | ((refine (named_any x.a hxa _).mono ?_; rintro _ _ ⟨rfl, rfl⟩); (conv => whnf)) | (((with_reducible refine Vc.DrawH.held [0, 1, 2, 3, 4, 5, 7, 8, 9, 6, 10, 11, 12] [(6, [8])] mixed (by decide +kernel) ?_)); (conv => whnf)) | (refine Vc.stp ?_; intros; (conv => whnf)))))
          exact ⟨by rw [if_neg (by rw [hn]; decide), hF, if_neg hc]; exact ⟨rfl, H3, by exact Vc.xt, trivial, Only.refl _ _⟩⟩
      | some b =>
        cases V with
        | none => exact hv.elim
        | some W =>
          have hmo : ∀ {H' : Heap}, Ext H H' → MapO H' b (varV W) := fun k => hv.ext k
          ((conv => whnf); repeat (any_goals (first | ((refine (vtext_any g _ _ x.tx hxt _ (hv.ext (by exact Vc.xt)) (hcell_keep hvm (by exact Vc.xt) id)).mono ?_; rintro _ H3 ⟨rfl, hx3⟩; have hz3 := hx3.size; rw [hF]); (conv => whnf)) | (((with_reducible apply mapNe); (focus ((conv => whnf)))); (conv => whnf)) | ((refine (named_any x.a hxa _).mono ?_; rintro _ _ ⟨rfl, rfl⟩); (conv => whnf)) | ((refine CondH.pos (show (some b).isSome = true from rfl) ?_); (conv => whnf)) | (((with_reducible apply DoH.mapPut); (focus ((exact hmo (by exact Vc.xt)))); (focus (rfl)); (focus (rfl)); (focus ((intro H4 hz4 hm4 hb4; (conv => whnf))))); (conv => whnf)) | (((with_reducible refine Vc.DrawH.held [0, 1, 2, 3, 4, 5, 7, 8, 9, 6, 10, 11, 12] [(6, [8])] mixed (by decide +kernel) ?_)); (conv => whnf)) | (refine Vc.stp ?_; intros; (conv => whnf)))))
          rw [hFt, var_put] at hm4
          have hvv : VarsO H4 (some b) ((some W).map fun V => mput V x.a (fillF V x.tx)) := by
            show MapO H4 b (varV (mput W x.a (fillF W x.tx)))
            rw [show fillF W x.tx = F from hF]; exact hm4
          exact ⟨by rw [if_neg (by rw [hn]; decide), hF, if_neg hc]; exact ⟨rfl, H3, by exact Vc.xt, hvv, hb4.mono fun y e => by rw [e]⟩⟩
  · have hn : isName x.a = false := by unfold isName; rw [decide_eq_false_iff_not]; exact fun h => hb h.2
    ((conv => whnf); repeat (any_goals (first | ((refine (vtext_any g _ _ x.tx hxt _ (hv.ext (by exact Vc.xt)) (hcell_keep hvm (by exact Vc.xt) id)).mono ?_; rintro _ H3 ⟨rfl, hx3⟩; have hz3 := hx3.size; rw [hF]); (conv => whnf)) | (((with_reducible apply mapNe); (focus ((conv => whnf)))); (conv => whnf)) | ((refine (named_any x.a hxa _).mono ?_; rintro _ _ ⟨rfl, rfl⟩); (conv => whnf)) | (((with_reducible refine Vc.DrawH.held [0, 1, 2, 3, 4, 5, 7, 8, 9, 6, 10, 11, 12] [(6, [8])] mixed (by decide +kernel) ?_)); (conv => whnf)) | (refine Vc.stp ?_; intros; (conv => whnf)))))
    exact ⟨by rw [if_pos hn]; exact ⟨rfl, by exact Vc.xt⟩⟩
theorem behind_any {m : MP} {s : St} {M : List Nat} {f : Nat} {H : Heap} (h : Mac H m s M f) {i o : Nat} {y : Ln} (hi : i < m.n) (hO : m.O[i]? = some o) (hy : m.L[o]? = some y) :
    CallH Tryz.prog 116 [.pointer (some ⟨m.g, 0, none⟩), .int .i64 i] H fun v H' => v = .int .i64 (if y.k = 9 then 1 else 0) ∧ H = H' := by
  have hb := h.blk
  have ho := (List.getElem?_eq_some_iff.1 hy).1
  have hol : o < m.n := by rw [← h.len]; exact ho
  refine Vc.CallH.body Tryz.func116 Tryz.call116 rfl (by decide +kernel) rfl ?_
  unfold macC at hb
  by_cases h9 : y.k = 9
  · rw [if_pos h9]
    ((conv => whnf); repeat (any_goals (first | ((refine IdxA.at1 i rfl hi ?_); (conv => whnf)) | (((with_reducible apply SemH.load); (focus (rfl)); (focus ((exact Own.hcell h.oth (nat_get hO)))); (focus ((conv => whnf)))); (conv => whnf)) | ((refine IdxA.ln h.row h.len o y rfl hy ?_; intro _ _ hci; have hc0 := hci 0 _ rfl); (conv => whnf)) | (refine Vc.stp ?_; intros; (conv => whnf)))))
    exact ⟨rfl, rfl⟩
  · rw [if_neg h9]
    ((conv => whnf); repeat (any_goals (first | ((refine IdxA.at1 i rfl hi ?_); (conv => whnf)) | (((with_reducible apply SemH.load); (focus (rfl)); (focus ((exact Own.hcell h.oth (nat_get hO)))); (focus ((conv => whnf)))); (conv => whnf)) | ((refine IdxA.ln h.row h.len o y rfl hy ?_; intro _ _ hci; have hc0 := hci 0 _ rfl); (conv => whnf)) | (refine Vc.stp ?_; intros; (conv => whnf)))))
    exact ⟨rfl, rfl⟩
end Go.Proofs.YtphkaogbcfdllaaGreatDoor
/- Build scripts at work, the code: a line done. -/
namespace Go.Proofs.YtphkaogbcfdllaaGreatDoor
open Go Go.Vc Go.Scr Go.Pth Go.Tre Go.Blk Go.Run
structure DoneM (H H' : Heap) (m : MP) (s : St) (x : Ln) (f : Nat) (v : Value) : Prop where
  out : ∃ (nx : Nat) (M' : List Nat), v = .tuple #[.int .i64 nx, .int .i64 (stepP (kindsL m.L) x s).2] ∧ ((stepP (kindsL m.L) x s).2 = 0 → nx = (stepP (kindsL m.L) x s).1.at_) ∧ Mac H' m (stepP (kindsL m.L) x s).1 M' f ∧ Only (doM m) H H'
theorem ends_rep {K : List Nat} (hn : Nested K) {h : Nat} (hk : K[h]? = some 8) : (endsF K h).1 = none := by
  cases hel : (endsF K h).1 with
  | none => rfl
  | some x =>
    obtain ⟨h9, hd⟩ := (ends_of hn hk (.inr rfl)).els x hel
    obtain ⟨h', t, e, h7, _⟩ := else_head hn h9
    rw [hd_else h9] at hd
    unfold hdF at hd
    rw [e, List.map_cons, List.cons.injEq] at hd
    rw [show h' = h from hd.1, hk] at h7
    cases h7
theorem DoneM.did {H H1 H' : Heap} {m : MP} {s : St} {M : List Nat} {f k : Nat} {x : Ln} {v v' : Value} {r : Tr × Nat} (h : Mac H m s M f) (hk : (kindsL m.L)[s.at_]? = some k) (hne : ¬ (k = 7 ∨ k = 8) ∧ k ≠ 9 ∧ k ≠ 10) (e : stepP (kindsL m.L) x s = doneF s r) (ho : Okay r.1) (k1 : Ext H H1) (hd : Did no H1 H' m.b m.mb v r) (hv : v' = .tuple #[.int .i64 ((s.at_ : Int) + 1), .int .i64 r.2]) : DoneM H H' m s x f v' := by
  obtain ⟨h1, h2⟩ := h.did k1 hd ho (hd_other hk hne.1 hne.2.1 hne.2.2)
  exact ⟨s.at_ + 1, M, by rw [e, hv]; rfl, fun _ => by rw [e]; rfl, by rw [e]; exact h1, h2⟩
/-- a line that goes to another one -/
theorem DoneM.to {H H' : Heap} {m : MP} {s s' : St} {M' : List Nat} {f nx : Nat} {x : Ln} {v : Value} {e : Nat} (es : stepP (kindsL m.L) x s = (s', e)) (hm : Mac H' m s' M' f) (hx : Only (doM m) H H') (hv : v = .tuple #[.int .i64 nx, .int .i64 e]) (hn : e = 0 → nx = s'.at_) : DoneM H H' m s x f v :=
  ⟨nx, M', by rw [es]; exact hv, fun h => by rw [es] at h ⊢; exact hn h, by rw [es]; exact hm, hx⟩
set_option maxHeartbeats 8000000 in
theorem do_any {m : MP} {s : St} {M : List Nat} {f : Nat} {H : Heap} (h : Mac H m s M f) (hn : Nested (kindsL m.L)) {x : Ln} (hx : m.L[s.at_]? = some x) :
    CallH Tryz.prog 61 [.pointer (some ⟨m.g, 0, none⟩), .int .i64 s.at_] H fun v H' => DoneM H H' m s x f v := by
  have hb := h.blk
  unfold macC at hb
  have hxl := (List.getElem?_eq_some_iff.1 hx).1
  rw [h.len] at hxl
  have hsm := h.small
  have hgl := hb.lt
  obtain ⟨hla, hlb, hlt, hlx⟩ := h.lens x (List.mem_of_getElem? hx)
  have hset : ∀ (i c : Nat), c ≤ 1000000 → ∀ d ∈ M.set i c, d ≤ 1000000 := fun i c hc d hd => by
    rcases List.mem_or_eq_of_mem_set hd with hd | rfl
    · exact h.bnd d hd
    · exact hc
  have hla : x.a.length ≤ 1000000000 := by omega
  have hlb : x.b.length ≤ 1000000000 := by omega
  have hlt : x.tx.length ≤ 1000000000 := by omega
  have hk := kinds_get hx
  have ht := fun H' (k : Ext H H') (w : Bs) (hw : w.length ≤ 1000000000) => vtext_any m.g m.vm s.V w hw H' (h.vars.ext k) (hcell_keep h.vm4 k id)
  obtain ⟨W, hW⟩ : ∃ W, varsF s.V = W := ⟨_, rfl⟩
  rw [hW] at ht
  obtain ⟨FA, hFA⟩ : ∃ F, fillF W x.a = F := ⟨_, rfl⟩
  obtain ⟨FB, hFB⟩ : ∃ F, fillF W x.b = F := ⟨_, rfl⟩
  obtain ⟨FT, hFT⟩ : ∃ F, fillF W x.tx = F := ⟨_, rfl⟩
  have hFS : (mkS (FT.take 65537)).size = min 65537 FT.length := by show (FT.take 65537).length = _; exact List.length_take
  have hFw : (mkS (FT.take 65537)).size ≤ 10000000000 := by rw [hFS]; omega
  obtain ⟨k, hxk⟩ : ∃ k, x.k = k := ⟨_, rfl⟩
  rw [hxk] at hk
  by_cases h0 : k = 0
  · refine Vc.CallH.body Tryz.func61 Tryz.call61 rfl (by decide +kernel) rfl ?_
    ((conv => whnf); repeat (any_goals (first | ((refine IdxA.ln h.row h.len s.at_ x rfl hx ?_; intro _ _ hci); (conv => whnf)) | (((with_reducible apply SemH.load_ln); (focus ((exact hci))); (focus ((exact Ext.refl _))); (focus ((conv => whnf)))); (conv => whnf)) | ((refine (ht _ (by exact Vc.xt) x.a hla).mono ?_; rintro _ H2 ⟨rfl, hx2⟩; have hz2 := hx2.size; rw [hFA]); (conv => whnf)) | ((refine (ht _ (by exact Vc.xt) x.b hlb).mono ?_; rintro _ H3 ⟨rfl, hx3⟩; have hz3 := hx3.size; rw [hFB]); (conv => whnf)) | ((refine (copy_any (h.tree.ext (by exact Vc.xt)) h.okay _ _).mono ?_; rintro _ H5 hd; obtain rfl := hd.code; rw [two_cut] at hd ⊢); (conv => whnf)) | (((with_reducible refine Vc.DrawH.held [0, 1, 2, 3, 4, 5, 6, 7, 8, 9, 10] [(8, [3])] mixed (by decide +kernel) ?_)); (conv => whnf)) | (((with_reducible refine Vc.DrawH.held [0, 1, 2, 3, 4, 5, 6, 7, 8, 9, 10] [(8, [3])] mixed (by decide +kernel) ?_)); (conv => whnf)) | (((with_reducible refine Vc.DrawH.held [0, 1, 2, 3, 4, 5, 6, 7, 8, 9, 10, 11] [(8, [3]), (9, [3])] mixed (by decide +kernel) ?_)); (conv => whnf)) | (((with_reducible refine Vc.DrawH.held [0, 1, 2, 3, 4, 5, 6, 7, 8, 9, 10, 11] [(8, [3]), (9, [3])] mixed (by decide +kernel) ?_)); (conv => whnf)) | (((with_reducible refine Vc.DrawH.held [0, 1, 2, 3, 4, 6, 7, 5, 8] [(5, [7])] mixed (by decide +kernel) ?_)); (conv => whnf)) | (((with_reducible refine Vc.DrawH.held [0, 1, 2, 3, 4, 5, 6, 7, 8, 9, 10, 11, 12, 13] [(10, [4, 7])] mixed (by decide +kernel) ?_)); (conv => whnf)) | (refine Vc.stp ?_; intros; (conv => whnf)))))
    exact DoneM.did h hk (by omega) (by unfold stepP; rw [if_pos (by omega : x.k = 0), hW, hFA, hFB]) (Okay.twoF h.okay _ _ _) (show Ext H _ by exact Vc.xt) hd rfl
  by_cases h1 : k = 1
  · refine Vc.CallH.body Tryz.func61 Tryz.call61 rfl (by decide +kernel) rfl ?_
    ((conv => whnf); repeat (any_goals (first | ((refine IdxA.ln h.row h.len s.at_ x rfl hx ?_; intro _ _ hci); (conv => whnf)) | (((with_reducible apply SemH.load_ln); (focus ((exact hci))); (focus ((exact Ext.refl _))); (focus ((conv => whnf)))); (conv => whnf)) | ((refine (ht _ (by exact Vc.xt) x.a hla).mono ?_; rintro _ H2 ⟨rfl, hx2⟩; have hz2 := hx2.size; rw [hFA]); (conv => whnf)) | ((refine (ht _ (by exact Vc.xt) x.tx hlt).mono ?_; rintro _ H3 ⟨rfl, hx3⟩; have hz3 := hx3.size; rw [hFT]); (conv => whnf)) | (((with_reducible apply SemH.of_string); (focus (rfl)); (focus (rfl)); (focus (rfl)); (focus ((rw [hFS]; unfold maxLen; omega))); (focus ((intro c4 H4 ho4 hx4; have hz4 := hx4.size; replace ho4 : Own H4 H3.size 5 1 (some ⟨H3.size, 0, none⟩) (mkS (FT.take 65537)).size c4 (strV (FT.take 65537)) := ho4; (conv => whnf))))); (conv => whnf)) | ((refine (write_any (h.tree.ext (by exact Vc.xt)) h.okay _ _ _ _ _ ho4.row rfl hFw).mono ?_; rintro _ H5 hd; obtain rfl := hd.code; rw [write_cut] at hd ⊢); (conv => whnf)) | (((with_reducible refine Vc.DrawH.held [0, 1, 2, 3, 4, 5, 6, 7, 8, 9, 10] [(8, [3])] mixed (by decide +kernel) ?_)); (conv => whnf)) | (((with_reducible refine Vc.DrawH.held [0, 1, 2, 3, 4, 5, 6, 7, 8, 9, 10] [(8, [3])] mixed (by decide +kernel) ?_)); (conv => whnf)) | (((with_reducible refine Vc.DrawH.held [0, 1, 2, 3, 4, 5, 6, 7, 8, 9, 10, 11] [(8, [3]), (9, [3])] mixed (by decide +kernel) ?_)); (conv => whnf)) | (((with_reducible refine Vc.DrawH.held [0, 1, 2, 3, 4, 5, 6, 7, 8, 9, 10, 11] [(8, [3]), (9, [3])] mixed (by decide +kernel) ?_)); (conv => whnf)) | (((with_reducible refine Vc.DrawH.held [0, 1, 2, 3, 4, 6, 7, 5, 8] [(5, [7])] mixed (by decide +kernel) ?_)); (conv => whnf)) | (((with_reducible refine Vc.DrawH.held [0, 1, 2, 3, 4, 5, 6, 7, 8, 9, 10, 11, 12, 13] [(10, [4, 7])] mixed (by decide +kernel) ?_)); (conv => whnf)) | (refine Vc.stp ?_; intros; (conv => whnf)))))
    exact DoneM.did h hk (by omega) (by unfold stepP; rw [if_neg (by omega : ¬ x.k = 0), if_pos (by omega : x.k = 1), hW, hFA, hFT]) (Okay.writeF h.okay _ _) (show Ext H _ by exact Vc.xt) hd rfl
  by_cases h2 : k = 2
  · refine Vc.CallH.body Tryz.func61 Tryz.call61 rfl (by decide +kernel) rfl ?_
    ((conv => whnf); repeat (any_goals (first | ((refine IdxA.ln h.row h.len s.at_ x rfl hx ?_; intro _ _ hci); (conv => whnf)) | (((with_reducible apply SemH.load_ln); (focus ((exact hci))); (focus ((exact Ext.refl _))); (focus ((conv => whnf)))); (conv => whnf)) | ((refine (ht _ (by exact Vc.xt) x.a hla).mono ?_; rintro _ H2 ⟨rfl, hx2⟩; have hz2 := hx2.size; rw [hFA]); (conv => whnf)) | ((refine (ht _ (by exact Vc.xt) x.tx hlt).mono ?_; rintro _ H3 ⟨rfl, hx3⟩; have hz3 := hx3.size; rw [hFT]); (conv => whnf)) | (((with_reducible apply SemH.of_string); (focus (rfl)); (focus (rfl)); (focus (rfl)); (focus ((rw [hFS]; unfold maxLen; omega))); (focus ((intro c4 H4 ho4 hx4; have hz4 := hx4.size; replace ho4 : Own H4 H3.size 5 1 (some ⟨H3.size, 0, none⟩) (mkS (FT.take 65537)).size c4 (strV (FT.take 65537)) := ho4; (conv => whnf))))); (conv => whnf)) | ((refine (append_any (h.tree.ext (by exact Vc.xt)) h.okay _ _ _ _ _ ho4.row rfl ho4.cap_le hFw).mono ?_; rintro _ H5 hd; obtain rfl := hd.code; rw [Go.Run.append_cut] at hd ⊢); (conv => whnf)) | (((with_reducible refine Vc.DrawH.held [0, 1, 2, 3, 4, 5, 6, 7, 8, 9, 10] [(8, [3])] mixed (by decide +kernel) ?_)); (conv => whnf)) | (((with_reducible refine Vc.DrawH.held [0, 1, 2, 3, 4, 5, 6, 7, 8, 9, 10] [(8, [3])] mixed (by decide +kernel) ?_)); (conv => whnf)) | (((with_reducible refine Vc.DrawH.held [0, 1, 2, 3, 4, 5, 6, 7, 8, 9, 10, 11] [(8, [3]), (9, [3])] mixed (by decide +kernel) ?_)); (conv => whnf)) | (((with_reducible refine Vc.DrawH.held [0, 1, 2, 3, 4, 5, 6, 7, 8, 9, 10, 11] [(8, [3]), (9, [3])] mixed (by decide +kernel) ?_)); (conv => whnf)) | (((with_reducible refine Vc.DrawH.held [0, 1, 2, 3, 4, 6, 7, 5, 8] [(5, [7])] mixed (by decide +kernel) ?_)); (conv => whnf)) | (((with_reducible refine Vc.DrawH.held [0, 1, 2, 3, 4, 5, 6, 7, 8, 9, 10, 11, 12, 13] [(10, [4, 7])] mixed (by decide +kernel) ?_)); (conv => whnf)) | (refine Vc.stp ?_; intros; (conv => whnf)))))
    exact DoneM.did h hk (by omega) (by unfold stepP; rw [if_neg (by omega : ¬ x.k = 0), if_neg (by omega : ¬ x.k = 1), if_pos (by omega : x.k = 2), hW, hFA, hFT]) (Okay.appendF h.okay _ _) (show Ext H _ by exact Vc.xt) hd rfl
  by_cases h3 : k = 3
  · refine Vc.CallH.body Tryz.func61 Tryz.call61 rfl (by decide +kernel) rfl ?_
    ((conv => whnf); repeat (any_goals (first | ((refine IdxA.ln h.row h.len s.at_ x rfl hx ?_; intro _ _ hci); (conv => whnf)) | (((with_reducible apply SemH.load_ln); (focus ((exact hci))); (focus ((exact Ext.refl _))); (focus ((conv => whnf)))); (conv => whnf)) | ((refine (ht _ (by exact Vc.xt) x.a hla).mono ?_; rintro _ H2 ⟨rfl, hx2⟩; have hz2 := hx2.size; rw [hFA]); (conv => whnf)) | ((refine (mkdir_any (h.tree.ext (by exact Vc.xt)) h.okay _).mono ?_; rintro _ H5 hd; obtain rfl := hd.code; rw [mkdir_cut] at hd ⊢); (conv => whnf)) | (((with_reducible refine Vc.DrawH.held [0, 1, 2, 3, 4, 5, 6, 7, 8, 9, 10] [(8, [3])] mixed (by decide +kernel) ?_)); (conv => whnf)) | (((with_reducible refine Vc.DrawH.held [0, 1, 2, 3, 4, 5, 6, 7, 8, 9, 10] [(8, [3])] mixed (by decide +kernel) ?_)); (conv => whnf)) | (((with_reducible refine Vc.DrawH.held [0, 1, 2, 3, 4, 5, 6, 7, 8, 9, 10, 11] [(8, [3]), (9, [3])] mixed (by decide +kernel) ?_)); (conv => whnf)) | (((with_reducible refine Vc.DrawH.held [0, 1, 2, 3, 4, 5, 6, 7, 8, 9, 10, 11] [(8, [3]), (9, [3])] mixed (by decide +kernel) ?_)); (conv => whnf)) | (((with_reducible refine Vc.DrawH.held [0, 1, 2, 3, 4, 6, 7, 5, 8] [(5, [7])] mixed (by decide +kernel) ?_)); (conv => whnf)) | (((with_reducible refine Vc.DrawH.held [0, 1, 2, 3, 4, 5, 6, 7, 8, 9, 10, 11, 12, 13] [(10, [4, 7])] mixed (by decide +kernel) ?_)); (conv => whnf)) | (refine Vc.stp ?_; intros; (conv => whnf)))))
    exact DoneM.did h hk (by omega) (by unfold stepP; rw [if_neg (by omega : ¬ x.k = 0), if_neg (by omega : ¬ x.k = 1), if_neg (by omega : ¬ x.k = 2), if_pos (by omega : x.k = 3), hW, hFA]) (Okay.mkdirF h.okay _) (show Ext H _ by exact Vc.xt) hd rfl
  by_cases h4 : k = 4
  · refine Vc.CallH.body Tryz.func61 Tryz.call61 rfl (by decide +kernel) rfl ?_
    ((conv => whnf); repeat (any_goals (first | ((refine IdxA.ln h.row h.len s.at_ x rfl hx ?_; intro _ _ hci); (conv => whnf)) | (((with_reducible apply SemH.load_ln); (focus ((exact hci))); (focus ((exact Ext.refl _))); (focus ((conv => whnf)))); (conv => whnf)) | ((refine (ht _ (by exact Vc.xt) x.a hla).mono ?_; rintro _ H2 ⟨rfl, hx2⟩; have hz2 := hx2.size; rw [hFA]); (conv => whnf)) | ((refine (remove_any (h.tree.ext (by exact Vc.xt)) h.okay _).mono ?_; rintro _ H5 hd; obtain rfl := hd.code; rw [remove_cut] at hd ⊢); (conv => whnf)) | (((with_reducible refine Vc.DrawH.held [0, 1, 2, 3, 4, 5, 6, 7, 8, 9, 10] [(8, [3])] mixed (by decide +kernel) ?_)); (conv => whnf)) | (((with_reducible refine Vc.DrawH.held [0, 1, 2, 3, 4, 5, 6, 7, 8, 9, 10] [(8, [3])] mixed (by decide +kernel) ?_)); (conv => whnf)) | (((with_reducible refine Vc.DrawH.held [0, 1, 2, 3, 4, 5, 6, 7, 8, 9, 10, 11] [(8, [3]), (9, [3])] mixed (by decide +kernel) ?_)); (conv => whnf)) | (((with_reducible refine Vc.DrawH.held [0, 1, 2, 3, 4, 5, 6, 7, 8, 9, 10, 11] [(8, [3]), (9, [3])] mixed (by decide +kernel) ?_)); (conv => whnf)) | (((with_reducible refine Vc.DrawH.held [0, 1, 2, 3, 4, 6, 7, 5, 8] [(5, [7])] mixed (by decide +kernel) ?_)); (conv => whnf)) | (((with_reducible refine Vc.DrawH.held [0, 1, 2, 3, 4, 5, 6, 7, 8, 9, 10, 11, 12, 13] [(10, [4, 7])] mixed (by decide +kernel) ?_)); (conv => whnf)) | (refine Vc.stp ?_; intros; (conv => whnf)))))
    exact DoneM.did h hk (by omega) (by unfold stepP; rw [if_neg (by omega : ¬ x.k = 0), if_neg (by omega : ¬ x.k = 1), if_neg (by omega : ¬ x.k = 2), if_neg (by omega : ¬ x.k = 3), if_pos (by omega : x.k = 4), hW, hFA]) (Okay.removeF h.okay _) (show Ext H _ by exact Vc.xt) hd rfl
  by_cases h5 : k = 5
  · refine Vc.CallH.body Tryz.func61 Tryz.call61 rfl (by decide +kernel) rfl ?_
    ((conv => whnf); repeat (any_goals (first | ((refine IdxA.ln h.row h.len s.at_ x rfl hx ?_; intro _ _ hci); (conv => whnf)) | (((with_reducible apply SemH.load_ln); (focus ((exact hci))); (focus ((exact Ext.refl _))); (focus ((conv => whnf)))); (conv => whnf)) | ((refine (ht _ (by exact Vc.xt) x.a hla).mono ?_; rintro _ H2 ⟨rfl, hx2⟩; have hz2 := hx2.size; rw [hFA]); (conv => whnf)) | ((refine (ht _ (by exact Vc.xt) x.b hlb).mono ?_; rintro _ H3 ⟨rfl, hx3⟩; have hz3 := hx3.size; rw [hFB]); (conv => whnf)) | ((refine (rename_any (h.tree.ext (by exact Vc.xt)) h.okay _ _).mono ?_; rintro _ H5 hd; obtain rfl := hd.code; rw [two_cut] at hd ⊢); (conv => whnf)) | (((with_reducible refine Vc.DrawH.held [0, 1, 2, 3, 4, 5, 6, 7, 8, 9, 10] [(8, [3])] mixed (by decide +kernel) ?_)); (conv => whnf)) | (((with_reducible refine Vc.DrawH.held [0, 1, 2, 3, 4, 5, 6, 7, 8, 9, 10] [(8, [3])] mixed (by decide +kernel) ?_)); (conv => whnf)) | (((with_reducible refine Vc.DrawH.held [0, 1, 2, 3, 4, 5, 6, 7, 8, 9, 10, 11] [(8, [3]), (9, [3])] mixed (by decide +kernel) ?_)); (conv => whnf)) | (((with_reducible refine Vc.DrawH.held [0, 1, 2, 3, 4, 5, 6, 7, 8, 9, 10, 11] [(8, [3]), (9, [3])] mixed (by decide +kernel) ?_)); (conv => whnf)) | (((with_reducible refine Vc.DrawH.held [0, 1, 2, 3, 4, 6, 7, 5, 8] [(5, [7])] mixed (by decide +kernel) ?_)); (conv => whnf)) | (((with_reducible refine Vc.DrawH.held [0, 1, 2, 3, 4, 5, 6, 7, 8, 9, 10, 11, 12, 13] [(10, [4, 7])] mixed (by decide +kernel) ?_)); (conv => whnf)) | (refine Vc.stp ?_; intros; (conv => whnf)))))
    exact DoneM.did h hk (by omega) (by unfold stepP; rw [if_neg (by omega : ¬ x.k = 0), if_neg (by omega : ¬ x.k = 1), if_neg (by omega : ¬ x.k = 2), if_neg (by omega : ¬ x.k = 3), if_neg (by omega : ¬ x.k = 4), if_pos (by omega : x.k = 5), hW, hFA, hFB]) (Okay.twoF h.okay _ _ _) (show Ext H _ by exact Vc.xt) hd rfl
  have hgml := (h.mor.blk (by rw [h.rel.len, h.klen])).lt
  have hggm : m.g ≠ m.gm := fun e => by
    have h1 := h.blk
    rw [e] at h1
    exact absurd (blk_one h1 (h.mor.blk (by rw [h.rel.len, h.klen]))).1 (by decide)
  by_cases h6 : k = 6
  · have hsetv := fun H' (k : Ext H H') => vset_any m.g m.vm s.V x hla hlt H' (h.vars.ext k) (hcell_keep h.vm4 k id)
    refine Vc.CallH.body Tryz.func61 Tryz.call61 rfl (by decide +kernel) rfl ?_
    ((conv => whnf); repeat (any_goals (first | ((refine IdxA.ln h.row h.len s.at_ x rfl hx ?_; intro _ _ hci); (conv => whnf)) | (((with_reducible apply SemH.load_ln); (focus ((exact hci))); (focus ((exact Ext.refl _))); (focus ((conv => whnf)))); (conv => whnf)) | ((refine (ht _ (by exact Vc.xt) x.a hla).mono ?_; rintro _ H2 ⟨rfl, hx2⟩; have hz2 := hx2.size; rw [hFA]); (conv => whnf)) | ((refine (hsetv _ (by exact Vc.xt)).mono ?_; rintro v4 H4 hs4; have hx02 := (show Ext H H2 by exact Vc.xt)); (conv => whnf)) | (((with_reducible refine Vc.DrawH.held [0, 1, 2, 3, 4, 5, 6, 7, 8, 9, 10] [(8, [3])] mixed (by decide +kernel) ?_)); (conv => whnf)) | (((with_reducible refine Vc.DrawH.held [0, 1, 2, 3, 4, 5, 6, 7, 8, 9, 10] [(8, [3])] mixed (by decide +kernel) ?_)); (conv => whnf)) | (((with_reducible refine Vc.DrawH.held [0, 1, 2, 3, 4, 5, 6, 7, 8, 9, 10, 11] [(8, [3]), (9, [3])] mixed (by decide +kernel) ?_)); (conv => whnf)) | (((with_reducible refine Vc.DrawH.held [0, 1, 2, 3, 4, 5, 6, 7, 8, 9, 10, 11] [(8, [3]), (9, [3])] mixed (by decide +kernel) ?_)); (conv => whnf)) | (((with_reducible refine Vc.DrawH.held [0, 1, 2, 3, 4, 6, 7, 5, 8] [(5, [7])] mixed (by decide +kernel) ?_)); (conv => whnf)) | (((with_reducible refine Vc.DrawH.held [0, 1, 2, 3, 4, 5, 6, 7, 8, 9, 10, 11, 12, 13] [(10, [4, 7])] mixed (by decide +kernel) ?_)); (conv => whnf)) | (refine Vc.stp ?_; intros; (conv => whnf)))))
    have hst := hs4.out
    by_cases hnm : isName x.a = false
    · rw [if_pos hnm] at hst
      obtain ⟨rfl, hx4⟩ := hst
      obtain ⟨h1, h2⟩ := h.to (s' := s) (hx02.trans hx4) rfl rfl h.rel
      exact DoneM.to (nx := s.at_ + 1) (e := 72) (by unfold stepP; rw [if_neg (by omega : ¬ x.k = 0), if_neg (by omega : ¬ x.k = 1), if_neg (by omega : ¬ x.k = 2), if_neg (by omega : ¬ x.k = 3), if_neg (by omega : ¬ x.k = 4), if_neg (by omega : ¬ x.k = 5), if_pos (by omega : x.k = 6), if_pos hnm]) h1 h2 rfl (fun e => by cases e)
    rw [if_neg hnm] at hst
    by_cases hbg : 65536 < (fillF (varsF s.V) x.tx).length
    · rw [if_pos hbg] at hst
      obtain ⟨rfl, hx4⟩ := hst
      obtain ⟨h1, h2⟩ := h.to (s' := s) (hx02.trans hx4) rfl rfl h.rel
      exact DoneM.to (nx := s.at_ + 1) (e := 55) (by unfold stepP; rw [if_neg (by omega : ¬ x.k = 0), if_neg (by omega : ¬ x.k = 1), if_neg (by omega : ¬ x.k = 2), if_neg (by omega : ¬ x.k = 3), if_neg (by omega : ¬ x.k = 4), if_neg (by omega : ¬ x.k = 5), if_pos (by omega : x.k = 6), if_neg hnm, if_pos hbg]) h1 h2 rfl (fun e => by cases e)
    · rw [if_neg hbg] at hst
      obtain ⟨rfl, H5, hx5, hv5, hb5⟩ := hst
      obtain ⟨h1, h2⟩ := h.set (s' := { nextF s with V := s.V.map fun V => mput V x.a (fillF V x.tx) }) (hx02.trans hx5) rfl hv5 hb5 (h.rel.same (hd_other hk (by omega) (by omega) (by omega)))
      exact DoneM.to (nx := s.at_ + 1) (e := 0) (by unfold stepP; rw [if_neg (by omega : ¬ x.k = 0), if_neg (by omega : ¬ x.k = 1), if_neg (by omega : ¬ x.k = 2), if_neg (by omega : ¬ x.k = 3), if_neg (by omega : ¬ x.k = 4), if_neg (by omega : ¬ x.k = 5), if_pos (by omega : x.k = 6), if_neg hnm, if_neg hbg]) h1 h2 rfl (fun _ => rfl)
  by_cases h7 : k = 7
  · subst h7
    have he := ends_of hn hk (.inl rfl)
    have hO := h.tabs.opn s.at_ 7 hk (.inl rfl)
    by_cases hex : existsF s.A FA = x.nt
    · have hq : (existsF s.A FA == x.nt) = true := by rw [hex]; exact beq_self_eq_true _
      cases hel : (endsF (kindsL m.L) s.at_).1 with
      | some e =>
        rw [hel] at hO
        replace hO : m.O[s.at_]? = some e := hO
        obtain ⟨hk9, hd9⟩ := he.els e hel
        obtain ⟨y, hy⟩ : ∃ y, m.L[e]? = some y := ⟨_, List.getElem?_eq_getElem (by have := (List.getElem?_eq_some_iff.1 hk9).1; rw [kinds_len] at this; exact this)⟩
        have hy9 : y.k = 9 := by have := kinds_get hy; rw [hk9] at this; exact (Option.some.inj this).symm
        have hcO := Own.hcell h.oth (nat_get hO)
        have hen := (List.getElem?_eq_some_iff.1 hy).1
        rw [h.len] at hen
        have hbh := fun H' (k : Ext H H') => behind_any (h.ext k) hxl hO hy
        rw [if_pos hy9] at hbh
        refine Vc.CallH.body Tryz.func61 Tryz.call61 rfl (by decide +kernel) rfl ?_
        ((conv => whnf); repeat (any_goals (first | ((refine IdxA.ln h.row h.len s.at_ x rfl hx ?_; intro _ _ hci); (conv => whnf)) | (((with_reducible apply SemH.load_ln); (focus ((exact hci))); (focus ((exact Ext.refl _))); (focus ((conv => whnf)))); (conv => whnf)) | ((refine (ht _ (by exact Vc.xt) x.a hla).mono ?_; rintro _ H2 ⟨rfl, hx2⟩; have hz2 := hx2.size; rw [hFA]); (conv => whnf)) | ((refine IdxA.at1 s.at_ rfl hxl ?_); (conv => whnf)) | ((refine (exists_any (h.tree.ext (by exact Vc.xt)) _).mono ?_; rintro _ H3 ⟨rfl, hx3⟩; have hz3 := hx3.size; rw [exists_cut]); (conv => whnf)) | ((refine (hbh _ (by exact Vc.xt)).mono ?_; rintro _ _ ⟨rfl, rfl⟩); (conv => whnf)) | (((with_reducible refine Vc.DrawH.held [0, 1, 2, 3, 4, 5, 6, 7, 8, 9, 10] [(8, [3])] mixed (by decide +kernel) ?_)); (conv => whnf)) | (((with_reducible refine Vc.DrawH.held [0, 1, 2, 3, 4, 5, 6, 7, 8, 9, 10] [(8, [3])] mixed (by decide +kernel) ?_)); (conv => whnf)) | (((with_reducible refine Vc.DrawH.held [0, 1, 2, 3, 4, 5, 6, 7, 8, 9, 10, 11] [(8, [3]), (9, [3])] mixed (by decide +kernel) ?_)); (conv => whnf)) | (((with_reducible refine Vc.DrawH.held [0, 1, 2, 3, 4, 5, 6, 7, 8, 9, 10, 11] [(8, [3]), (9, [3])] mixed (by decide +kernel) ?_)); (conv => whnf)) | (((with_reducible refine Vc.DrawH.held [0, 1, 2, 3, 4, 6, 7, 5, 8] [(5, [7])] mixed (by decide +kernel) ?_)); (conv => whnf)) | (((with_reducible refine Vc.DrawH.held [0, 1, 2, 3, 4, 5, 6, 7, 8, 9, 10, 11, 12, 13] [(10, [4, 7])] mixed (by decide +kernel) ?_)); (conv => whnf)) | (refine Vc.stp ?_; intros; (conv => whnf)))))
        obtain ⟨h1, h2⟩ := h.to (s' := { s with at_ := e + 1 }) (show Ext H H3 by exact Vc.xt) rfl rfl (h.rel.into hd9 hk)
        exact DoneM.to (nx := e + 1) (e := 0) (by unfold stepP; rw [if_neg (by omega : ¬ x.k = 0), if_neg (by omega : ¬ x.k = 1), if_neg (by omega : ¬ x.k = 2), if_neg (by omega : ¬ x.k = 3), if_neg (by omega : ¬ x.k = 4), if_neg (by omega : ¬ x.k = 5), if_neg (by omega : ¬ x.k = 6), if_pos (by omega : x.k = 7), hW, hFA, if_pos hex]; rw [hel]) h1 h2 rfl (fun _ => rfl)
      | none =>
        rw [hel] at hO
        replace hO : m.O[s.at_]? = some (endsF (kindsL m.L) s.at_).2 := hO
        obtain ⟨y, hy⟩ : ∃ y, m.L[(endsF (kindsL m.L) s.at_).2]? = some y := ⟨_, List.getElem?_eq_getElem (by have := he.lt; rw [kinds_len] at this; exact this)⟩
        have hy9 : y.k ≠ 9 := by have := kinds_get hy; rw [he.kind] at this; have := (Option.some.inj this).symm; omega
        have hcO := Own.hcell h.oth (nat_get hO)
        have hen := (List.getElem?_eq_some_iff.1 hy).1
        rw [h.len] at hen
        have hbh := fun H' (k : Ext H H') => behind_any (h.ext k) hxl hO hy
        rw [if_neg hy9] at hbh
        refine Vc.CallH.body Tryz.func61 Tryz.call61 rfl (by decide +kernel) rfl ?_
        ((conv => whnf); repeat (any_goals (first | ((refine IdxA.ln h.row h.len s.at_ x rfl hx ?_; intro _ _ hci); (conv => whnf)) | (((with_reducible apply SemH.load_ln); (focus ((exact hci))); (focus ((exact Ext.refl _))); (focus ((conv => whnf)))); (conv => whnf)) | ((refine (ht _ (by exact Vc.xt) x.a hla).mono ?_; rintro _ H2 ⟨rfl, hx2⟩; have hz2 := hx2.size; rw [hFA]); (conv => whnf)) | ((refine IdxA.at1 s.at_ rfl hxl ?_); (conv => whnf)) | ((refine (exists_any (h.tree.ext (by exact Vc.xt)) _).mono ?_; rintro _ H3 ⟨rfl, hx3⟩; have hz3 := hx3.size; rw [exists_cut]); (conv => whnf)) | ((refine (hbh _ (by exact Vc.xt)).mono ?_; rintro _ _ ⟨rfl, rfl⟩); (conv => whnf)) | (((with_reducible refine Vc.DrawH.held [0, 1, 2, 3, 4, 5, 6, 7, 8, 9, 10] [(8, [3])] mixed (by decide +kernel) ?_)); (conv => whnf)) | (((with_reducible refine Vc.DrawH.held [0, 1, 2, 3, 4, 5, 6, 7, 8, 9, 10] [(8, [3])] mixed (by decide +kernel) ?_)); (conv => whnf)) | (((with_reducible refine Vc.DrawH.held [0, 1, 2, 3, 4, 5, 6, 7, 8, 9, 10, 11] [(8, [3]), (9, [3])] mixed (by decide +kernel) ?_)); (conv => whnf)) | (((with_reducible refine Vc.DrawH.held [0, 1, 2, 3, 4, 5, 6, 7, 8, 9, 10, 11] [(8, [3]), (9, [3])] mixed (by decide +kernel) ?_)); (conv => whnf)) | (((with_reducible refine Vc.DrawH.held [0, 1, 2, 3, 4, 6, 7, 5, 8] [(5, [7])] mixed (by decide +kernel) ?_)); (conv => whnf)) | (((with_reducible refine Vc.DrawH.held [0, 1, 2, 3, 4, 5, 6, 7, 8, 9, 10, 11, 12, 13] [(10, [4, 7])] mixed (by decide +kernel) ?_)); (conv => whnf)) | (refine Vc.stp ?_; intros; (conv => whnf)))))
        obtain ⟨h1, h2⟩ := h.to (s' := { s with at_ := (endsF (kindsL m.L) s.at_).2 }) (show Ext H H3 by exact Vc.xt) rfl rfl (h.rel.into he.hd hk)
        exact DoneM.to (nx := (endsF (kindsL m.L) s.at_).2) (e := 0) (by unfold stepP; rw [if_neg (by omega : ¬ x.k = 0), if_neg (by omega : ¬ x.k = 1), if_neg (by omega : ¬ x.k = 2), if_neg (by omega : ¬ x.k = 3), if_neg (by omega : ¬ x.k = 4), if_neg (by omega : ¬ x.k = 5), if_neg (by omega : ¬ x.k = 6), if_pos (by omega : x.k = 7), hW, hFA, if_pos hex]; rw [hel]) h1 h2 (by simp only [Int.add_zero]; rfl) (fun _ => rfl)
    · have hq : (existsF s.A FA == x.nt) = false := by simpa using hex
      refine Vc.CallH.body Tryz.func61 Tryz.call61 rfl (by decide +kernel) rfl ?_
      ((conv => whnf); repeat (any_goals (first | ((refine IdxA.ln h.row h.len s.at_ x rfl hx ?_; intro _ _ hci); (conv => whnf)) | (((with_reducible apply SemH.load_ln); (focus ((exact hci))); (focus ((exact Ext.refl _))); (focus ((conv => whnf)))); (conv => whnf)) | ((refine (ht _ (by exact Vc.xt) x.a hla).mono ?_; rintro _ H2 ⟨rfl, hx2⟩; have hz2 := hx2.size; rw [hFA]); (conv => whnf)) | ((refine (exists_any (h.tree.ext (by exact Vc.xt)) _).mono ?_; rintro _ H3 ⟨rfl, hx3⟩; have hz3 := hx3.size; rw [exists_cut]); (conv => whnf)) | (((with_reducible refine Vc.DrawH.held [0, 1, 2, 3, 4, 5, 6, 7, 8, 9, 10] [(8, [3])] mixed (by decide +kernel) ?_)); (conv => whnf)) | (((with_reducible refine Vc.DrawH.held [0, 1, 2, 3, 4, 5, 6, 7, 8, 9, 10] [(8, [3])] mixed (by decide +kernel) ?_)); (conv => whnf)) | (((with_reducible refine Vc.DrawH.held [0, 1, 2, 3, 4, 5, 6, 7, 8, 9, 10, 11] [(8, [3]), (9, [3])] mixed (by decide +kernel) ?_)); (conv => whnf)) | (((with_reducible refine Vc.DrawH.held [0, 1, 2, 3, 4, 5, 6, 7, 8, 9, 10, 11] [(8, [3]), (9, [3])] mixed (by decide +kernel) ?_)); (conv => whnf)) | (((with_reducible refine Vc.DrawH.held [0, 1, 2, 3, 4, 6, 7, 5, 8] [(5, [7])] mixed (by decide +kernel) ?_)); (conv => whnf)) | (((with_reducible refine Vc.DrawH.held [0, 1, 2, 3, 4, 5, 6, 7, 8, 9, 10, 11, 12, 13] [(10, [4, 7])] mixed (by decide +kernel) ?_)); (conv => whnf)) | (refine Vc.stp ?_; intros; (conv => whnf)))))
      obtain ⟨h1, h2⟩ := h.to (s' := nextF s) (show Ext H H3 by exact Vc.xt) rfl rfl (h.rel.into (hd_open hk (.inl rfl)) hk)
      exact DoneM.to (nx := s.at_ + 1) (e := 0) (by unfold stepP; rw [if_neg (by omega : ¬ x.k = 0), if_neg (by omega : ¬ x.k = 1), if_neg (by omega : ¬ x.k = 2), if_neg (by omega : ¬ x.k = 3), if_neg (by omega : ¬ x.k = 4), if_neg (by omega : ¬ x.k = 5), if_neg (by omega : ¬ x.k = 6), if_pos (by omega : x.k = 7), hW, hFA, if_neg hex]) h1 h2 rfl (fun _ => rfl)
  by_cases h8 : k = 8
  · subst h8
    have he := ends_of hn hk (.inr rfl)
    have hO := h.tabs.opn s.at_ 8 hk (.inr rfl)
    rw [ends_rep hn hk] at hO
    replace hO : m.O[s.at_]? = some (endsF (kindsL m.L) s.at_).2 := hO
    have hML : M.length = m.n := by rw [h.rel.len, h.klen]
    have hen := he.lt
    rw [h.klen] at hen
    have hcO := Own.hcell h.oth (nat_get hO)
    by_cases hx0 : x.n = 0
    · refine Vc.CallH.body Tryz.func61 Tryz.call61 rfl (by decide +kernel) rfl ?_
      ((conv => whnf); repeat (any_goals (first | ((refine IdxA.ln h.row h.len s.at_ x rfl hx ?_; intro _ _ hci); (conv => whnf)) | (((with_reducible apply SemH.load_ln); (focus ((exact hci))); (focus ((exact Ext.refl _))); (focus ((conv => whnf)))); (conv => whnf)) | ((refine (ht _ (by exact Vc.xt) x.a hla).mono ?_; rintro _ H2 ⟨rfl, hx2⟩; have hz2 := hx2.size; rw [hFA]); (conv => whnf)) | ((refine IdxA.at1 s.at_ rfl hxl ?_); (conv => whnf)) | (((with_reducible apply DoH.store_own); (focus ((exact h.mor.ext (show Ext H _ by exact Vc.xt)))); (focus (rfl)); (focus (rfl)); (focus (rfl)); (focus (omega)); (focus ((intro H4 hz4 hm4 hb4; have hx04 := And.intro trivial (show Ext H H2 by exact Vc.xt); (conv => whnf))))); (conv => whnf)) | (((with_reducible apply SemH.load); (focus (rfl)); (focus ((exact hcell_keep (hcell_keep (Own.hcell h.oth (nat_get hO)) hx04.2 id) hb4 h.d1))); (focus ((conv => whnf)))); (conv => whnf)) | (((with_reducible refine Vc.DrawH.held [0, 1, 2, 3, 4, 5, 6, 7, 8, 9, 10] [(8, [3])] mixed (by decide +kernel) ?_)); (conv => whnf)) | (((with_reducible refine Vc.DrawH.held [0, 1, 2, 3, 4, 5, 6, 7, 8, 9, 10] [(8, [3])] mixed (by decide +kernel) ?_)); (conv => whnf)) | (((with_reducible refine Vc.DrawH.held [0, 1, 2, 3, 4, 5, 6, 7, 8, 9, 10, 11] [(8, [3]), (9, [3])] mixed (by decide +kernel) ?_)); (conv => whnf)) | (((with_reducible refine Vc.DrawH.held [0, 1, 2, 3, 4, 5, 6, 7, 8, 9, 10, 11] [(8, [3]), (9, [3])] mixed (by decide +kernel) ?_)); (conv => whnf)) | (((with_reducible refine Vc.DrawH.held [0, 1, 2, 3, 4, 6, 7, 5, 8] [(5, [7])] mixed (by decide +kernel) ?_)); (conv => whnf)) | (((with_reducible refine Vc.DrawH.held [0, 1, 2, 3, 4, 5, 6, 7, 8, 9, 10, 11, 12, 13] [(10, [4, 7])] mixed (by decide +kernel) ?_)); (conv => whnf)) | (refine Vc.stp ?_; intros; (conv => whnf)))))
      rw [Nat.zero_add, nat_set] at hm4
      obtain ⟨h1, h2⟩ := h.more (s' := { s with at_ := (endsF (kindsL m.L) s.at_).2 + 1 }) hx04.2 hm4 hb4 rfl rfl ((h.rel.set hn (by rw [h.klen]; omega) x.n).same he.behind) (hset _ _ hlx)
      exact DoneM.to (nx := (endsF (kindsL m.L) s.at_).2 + 1) (e := 0) (by unfold stepP; rw [if_neg (by omega : ¬ x.k = 0), if_neg (by omega : ¬ x.k = 1), if_neg (by omega : ¬ x.k = 2), if_neg (by omega : ¬ x.k = 3), if_neg (by omega : ¬ x.k = 4), if_neg (by omega : ¬ x.k = 5), if_neg (by omega : ¬ x.k = 6), if_neg (by omega : ¬ x.k = 7), if_pos (by omega : x.k = 8), if_pos hx0]) h1 h2 rfl (fun _ => rfl)
    · refine Vc.CallH.body Tryz.func61 Tryz.call61 rfl (by decide +kernel) rfl ?_
      ((conv => whnf); repeat (any_goals (first | ((refine IdxA.ln h.row h.len s.at_ x rfl hx ?_; intro _ _ hci); (conv => whnf)) | (((with_reducible apply SemH.load_ln); (focus ((exact hci))); (focus ((exact Ext.refl _))); (focus ((conv => whnf)))); (conv => whnf)) | ((refine (ht _ (by exact Vc.xt) x.a hla).mono ?_; rintro _ H2 ⟨rfl, hx2⟩; have hz2 := hx2.size; rw [hFA]); (conv => whnf)) | ((refine IdxA.at1 s.at_ rfl hxl ?_); (conv => whnf)) | (((with_reducible apply DoH.store_own); (focus ((exact h.mor.ext (show Ext H _ by exact Vc.xt)))); (focus (rfl)); (focus (rfl)); (focus (rfl)); (focus (omega)); (focus ((intro H4 hz4 hm4 hb4; have hx04 := And.intro trivial (show Ext H H2 by exact Vc.xt); (conv => whnf))))); (conv => whnf)) | (((with_reducible refine Vc.DrawH.held [0, 1, 2, 3, 4, 5, 6, 7, 8, 9, 10] [(8, [3])] mixed (by decide +kernel) ?_)); (conv => whnf)) | (((with_reducible refine Vc.DrawH.held [0, 1, 2, 3, 4, 5, 6, 7, 8, 9, 10] [(8, [3])] mixed (by decide +kernel) ?_)); (conv => whnf)) | (((with_reducible refine Vc.DrawH.held [0, 1, 2, 3, 4, 5, 6, 7, 8, 9, 10, 11] [(8, [3]), (9, [3])] mixed (by decide +kernel) ?_)); (conv => whnf)) | (((with_reducible refine Vc.DrawH.held [0, 1, 2, 3, 4, 5, 6, 7, 8, 9, 10, 11] [(8, [3]), (9, [3])] mixed (by decide +kernel) ?_)); (conv => whnf)) | (((with_reducible refine Vc.DrawH.held [0, 1, 2, 3, 4, 6, 7, 5, 8] [(5, [7])] mixed (by decide +kernel) ?_)); (conv => whnf)) | (((with_reducible refine Vc.DrawH.held [0, 1, 2, 3, 4, 5, 6, 7, 8, 9, 10, 11, 12, 13] [(10, [4, 7])] mixed (by decide +kernel) ?_)); (conv => whnf)) | (refine Vc.stp ?_; intros; (conv => whnf)))))
      rw [Nat.zero_add, nat_set] at hm4
      obtain ⟨h1, h2⟩ := h.more (s'   := { nextF s with S := (s.at_, x.n) :: s.S }) hx04.2 hm4 hb4 rfl rfl (h.rel.push hn hk (by omega)) (hset _ _ hlx)
      exact DoneM.to (nx := s.at_ + 1) (e := 0) (by unfold stepP; rw [if_neg (by omega : ¬ x.k = 0), if_neg (by omega : ¬ x.k = 1), if_neg (by omega : ¬ x.k = 2), if_neg (by omega : ¬ x.k = 3), if_neg (by omega : ¬ x.k = 4), if_neg (by omega : ¬ x.k = 5), if_neg (by omega : ¬ x.k = 6), if_neg (by omega : ¬ x.k = 7), if_pos (by omega : x.k = 8), if_neg hx0]) h1 h2 rfl (fun _ => rfl)
  by_cases h11 : k = 11
  · refine Vc.CallH.body Tryz.func61 Tryz.call61 rfl (by decide +kernel) rfl ?_
    ((conv => whnf); repeat (any_goals (first | ((refine IdxA.ln h.row h.len s.at_ x rfl hx ?_; intro _ _ hci); (conv => whnf)) | (((with_reducible apply SemH.load_ln); (focus ((exact hci))); (focus ((exact Ext.refl _))); (focus ((conv => whnf)))); (conv => whnf)) | ((refine (ht _ (by exact Vc.xt) x.a hla).mono ?_; rintro _ H2 ⟨rfl, hx2⟩; have hz2 := hx2.size; rw [hFA]); (conv => whnf)) | (((with_reducible refine Vc.DrawH.held [0, 1, 2, 3, 4, 5, 6, 7, 8, 9, 10] [(8, [3])] mixed (by decide +kernel) ?_)); (conv => whnf)) | (((with_reducible refine Vc.DrawH.held [0, 1, 2, 3, 4, 5, 6, 7, 8, 9, 10] [(8, [3])] mixed (by decide +kernel) ?_)); (conv => whnf)) | (((with_reducible refine Vc.DrawH.held [0, 1, 2, 3, 4, 5, 6, 7, 8, 9, 10, 11] [(8, [3]), (9, [3])] mixed (by decide +kernel) ?_)); (conv => whnf)) | (((with_reducible refine Vc.DrawH.held [0, 1, 2, 3, 4, 5, 6, 7, 8, 9, 10, 11] [(8, [3]), (9, [3])] mixed (by decide +kernel) ?_)); (conv => whnf)) | (((with_reducible refine Vc.DrawH.held [0, 1, 2, 3, 4, 6, 7, 5, 8] [(5, [7])] mixed (by decide +kernel) ?_)); (conv => whnf)) | (((with_reducible refine Vc.DrawH.held [0, 1, 2, 3, 4, 5, 6, 7, 8, 9, 10, 11, 12, 13] [(10, [4, 7])] mixed (by decide +kernel) ?_)); (conv => whnf)) | (refine Vc.stp ?_; intros; (conv => whnf)))))
    obtain ⟨h1, h2⟩ := h.to (s' := s) (show Ext H H2 by exact Vc.xt) rfl rfl h.rel
    exact DoneM.to (nx := s.at_ + 1) (e := 72) (by unfold stepP; rw [if_neg (by omega : ¬ x.k = 0), if_neg (by omega : ¬ x.k = 1), if_neg (by omega : ¬ x.k = 2), if_neg (by omega : ¬ x.k = 3), if_neg (by omega : ¬ x.k = 4), if_neg (by omega : ¬ x.k = 5), if_neg (by omega : ¬ x.k = 6), if_neg (by omega : ¬ x.k = 7), if_neg (by omega : ¬ x.k = 8), if_neg (by omega : ¬ x.k = 9), if_neg (by omega : ¬ x.k = 10), if_pos (by omega : x.k = 11)]) h1 h2 rfl (fun e => by cases e)
  by_cases h9 : k = 9
  · subst h9
    have hO := h.tabs.els s.at_ hk
    have hcO := Own.hcell h.oth (nat_get hO)
    have he := ende_of hn hk
    refine Vc.CallH.body Tryz.func61 Tryz.call61 rfl (by decide +kernel) rfl ?_
    ((conv => whnf); repeat (any_goals (first | ((refine IdxA.ln h.row h.len s.at_ x rfl hx ?_; intro _ _ hci); (conv => whnf)) | (((with_reducible apply SemH.load_ln); (focus ((exact hci))); (focus ((exact Ext.refl _))); (focus ((conv => whnf)))); (conv => whnf)) | ((refine (ht _ (by exact Vc.xt) x.a hla).mono ?_; rintro _ H2 ⟨rfl, hx2⟩; have hz2 := hx2.size; rw [hFA]); (conv => whnf)) | ((refine IdxA.at1 s.at_ rfl hxl ?_); (conv => whnf)) | (((with_reducible refine Vc.DrawH.held [0, 1, 2, 3, 4, 5, 6, 7, 8, 9, 10] [(8, [3])] mixed (by decide +kernel) ?_)); (conv => whnf)) | (((with_reducible refine Vc.DrawH.held [0, 1, 2, 3, 4, 5, 6, 7, 8, 9, 10] [(8, [3])] mixed (by decide +kernel) ?_)); (conv => whnf)) | (((with_reducible refine Vc.DrawH.held [0, 1, 2, 3, 4, 5, 6, 7, 8, 9, 10, 11] [(8, [3]), (9, [3])] mixed (by decide +kernel) ?_)); (conv => whnf)) | (((with_reducible refine Vc.DrawH.held [0, 1, 2, 3, 4, 5, 6, 7, 8, 9, 10, 11] [(8, [3]), (9, [3])] mixed (by decide +kernel) ?_)); (conv => whnf)) | (((with_reducible refine Vc.DrawH.held [0, 1, 2, 3, 4, 6, 7, 5, 8] [(5, [7])] mixed (by decide +kernel) ?_)); (conv => whnf)) | (((with_reducible refine Vc.DrawH.held [0, 1, 2, 3, 4, 5, 6, 7, 8, 9, 10, 11, 12, 13] [(10, [4, 7])] mixed (by decide +kernel) ?_)); (conv => whnf)) | (refine Vc.stp ?_; intros; (conv => whnf)))))
    obtain ⟨h1, h2⟩ := h.to (s' := { s with at_ := (endsF (kindsL m.L) s.at_).2 }) (show Ext H H2 by exact Vc.xt) rfl rfl (h.rel.same he.hd)
    exact DoneM.to (e := 0) (by unfold stepP; rw [if_neg (by omega : ¬ x.k = 0), if_neg (by omega : ¬ x.k = 1), if_neg (by omega : ¬ x.k = 2), if_neg (by omega : ¬ x.k = 3), if_neg (by omega : ¬ x.k = 4), if_neg (by omega : ¬ x.k = 5), if_neg (by omega : ¬ x.k = 6), if_neg (by omega : ¬ x.k = 7), if_neg (by omega : ¬ x.k = 8), if_pos (by omega : x.k = 9)]) h1 h2 rfl (fun _ => rfl)
  by_cases h10 : k = 10
  · subst h10
    obtain ⟨hd, t, hh, hend, hkind, _⟩ := end_head hn hk
    have hHd := h.tabs.hd s.at_ hk hd t hh
    have hcH := Own.hcell h.hds (nat_get hHd)
    have hhl := hd_lt hn (i := s.at_) (by rw [h.klen]; omega) hd (by rw [hh]; simp)
    have hhn : hd < m.n := by omega
    have hML : M.length = m.n := by rw [h.rel.len, h.klen]
    obtain ⟨y, hy⟩ : ∃ y, m.L[hd]? = some y := ⟨_, List.getElem?_eq_getElem (by rw [h.len]; exact hhn)⟩
    have hky := kinds_get hy
    rcases hkind with h7' | h8'
    · have hy7 : y.k = 7 := by rw [h7'] at hky; exact (Option.some.inj hky).symm
      obtain ⟨hr, hno⟩ := h.rel.iff hn hk hh h7'
      have hst : stepP (kindsL m.L) x s = (nextF s, 0) := by
        unfold stepP; rw [if_neg (by omega : ¬ x.k = 0), if_neg (by omega : ¬ x.k = 1), if_neg (by omega : ¬ x.k = 2), if_neg (by omega : ¬ x.k = 3), if_neg (by omega : ¬ x.k = 4), if_neg (by omega : ¬ x.k = 5), if_neg (by omega : ¬ x.k = 6), if_neg (by omega : ¬ x.k = 7), if_neg (by omega : ¬ x.k = 8), if_neg (by omega : ¬ x.k = 9), if_pos (by omega : x.k = 10)]
        cases hS : s.S with
        | nil => rfl
        | cons p S' =>
          obtain ⟨g, c⟩ := p
          dsimp only
          rw [if_neg (hno (g, c) S' hS)]
      refine Vc.CallH.body Tryz.func61 Tryz.call61 rfl (by decide +kernel) rfl ?_
      ((conv => whnf); repeat (any_goals (first | ((refine IdxA.ln h.row h.len s.at_ x rfl hx ?_; intro _ _ hci); (conv => whnf)) | (((with_reducible apply SemH.load_ln); (focus ((exact hci))); (focus ((exact Ext.refl _))); (focus ((conv => whnf)))); (conv => whnf)) | ((refine (ht _ (by exact Vc.xt) x.a hla).mono ?_; rintro _ H2 ⟨rfl, hx2⟩; have hz2 := hx2.size; rw [hFA]); (conv => whnf)) | ((refine IdxA.at1 s.at_ rfl hxl ?_); (conv => whnf)) | ((refine IdxA.at1 hd rfl hhn ?_); (conv => whnf)) | ((refine IdxA.ln h.row h.len hd y rfl hy ?_; intro _ _ hcj; have hc0 := hcj 0 _ rfl); (conv => whnf)) | (((with_reducible refine Vc.DrawH.held [0, 1, 2, 3, 4, 5, 6, 7, 8, 9, 10] [(8, [3])] mixed (by decide +kernel) ?_)); (conv => whnf)) | (((with_reducible refine Vc.DrawH.held [0, 1, 2, 3, 4, 5, 6, 7, 8, 9, 10] [(8, [3])] mixed (by decide +kernel) ?_)); (conv => whnf)) | (((with_reducible refine Vc.DrawH.held [0, 1, 2, 3, 4, 5, 6, 7, 8, 9, 10, 11] [(8, [3]), (9, [3])] mixed (by decide +kernel) ?_)); (conv => whnf)) | (((with_reducible refine Vc.DrawH.held [0, 1, 2, 3, 4, 5, 6, 7, 8, 9, 10, 11] [(8, [3]), (9, [3])] mixed (by decide +kernel) ?_)); (conv => whnf)) | (((with_reducible refine Vc.DrawH.held [0, 1, 2, 3, 4, 6, 7, 5, 8] [(5, [7])] mixed (by decide +kernel) ?_)); (conv => whnf)) | (((with_reducible refine Vc.DrawH.held [0, 1, 2, 3, 4, 5, 6, 7, 8, 9, 10, 11, 12, 13] [(10, [4, 7])] mixed (by decide +kernel) ?_)); (conv => whnf)) | (refine Vc.stp ?_; intros; (conv => whnf)))))
      obtain ⟨h1, h2⟩ := h.to (s' := nextF s) (show Ext H H2 by exact Vc.xt) rfl rfl hr
      exact DoneM.to (nx := s.at_ + 1) (e := 0) hst h1 h2 rfl (fun _ => rfl)
    · have hy8 : y.k = 8 := by rw [h8'] at hky; exact (Option.some.inj hky).symm
      obtain ⟨c, S', hS, hM, hc1, _, hr1, hr2⟩ := h.rel.rep hn hk hh h8' hend
      have hcM := Own.hcell h.mor (nat_get hM)
      have hcb := h.bnd c (List.mem_of_getElem? hM)
      by_cases hc2 : 1 < c
      · have hst : stepP (kindsL m.L) x s = ({ s with at_ := hd + 1, S := (hd, c - 1) :: S' }, 0) := by
          unfold stepP; rw [if_neg (by omega : ¬ x.k = 0), if_neg (by omega : ¬ x.k = 1), if_neg (by omega : ¬ x.k = 2), if_neg (by omega : ¬ x.k = 3), if_neg (by omega : ¬ x.k = 4), if_neg (by omega : ¬ x.k = 5), if_neg (by omega : ¬ x.k = 6), if_neg (by omega : ¬ x.k = 7), if_neg (by omega : ¬ x.k = 8), if_neg (by omega : ¬ x.k = 9), if_pos (by omega : x.k = 10)]
          rw [hS]
          dsimp only
          rw [if_pos hend, if_pos hc2]
        refine Vc.CallH.body Tryz.func61 Tryz.call61 rfl (by decide +kernel) rfl ?_
        ((conv => whnf); repeat (any_goals (first | ((refine IdxA.ln h.row h.len s.at_ x rfl hx ?_; intro _ _ hci); (conv => whnf)) | (((with_reducible apply SemH.load_ln); (focus ((exact hci))); (focus ((exact Ext.refl _))); (focus ((conv => whnf)))); (conv => whnf)) | ((refine (ht _ (by exact Vc.xt) x.a hla).mono ?_; rintro _ H2 ⟨rfl, hx2⟩; have hz2 := hx2.size; rw [hFA]); (conv => whnf)) | ((refine IdxA.at1 s.at_ rfl hxl ?_); (conv => whnf)) | ((refine IdxA.at1 hd rfl hhn ?_); (conv => whnf)) | ((refine IdxA.ln h.row h.len hd y rfl hy ?_; intro _ _ hcj; have hc0 := hcj 0 _ rfl); (conv => whnf)) | (((with_reducible apply DoH.store_own); (focus ((exact h.mor.ext (show Ext H _ by exact Vc.xt)))); (focus (rfl)); (focus (rfl)); (focus (rfl)); (focus (omega)); (focus ((intro H4 hz4 hm4 hb4; have hx04 := And.intro trivial (show Ext H H2 by exact Vc.xt); rw [Nat.zero_add, show ((c : Int) - 1) = ((c - 1 : Nat) : Int) by omega, nat_set] at hm4; have hcN := Own.hcell hm4 (nat_get (List.getElem?_set_self (by rw [hML]; omega))); (conv => whnf))))); (conv => whnf)) | (((with_reducible refine Vc.DrawH.held [0, 1, 2, 3, 4, 5, 6, 7, 8, 9, 10] [(8, [3])] mixed (by decide +kernel) ?_)); (conv => whnf)) | (((with_reducible refine Vc.DrawH.held [0, 1, 2, 3, 4, 5, 6, 7, 8, 9, 10] [(8, [3])] mixed (by decide +kernel) ?_)); (conv => whnf)) | (((with_reducible refine Vc.DrawH.held [0, 1, 2, 3, 4, 5, 6, 7, 8, 9, 10, 11] [(8, [3]), (9, [3])] mixed (by decide +kernel) ?_)); (conv => whnf)) | (((with_reducible refine Vc.DrawH.held [0, 1, 2, 3, 4, 5, 6, 7, 8, 9, 10, 11] [(8, [3]), (9, [3])] mixed (by decide +kernel) ?_)); (conv => whnf)) | (((with_reducible refine Vc.DrawH.held [0, 1, 2, 3, 4, 6, 7, 5, 8] [(5, [7])] mixed (by decide +kernel) ?_)); (conv => whnf)) | (((with_reducible refine Vc.DrawH.held [0, 1, 2, 3, 4, 5, 6, 7, 8, 9, 10, 11, 12, 13] [(10, [4, 7])] mixed (by decide +kernel) ?_)); (conv => whnf)) | (refine Vc.stp ?_; intros; (conv => whnf)))))
        obtain ⟨h1, h2⟩ := h.more (s' := { s with at_ := hd + 1, S := (hd, c - 1) :: S' }) hx04.2 hm4 hb4 rfl rfl (hr1 hc2) (hset _ _ (by omega))
        exact DoneM.to (nx := hd + 1) (e := 0) hst h1 h2 rfl (fun _ => rfl)
      · have hst : stepP (kindsL m.L) x s = ({ nextF s with S := S' }, 0) := by
          unfold stepP; rw [if_neg (by omega : ¬ x.k = 0), if_neg (by omega : ¬ x.k = 1), if_neg (by omega : ¬ x.k = 2), if_neg (by omega : ¬ x.k = 3), if_neg (by omega : ¬ x.k = 4), if_neg (by omega : ¬ x.k = 5), if_neg (by omega : ¬ x.k = 6), if_neg (by omega : ¬ x.k = 7), if_neg (by omega : ¬ x.k = 8), if_neg (by omega : ¬ x.k = 9), if_pos (by omega : x.k = 10)]
          rw [hS]
          dsimp only
          rw [if_pos hend, if_neg hc2]
        refine Vc.CallH.body Tryz.func61 Tryz.call61 rfl (by decide +kernel) rfl ?_
        ((conv => whnf); repeat (any_goals (first | ((refine IdxA.ln h.row h.len s.at_ x rfl hx ?_; intro _ _ hci); (conv => whnf)) | (((with_reducible apply SemH.load_ln); (focus ((exact hci))); (focus ((exact Ext.refl _))); (focus ((conv => whnf)))); (conv => whnf)) | ((refine (ht _ (by exact Vc.xt) x.a hla).mono ?_; rintro _ H2 ⟨rfl, hx2⟩; have hz2 := hx2.size; rw [hFA]); (conv => whnf)) | ((refine IdxA.at1 s.at_ rfl hxl ?_); (conv => whnf)) | ((refine IdxA.at1 hd rfl hhn ?_); (conv => whnf)) | ((refine IdxA.ln h.row h.len hd y rfl hy ?_; intro _ _ hcj; have hc0 := hcj 0 _ rfl); (conv => whnf)) | (((with_reducible apply DoH.store_own); (focus ((exact h.mor.ext (show Ext H _ by exact Vc.xt)))); (focus (rfl)); (focus (rfl)); (focus (rfl)); (focus (omega)); (focus ((intro H4 hz4 hm4 hb4; have hx04 := And.intro trivial (show Ext H H2 by exact Vc.xt); rw [Nat.zero_add, show ((c : Int) - 1) = ((c - 1 : Nat) : Int) by omega, nat_set] at hm4; have hcN := Own.hcell hm4 (nat_get (List.getElem?_set_self (by rw [hML]; omega))); (conv => whnf))))); (conv => whnf)) | (((with_reducible refine Vc.DrawH.held [0, 1, 2, 3, 4, 5, 6, 7, 8, 9, 10] [(8, [3])] mixed (by decide +kernel) ?_)); (conv => whnf)) | (((with_reducible refine Vc.DrawH.held [0, 1, 2, 3, 4, 5, 6, 7, 8, 9, 10] [(8, [3])] mixed (by decide +kernel) ?_)); (conv => whnf)) | (((with_reducible refine Vc.DrawH.held [0, 1, 2, 3, 4, 5, 6, 7, 8, 9, 10, 11] [(8, [3]), (9, [3])] mixed (by decide +kernel) ?_)); (conv => whnf)) | (((with_reducible refine Vc.DrawH.held [0, 1, 2, 3, 4, 5, 6, 7, 8, 9, 10, 11] [(8, [3]), (9, [3])] mixed (by decide +kernel) ?_)); (conv => whnf)) | (((with_reducible refine Vc.DrawH.held [0, 1, 2, 3, 4, 6, 7, 5, 8] [(5, [7])] mixed (by decide +kernel) ?_)); (conv => whnf)) | (((with_reducible refine Vc.DrawH.held [0, 1, 2, 3, 4, 5, 6, 7, 8, 9, 10, 11, 12, 13] [(10, [4, 7])] mixed (by decide +kernel) ?_)); (conv => whnf)) | (refine Vc.stp ?_; intros; (conv => whnf)))))
        obtain ⟨h1, h2⟩ := h.more (s' := { nextF s with S := S' }) hx04.2 hm4 hb4 rfl rfl hr2 (hset _ _ (by omega))
        exact DoneM.to (nx := s.at_ + 1) (e := 0) hst h1 h2 rfl (fun _ => rfl)
  have hst : stepP (kindsL m.L) x s = (nextF s, 0) := by
    unfold stepP
    rw [if_neg (by omega : ¬ x.k = 0), if_neg (by omega : ¬ x.k = 1), if_neg (by omega : ¬ x.k = 2), if_neg (by omega : ¬ x.k = 3), if_neg (by omega : ¬ x.k = 4), if_neg (by omega : ¬ x.k = 5), if_neg (by omega : ¬ x.k = 6), if_neg (by omega : ¬ x.k = 7), if_neg (by omega : ¬ x.k = 8), if_neg (by omega : ¬ x.k = 9), if_neg (by omega : ¬ x.k = 10), if_neg (by omega : ¬ x.k = 11)]
  refine Vc.CallH.body Tryz.func61 Tryz.call61 rfl (by decide +kernel) rfl ?_
  ((conv => whnf); repeat (any_goals (first | ((refine IdxA.ln h.row h.len s.at_ x rfl hx ?_; intro _ _ hci); (conv => whnf)) | (((with_reducible apply SemH.load_ln); (focus ((exact hci))); (focus ((exact Ext.refl _))); (focus ((conv => whnf)))); (conv => whnf)) | ((refine (ht _ (by exact Vc.xt) x.a hla).mono ?_; rintro _ H2 ⟨rfl, hx2⟩; have hz2 := hx2.size; rw [hFA]); (conv => whnf)) | (((with_reducible refine Vc.DrawH.held [0, 1, 2, 3, 4, 5, 6, 7, 8, 9, 10] [(8, [3])] mixed (by decide +kernel) ?_)); (conv => whnf)) | (((with_reducible refine Vc.DrawH.held [0, 1, 2, 3, 4, 5, 6, 7, 8, 9, 10] [(8, [3])] mixed (by decide +kernel) ?_)); (conv => whnf)) | (((with_reducible refine Vc.DrawH.held [0, 1, 2, 3, 4, 5, 6, 7, 8, 9, 10, 11] [(8, [3]), (9, [3])] mixed (by decide +kernel) ?_)); (conv => whnf)) | (((with_reducible refine Vc.DrawH.held [0, 1, 2, 3, 4, 5, 6, 7, 8, 9, 10, 11] [(8, [3]), (9, [3])] mixed (by decide +kernel) ?_)); (conv => whnf)) | (((with_reducible refine Vc.DrawH.held [0, 1, 2, 3, 4, 6, 7, 5, 8] [(5, [7])] mixed (by decide +kernel) ?_)); (conv => whnf)) | (((with_reducible refine Vc.DrawH.held [0, 1, 2, 3, 4, 5, 6, 7, 8, 9, 10, 11, 12, 13] [(10, [4, 7])] mixed (by decide +kernel) ?_)); (conv => whnf)) | (refine Vc.stp ?_; intros; (conv => whnf)))))
  obtain ⟨h1, h2⟩ := h.to (s' := nextF s) (show Ext H H2 by exact Vc.xt) rfl rfl (h.rel.same (hd_other hk (by omega) (by omega) (by omega)))
  exact DoneM.to (nx := s.at_ + 1) (e := 0) hst h1 h2 rfl (fun _ => rfl)
end Go.Proofs.YtphkaogbcfdllaaGreatDoor
