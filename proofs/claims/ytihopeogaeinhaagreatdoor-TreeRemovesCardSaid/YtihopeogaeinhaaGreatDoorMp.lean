import Derived.Test.YtihopeogaeinhaaGreatDoorSt
import Derived.Maps.RangeRun
set_option linter.unusedVariables false
set_option linter.unusedSimpArgs false
set_option maxRecDepth 100000
/- Maps whose keys are strings: what a map of the heap holds, the rules of its operations, and of the loop over it. -/
namespace Go.Vc
open Go.ChangeMaps (setBlock)
variable {α : Type}
def mget : List (Bs × α) → Bs → Option α
  | [], _ => none
  | x :: l, k => if k = x.1 then some x.2 else mget l k
def mput : List (Bs × α) → Bs → α → List (Bs × α)
  | [], k, v => [(k, v)]
  | x :: l, k, v => if k = x.1 then (k, v) :: l else x :: mput l k v
def mdel : List (Bs × α) → Bs → List (Bs × α)
  | [], _ => []
  | x :: l, k => if k = x.1 then l else x :: mdel l k
def EntL : List MapEntry → List (Bs × Value) → Prop
  | [], [] => True
  | e :: es, x :: l => e.key = .string (mkS x.1) ∧ e.val = x.2 ∧ EntL es l
  | _, _ => False
theorem str_inj {a b : Bs} : ((mkS a) == (mkS b)) = decide (a = b) := by
  show (a.toArray == b.toArray) = _
  rw [Bool.eq_iff_iff]; simp
structure Found (k : Bs) (es : List MapEntry) (l : List (Bs × Value)) (j : Nat) (v : Value) : Prop where
  get : mget l k = some v
  lt : j < es.length
  key : (es[j]?).map (·.key) = some (.string (mkS k))
  put : ∀ u, EntL (es.modify j fun e => { e with key := .string (mkS k), val := u }) (mput l k u)
  same : EntL (es.modify j fun e => { e with key := .string (mkS k) }) l
  born : ∀ f : MapEntry → MapEntry, (∀ e, (f e).born = e.born) → (es.modify j f).map (·.born) = es.map (·.born)
  del : EntL (es.eraseIdx j) (mdel l k)
  dels : (es.eraseIdx j).Sublist es
theorem find_str (k : Bs) : ∀ (es : List MapEntry) (l : List (Bs × Value)) (i : Nat), EntL es l →
    (mget l k = none ∧ Instr.findNow .string (.string (mkS k)) es i = some none ∧ mdel l k = l) ∨ ∃ j v, Instr.findNow .string (.string (mkS k)) es i = some (some (i + j, v)) ∧ Found k es l j v
  | [], [], i, _ => .inl ⟨rfl, rfl, rfl⟩
  | e :: es, x :: l, i, ⟨h1, h2, h3⟩ => by
    by_cases hk : k = x.1
    · refine .inr ⟨0, e.val, ?_, ?_⟩
      · have hs : Instr.sameNow .string (.string (mkS k)) e.key = some true := by
          rw [h1, ← hk]; show some (mkS k == mkS k) = _; rw [str_inj]; simp
        simp only [Instr.findNow, hs]
        rfl
      · refine ⟨by simp [mget, hk, h2], by simp, by simp [h1, hk], fun u => ?_, ?_, fun f hf => by simp [List.modify, hf], ?_, by simp⟩
        · simp [List.modify, mput, hk, EntL, h3]
        · simp [List.modify, EntL, hk, h2, h3]
        · simpa [mdel, hk] using h3
    · have hs : Instr.sameNow .string (.string (mkS k)) e.key = some false := by
        rw [h1]; show some (mkS k == mkS x.1) = _; rw [str_inj, decide_eq_false hk]
      rcases find_str k es l (i + 1) h3 with ⟨g1, g2, g3⟩ | ⟨j, v, g1, g2⟩
      · refine .inl ⟨by simp [mget, hk, g1], ?_, by simp [mdel, hk, g3]⟩
        simp only [Instr.findNow, hs, g2]
      · refine .inr ⟨j + 1, v, ?_, ?_⟩
        · simp only [Instr.findNow, hs, g1]; rw [show i + 1 + j = i + (j + 1) by omega]
        · refine ⟨by simp [mget, hk, g2.get], by simp [g2.lt], by simpa using g2.key, fun u => ?_, ?_, fun f hf => ?_, ?_, ?_⟩
          · simp only [List.modify_succ_cons, mput, if_neg hk]; exact ⟨h1, h2, g2.put u⟩
          · simp only [List.modify_succ_cons]; exact ⟨h1, h2, g2.same⟩
          · simp only [List.modify_succ_cons, List.map_cons, g2.born f hf]
          · simp only [List.eraseIdx_cons_succ, mdel, if_neg hk]; exact ⟨h1, h2, g2.del⟩
          · simp only [List.eraseIdx_cons_succ]; exact g2.dels.cons_cons e
  | [], _ :: _, _, h => h.elim
  | _ :: _, [], _, h => h.elim
theorem ent_push (k : Bs) (v : Value) (b : Nat) : ∀ (es : List MapEntry) (l : List (Bs × Value)), EntL es l → mget l k = none → EntL (es ++ [⟨.string (mkS k), v, b⟩]) (mput l k v)
  | [], [], _, _ => ⟨rfl, rfl, trivial⟩
  | e :: es, x :: l, ⟨h1, h2, h3⟩, h => by
    by_cases hk : k = x.1
    · simp [mget, hk] at h
    · simp only [mget, if_neg hk] at h
      simp only [mput, if_neg hk, List.cons_append]; exact ⟨h1, h2, ent_push k v b es l h3 h⟩
  | [], _ :: _, h, _ => h.elim
  | _ :: _, [], h, _ => h.elim
theorem ent_len : ∀ {es : List MapEntry} {l : List (Bs × Value)}, EntL es l → es.length = l.length
  | [], [], _ => rfl
  | _ :: _, _ :: _, ⟨_, _, h⟩ => by simp [ent_len h]
  | [], _ :: _, h => h.elim
  | _ :: _, [], h => h.elim
theorem ent_mem : ∀ {es : List MapEntry} {l : List (Bs × Value)} {e : MapEntry}, EntL es l → e ∈ es → ∃ x ∈ l, e.key = .string (mkS x.1) ∧ e.val = x.2
  | e :: es, x :: l, e', ⟨h1, h2, h3⟩, h => by
    rcases List.mem_cons.1 h with rfl | h
    · exact ⟨x, by simp, h1, h2⟩
    · obtain ⟨y, hy, hh⟩ := ent_mem h3 h
      exact ⟨y, List.mem_cons_of_mem _ hy, hh⟩
  | [], [], _, _, h => by cases h
  | [], _ :: _, _, h, _ => h.elim
  | _ :: _, [], _, h, _ => h.elim
theorem ent_mem' : ∀ {es : List MapEntry} {l : List (Bs × Value)} {x : Bs × Value}, EntL es l → x ∈ l → ∃ e ∈ es, e.key = .string (mkS x.1) ∧ e.val = x.2
  | e :: es, x :: l, e', ⟨h1, h2, h3⟩, h => by
    rcases List.mem_cons.1 h with rfl | h
    · exact ⟨e, by simp, h1, h2⟩
    · obtain ⟨y, hy, hh⟩ := ent_mem' h3 h
      exact ⟨y, List.mem_cons_of_mem _ hy, hh⟩
  | [], [], _, _, h => by cases h
  | [], _ :: _, _, h, _ => h.elim
  | _ :: _, [], _, h, _ => h.elim
theorem key_inj : ∀ {es : List MapEntry} {l : List (Bs × Value)} {e e' : MapEntry}, EntL es l → (l.map (·.1)).Nodup → e ∈ es → e' ∈ es → e.key = e'.key → e = e'
  | a :: es, x :: l, e, e', ⟨h1, h2, h3⟩, hn, he, he', hk => by
    rw [List.map_cons, List.nodup_cons] at hn
    rcases List.mem_cons.1 he with q1 | q1 <;> rcases List.mem_cons.1 he' with q2 | q2
    · rw [q1, q2]
    · obtain ⟨y, hy, g1, _⟩ := ent_mem h3 q2
      rw [q1, h1, g1] at hk; simp only [Value.string.injEq] at hk
      exact absurd (List.mem_map.2 ⟨y, hy, (mkS_inj.1 hk).symm⟩) hn.1
    · obtain ⟨y, hy, g1, _⟩ := ent_mem h3 q1
      rw [q2, h1, g1] at hk; simp only [Value.string.injEq] at hk
      exact absurd (List.mem_map.2 ⟨y, hy, mkS_inj.1 hk⟩) hn.1
    · exact key_inj h3 hn.2 q1 q2 hk
  | [], [], _, _, _, _, he, _, _ => by cases he
  | [], _ :: _, _, _, h, _, _, _, _ => h.elim
  | _ :: _, [], _, _, h, _, _, _, _ => h.elim
theorem born_inj : ∀ {es : List MapEntry} {e e' : MapEntry}, (es.map (·.born)).Nodup → e ∈ es → e' ∈ es → e.born = e'.born → e = e'
  | a :: es, e, e', hn, he, he', hb => by
    rw [List.map_cons, List.nodup_cons] at hn
    rcases List.mem_cons.1 he with q1 | q1 <;> rcases List.mem_cons.1 he' with q2 | q2
    · rw [q1, q2]
    · exact absurd (List.mem_map.2 ⟨e', q2, by rw [← hb, q1]⟩) hn.1
    · exact absurd (List.mem_map.2 ⟨e, q1, by rw [hb, q2]⟩) hn.1
    · exact born_inj hn.2 q1 q2 hb
theorem ent_idx : ∀ {es : List MapEntry} {l : List (Bs × Value)} {i j : Nat} {e e' : MapEntry}, EntL es l → (l.map (·.1)).Nodup → es[i]? = some e → es[j]? = some e' → e.key = e'.key → i = j
  | a :: es, x :: l, i, j, e, e', ⟨h1, h2, h3⟩, hn, he, he', hk => by
    rw [List.map_cons, List.nodup_cons] at hn
    rcases i with _ | i <;> rcases j with _ | j
    · rfl
    · simp at he he'; subst he
      obtain ⟨y, hy, g1, _⟩ := ent_mem h3 (List.mem_of_getElem? he')
      rw [h1, g1] at hk; simp only [Value.string.injEq] at hk
      exact absurd (List.mem_map.2 ⟨y, hy, (mkS_inj.1 hk).symm⟩) hn.1
    · simp at he he'; subst he'
      obtain ⟨y, hy, g1, _⟩ := ent_mem h3 (List.mem_of_getElem? he)
      rw [h1, g1] at hk; simp only [Value.string.injEq] at hk
      exact absurd (List.mem_map.2 ⟨y, hy, mkS_inj.1 hk⟩) hn.1
    · simp at he he'
      rw [ent_idx h3 hn.2 he he' hk]
  | [], [], i, j, e, e', _, _, he, _, _ => by simp at he
  | [], _ :: _, _, _, _, _, h, _, _, _, _ => h.elim
  | _ :: _, [], _, _, _, _, h, _, _, _, _ => h.elim
/- the plain laws of put, get, del -/
theorem mget_put (l : List (Bs × α)) (k k' : Bs) (v : α) : mget (mput l k v) k' = if k' = k then some v else mget l k' := by
  induction l with
  | nil => simp [mput, mget]
  | cons x l ih =>
    by_cases h : k = x.1
    · simp only [mput, if_pos h, mget]; subst h; by_cases h2 : k' = x.1 <;> simp [h2]
    · simp only [mput, if_neg h, mget, ih]
      by_cases h2 : k' = x.1
      · rw [if_pos h2, if_pos h2, if_neg (by rw [h2]; exact fun e => h e.symm)]
      · rw [if_neg h2, if_neg h2]
theorem mget_mem {l : List (Bs × α)} {k : Bs} {v : α} (h : mget l k = some v) : (k, v) ∈ l := by
  induction l with
  | nil => cases h
  | cons x l ih =>
    simp only [mget] at h
    split at h
    · rename_i e; cases h; subst e; exact List.mem_cons_self ..
    · exact List.mem_cons_of_mem _ (ih h)
theorem mget_of_mem {l : List (Bs × α)} (hn : (l.map (·.1)).Nodup) {k : Bs} {v : α} (h : (k, v) ∈ l) : mget l k = some v := by
  induction l with
  | nil => cases h
  | cons x l ih =>
    rw [List.map_cons, List.nodup_cons] at hn
    rcases List.mem_cons.1 h with e | h
    · subst e; simp [mget]
    · simp only [mget]
      rw [if_neg, ih hn.2 h]
      intro e
      exact hn.1 (List.mem_map.2 ⟨_, h, e⟩)
theorem mget_none {l : List (Bs × α)} {k : Bs} : mget l k = none ↔ k ∉ l.map (·.1) := by
  induction l with
  | nil => simp [mget]
  | cons x l ih =>
    by_cases h : k = x.1
    · simp [mget, h]
    · simp only [mget]; rw [if_neg h, ih]; simp [h]
theorem mput_keys (l : List (Bs × α)) (k : Bs) (v : α) : (mput l k v).map (·.1) = if mget l k = none then l.map (·.1) ++ [k] else l.map (·.1) := by
  induction l with
  | nil => simp [mput, mget]
  | cons x l ih =>
    by_cases h : k = x.1
    · simp [mput, mget, h]
    · simp only [mput, mget, if_neg h, List.map_cons, ih]
      split <;> simp
theorem mput_nodup {l : List (Bs × α)} (h : (l.map (·.1)).Nodup) (k : Bs) (v : α) : ((mput l k v).map (·.1)).Nodup := by
  rw [mput_keys]
  split
  · rename_i hn
    rw [List.nodup_append]
    refine ⟨h, by simp, fun a ha b hb e => ?_⟩
    rw [List.mem_singleton] at hb
    subst hb; subst e
    exact mget_none.1 hn ha
  · exact h
theorem mdel_sub (l : List (Bs × α)) (k : Bs) : (mdel l k).Sublist l := by
  induction l with
  | nil => exact List.Sublist.refl _
  | cons x l ih =>
    simp only [mdel]
    split
    · exact List.sublist_cons_self ..
    · exact ih.cons_cons x
theorem mget_del {l : List (Bs × α)} (hn : (l.map (·.1)).Nodup) (k k' : Bs) : mget (mdel l k) k' = if k' = k then none else mget l k' := by
  induction l with
  | nil => simp [mdel, mget]
  | cons x l ih =>
    rw [List.map_cons, List.nodup_cons] at hn
    by_cases h : k = x.1
    · simp only [mdel, if_pos h, mget]
      by_cases h2 : k' = k
      · rw [if_pos h2]; subst h2; rw [mget_none]; rw [h]; exact hn.1
      · rw [if_neg h2, if_neg (by rw [← h]; exact h2)]
    · simp only [mdel, if_neg h, mget, ih hn.2]
      by_cases h2 : k' = x.1
      · rw [if_pos h2, if_pos h2, if_neg (by rw [h2]; exact fun e => h e.symm)]
      · rw [if_neg h2, if_neg h2]
theorem mdel_nodup {l : List (Bs × α)} (h : (l.map (·.1)).Nodup) (k : Bs) : ((mdel l k).map (·.1)).Nodup := h.sublist ((mdel_sub l k).map _)
theorem mput_len (l : List (Bs × α)) (k : Bs) (v : α) : (mput l k v).length = l.length + if mget l k = none then 1 else 0 := by
  have := congrArg List.length (mput_keys l k v)
  simp only [List.length_map] at this
  rw [this]; split <;> simp

variable {P : Program} {H H' : Heap}
/-- block b is a map: its keys are strings -/
structure MapO (H : Heap) (b : Nat) (l : List (Bs × Value)) : Prop where
  out : ∃ es clock, H[b]? = some (.map es clock) ∧ EntL es.toList l ∧ (es.toList.map (·.born)).Nodup ∧ (∀ e ∈ es.toList, e.born < clock)
  nodup : (l.map (·.1)).Nodup
theorem MapO.lt {b : Nat} {l : List (Bs × Value)} (h : MapO H b l) : b < H.size := let ⟨_, _, h, _⟩ := h.out; (Array.getElem?_eq_some_iff.1 h).1
theorem MapO.keep {F : Nat → Prop} {b : Nat} {l : List (Bs × Value)} (h : MapO H b l) (k : Only F H H') (hb : ¬ F b) : MapO H' b l :=
  let ⟨es, c, h1, h2⟩ := h.out; ⟨⟨es, c, (k.same b h.lt hb).trans h1, h2⟩, h.nodup⟩
theorem MapO.ext {b : Nat} {l : List (Bs × Value)} (h : MapO H b l) (k : Ext H H') : MapO H' b l := h.keep k id
theorem MapO.but {b g : Nat} {l : List (Bs × Value)} (h : MapO H b l) (k : But g H H') (hb : b ≠ g) : MapO H' b l := h.keep k hb
/-- a map is no block of cells -/
theorem MapO.ne {b g : Nat} {l : List (Bs × Value)} {c : Array Value} {t : TypeId} (h : MapO H b l) (k : Blk H g c t) : b ≠ g := by
  rintro rfl
  obtain ⟨_, _, h1, _⟩ := h.out
  obtain ⟨_, h2, _⟩ := k.out
  rw [h1] at h2; cases h2
theorem MapO.wr {b base n cap size : Nat} {e : TypeId} {a : Option Addr} {xs : List Value} {l : List (Bs × Value)} (h : MapO H b l) (ho : Own H base e size a n cap xs) (k : Wr a H H') : MapO H' b l := by
  refine h.keep k ?_
  rintro ⟨p, ha, hp⟩
  rcases ho.out with ⟨h1, _⟩ | ⟨g, cur, h1, _, hb, _⟩
  · rw [h1] at ha; cases ha
  · rw [h1] at ha; cases ha
    exact h.ne hb hp.symm
theorem run_keyN {kt : TypeId} (hk : P.underlying kt = some .string) (m : Bool) (n : Nat) (v : ByteArray) (w : World) : (Instr.checkKey m (n + 1) kt (.string v)).run P w = .ok () w := by
  unfold Instr.checkKey
  simp only [Sem.run_bind, underlying_of hk, Result.andThen_ok, Sem.run_pure]
theorem run_key {kt : TypeId} (hk : P.underlying kt = some .string) (m : Bool) (v : ByteArray) (w : World) : (Instr.checkKey m 10000 kt (.string v)).run P w = .ok () w := run_keyN hk m 9999 v w
theorem run_find {kt : TypeId} (hk : P.underlying kt = some .string) {k : Bs} {es : List MapEntry} {r : Option (Nat × Value)} (h : Instr.findNow .string (.string (mkS k)) es 0 = some r) (w : World) :
    (Instr.findKey kt (.string (mkS k)) es).run P w = .ok r w := by
  simp [Instr.findKey, Sem.run_bind, underlying_of hk, h]
theorem same_bitsN (n : Nat) (k : Bs) : Instr.sameBits n (.string (mkS k)) (.string (mkS k)) = true := by
  have h : (mkS k == mkS k) = true := by rw [str_inj]; simp
  cases n <;> exact h
theorem same_bits (k : Bs) : Instr.sameBits 10000 (.string (mkS k)) (.string (mkS k)) = true := same_bitsN _ k
theorem stays (k : Bs) : Instr.keyThatStays (.string (mkS k)) (.string (mkS k)) = pure (.string (mkS k)) := by unfold Instr.keyThatStays; rw [if_pos (same_bits k)]
theorem run_getMap {w : World} {b : Nat} {es : Array MapEntry} {c : Nat} (h : w.heap[b]? = some (.map es c)) : (getObj b).run P w = .ok (.map es c) w := by simp [getObj, Sem.run, h]
theorem run_setMap {w : World} {b : Nat} {es : Array MapEntry} {c : Nat} (h : w.heap[b]? = some (.map es c)) (o : Obj) : (setObj b o).run P w = .ok () { w with heap := w.heap.setIfInBounds b o } := by simp [setObj, Sem.run, h]

theorem SemH.makeMap0 {t : TypeId} {K : Value → Heap → Prop} (hk : ∀ H', H'.size = H.size + 1 → MapO H' H.size [] → Ext H H' → K (.map (some H.size)) H') : SemH P (Instr.makeMap t none) H K := by
  refine ⟨fun w hw => ⟨.map (some w.heap.size), { w with heap := w.heap.push (.map #[] 0) }, ?_, ⟨rfl, rfl, rfl⟩, ?_⟩⟩
  · simp [Instr.makeMap, Sem.run_bind, run_newObj]
  · subst hw
    exact hk _ (by simp) ⟨⟨#[], 0, push_last _ _, trivial, by simp, by simp⟩, by simp⟩ (Only.push _ _ _)
theorem SemH.lookupS {t kt et : TypeId} {i : TypeInfo} {z : Value} {b : Nat} {l : List (Bs × Value)} {k : Bs} {K : Value → Heap → Prop} (hm : MapO H b l) (ht : P.underlying t = some (.map kt et)) (hk : P.underlying kt = some .string)
    (hi : P.info? et = some i) (hz : i.zero = some z) (h : K ((mget l k).getD z) H) : SemH P (Instr.lookup t (.map (some b)) (.string (mkS k)) false) H K := by
  obtain ⟨es, c, h1, h2, h3, h4⟩ := hm.out
  refine ⟨fun w hw => ⟨_, w, ?_, Same.refl w, by rw [hw]; exact h⟩⟩
  subst hw
  rcases find_str k es.toList l 0 h2 with ⟨g1, g2, _⟩ | ⟨j, v, g1, g2⟩
  · simp [Instr.lookup, Sem.run_bind, underlying_of ht, run_getMap h1, run_key hk, run_find hk g2, zeroValue, typeInfo_of hi, hz, g1]
  · simp [Instr.lookup, Sem.run_bind, underlying_of ht, run_getMap h1, run_key hk, run_find hk g1, g2.get]
theorem SemH.lookupOk {t kt et : TypeId} {i : TypeInfo} {z : Value} {b : Nat} {l : List (Bs × Value)} {k : Bs} {K : Value → Heap → Prop} (hm : MapO H b l) (ht : P.underlying t = some (.map kt et)) (hk : P.underlying kt = some .string)
    (hi : P.info? et = some i) (hz : i.zero = some z) (h : K (.tuple #[(mget l k).getD z, .bool (mget l k).isSome]) H) : SemH P (Instr.lookup t (.map (some b)) (.string (mkS k)) true) H K := by
  obtain ⟨es, c, h1, h2, h3, h4⟩ := hm.out
  refine ⟨fun w hw => ⟨_, w, ?_, Same.refl w, by rw [hw]; exact h⟩⟩
  subst hw
  rcases find_str k es.toList l 0 h2 with ⟨g1, g2, _⟩ | ⟨j, v, g1, g2⟩
  · simp [Instr.lookup, Sem.run_bind, underlying_of ht, run_getMap h1, run_key hk, run_find hk g2, zeroValue, typeInfo_of hi, hz, g1]
  · simp [Instr.lookup, Sem.run_bind, underlying_of ht, run_getMap h1, run_key hk, run_find hk g1, g2.get]
theorem MapO.set {b : Nat} {l l' : List (Bs × Value)} {es' : Array MapEntry} {c' : Nat} (hm : MapO H b l) (h2 : EntL es'.toList l') (h3 : (es'.toList.map (·.born)).Nodup) (h4 : ∀ e ∈ es'.toList, e.born < c') (hn : (l'.map (·.1)).Nodup) :
    MapO (H.setIfInBounds b (.map es' c')) b l' :=
  ⟨⟨es', c', by rw [Array.getElem?_setIfInBounds_self_of_lt hm.lt], h2, h3, h4⟩, hn⟩
theorem born_modify {es : List MapEntry} {j : Nat} {f : MapEntry → MapEntry} (h : (es.modify j f).map (·.born) = es.map (·.born)) {c : Nat} (hc : ∀ e ∈ es, e.born < c) : ∀ e ∈ es.modify j f, e.born < c := by
  intro e he
  have : e.born ∈ (es.modify j f).map (·.born) := List.mem_map.2 ⟨e, he, rfl⟩
  rw [h] at this
  obtain ⟨e', h1, h2⟩ := List.mem_map.1 this
  rw [← h2]; exact hc e' h1
theorem DoH.mapPut {t kt et : TypeId} {b : Nat} {l : List (Bs × Value)} {k : Bs} {v : Value} {K : Heap → Prop} (hm : MapO H b l) (ht : P.underlying t = some (.map kt et)) (hk : P.underlying kt = some .string)
    (h : ∀ H', H'.size = H.size → MapO H' b (mput l k v) → But b H H' → K H') : DoH P (Instr.mapUpdate t (.map (some b)) (.string (mkS k)) v) H K := by
  obtain ⟨es, c, h1, h2, h3, h4⟩ := hm.out
  refine ⟨fun w hw => ?_⟩
  subst hw
  rcases find_str k es.toList l 0 h2 with ⟨g1, g2, _⟩ | ⟨j, u, g1, g2⟩
  · refine ⟨{ w with heap := w.heap.setIfInBounds b (.map (es.push ⟨.string (mkS k), v, c⟩) (c + 1)) }, ?_, ⟨rfl, rfl, rfl⟩, h _ (by simp) (hm.set ?_ ?_ ?_ (mput_nodup hm.nodup k v)) (Only.set _ _ _)⟩
    · simp [Instr.mapUpdate, Sem.run_bind, underlying_of ht, run_getMap h1, run_key hk, run_find hk g2, run_setMap h1]
    · rw [Array.toList_push]; exact ent_push k v c es.toList l h2 g1
    · rw [Array.toList_push, List.map_append, List.nodup_append]
      refine ⟨h3, by simp, fun a ha b hb e => ?_⟩
      obtain ⟨e1, he1, rfl⟩ := List.mem_map.1 ha
      simp at hb; subst hb
      have := h4 e1 he1; omega
    · intro e he
      rw [Array.toList_push] at he
      rcases List.mem_append.1 he with he | he
      · have := h4 e he; omega
      · simp at he; subst he; show c < c + 1; omega
  · refine ⟨{ w with heap := w.heap.setIfInBounds b (.map (es.modify j fun e => { e with key := .string (mkS k), val := v }) c) }, ?_, ⟨rfl, rfl, rfl⟩, h _ (by simp) (hm.set ?_ ?_ ?_ (mput_nodup hm.nodup k v)) (Only.set _ _ _)⟩
    · have hkey : ((es[j]?).map (·.key)).getD (.string (mkS k)) = .string (mkS k) := by
        have := g2.key; rw [Array.getElem?_toList] at this; rw [this]; rfl
      simp only [Nat.zero_add] at g1
      simp only [Instr.mapUpdate, Sem.run_bind, underlying_of ht, run_getMap h1, run_key hk, run_find hk g1, Result.andThen_ok, hkey, Instr.keyThatStays, same_bits, if_true, Sem.run_pure, run_setMap h1]
    · rw [Array.toList_modify]; exact g2.put v
    · rw [Array.toList_modify, g2.born (fun e => { e with key := .string (mkS k), val := v }) fun e => rfl]; exact h3
    · rw [Array.toList_modify]; exact born_modify (g2.born (fun e => { e with key := .string (mkS k), val := v }) fun e => rfl) h4
theorem findIdx_list (p : MapEntry → Bool) (es : Array MapEntry) : es.toList.findIdx? p = es.findIdx? p := by
  obtain ⟨l⟩ := es
  rw [List.findIdx?_toArray]
/-- the entry at a key bears this stamp -/
structure StampO (H : Heap) (b : Nat) (k : Bs) (s : Int) : Prop where
  out : ∃ es clock j, H[b]? = some (.map es clock) ∧ es.findIdx? (fun e => (e.born : Int) == s) = some j ∧ (es[j]?).map (·.key) = some (.string (mkS k))
theorem find_stamp : ∀ (es : List MapEntry) (j : Nat) (e : MapEntry), (es.map (·.born)).Nodup → es[j]? = some e → es.findIdx? (fun x => (x.born : Int) == (e.born : Int)) = some j
  | x :: es, 0, e, hn, h => by
    simp at h; subst h
    simp [List.findIdx?_cons]
  | x :: es, j + 1, e, hn, h => by
    rw [List.map_cons, List.nodup_cons] at hn
    simp at h
    have hne : x.born ≠ e.born := fun he => hn.1 (by rw [he]; exact List.mem_map.2 ⟨e, List.mem_of_getElem? h, rfl⟩)
    have hb : ((x.born : Int) == (e.born : Int)) = false := by rw [beq_eq_false_iff_ne]; omega
    rw [List.findIdx?_cons, hb, find_stamp es j e hn.2 h]
    rfl
theorem mput_same {l : List (Bs × α)} {k : Bs} {v : α} (h : mget l k = some v) : mput l k v = l := by
  induction l with
  | nil => cases h
  | cons x l ih =>
    simp only [mget] at h
    simp only [mput]
    split at h
    · rename_i e; cases h; subst e; simp
    · rename_i e; rw [if_neg e, ih h]
theorem SemH.mapEntryS {t kt et : TypeId} {i : TypeInfo} {z : Value} {b : Nat} {l : List (Bs × Value)} {k : Bs} {K : Value → Heap → Prop} (hm : MapO H b l) (ht : P.underlying t = some (.map kt et)) (hk : P.underlying kt = some .string)
    (hi : P.info? et = some i) (hz : i.zero = some z) (h : ∀ s H', H'.size = H.size → MapO H' b (mput l k ((mget l k).getD z)) → StampO H' b k s → But b H H' → K (.tuple #[(mget l k).getD z, .int .i64 s]) H') : SemH P (Instr.mapEntry t (.map (some b)) (.string (mkS k))) H K := by
  obtain ⟨es, c, h1, h2, h3, h4⟩ := hm.out
  refine ⟨fun w hw => ?_⟩
  subst hw
  rcases find_str k es.toList l 0 h2 with ⟨g1, g2, _⟩ | ⟨j, u, g1, g2⟩
  · rw [g1] at h
    have hnew : ((es.push ⟨.string (mkS k), z, c⟩).toList.map (·.born)).Nodup := by
      rw [Array.toList_push, List.map_append, List.nodup_append]
      refine ⟨h3, by simp, fun a ha b hb e => ?_⟩
      obtain ⟨e1, he1, rfl⟩ := List.mem_map.1 ha
      simp at hb; subst hb
      have := h4 e1 he1; omega
    refine ⟨.tuple #[z, goInt c], { w with heap := w.heap.setIfInBounds b (.map (es.push ⟨.string (mkS k), z, c⟩) (c + 1)) }, ?_, ⟨rfl, rfl, rfl⟩, h c _ (by simp) (hm.set ?_ hnew ?_ (mput_nodup hm.nodup k z)) ⟨es.push ⟨.string (mkS k), z, c⟩, c + 1, es.size, ?_, ?_, ?_⟩ (Only.set _ _ _)⟩
    · simp [Instr.mapEntry, Sem.run_bind, underlying_of ht, run_getMap h1, run_key hk, run_find hk g2, run_setMap h1, zeroValue, typeInfo_of hi, hz]
    · rw [Array.toList_push]; exact ent_push k z c es.toList l h2 g1
    · intro e he
      rw [Array.toList_push] at he
      rcases List.mem_append.1 he with he | he
      · have := h4 e he; omega
      · simp at he; subst he; show c < c + 1; omega
    · rw [Array.getElem?_setIfInBounds_self_of_lt hm.lt]
    · have := find_stamp (es.push ⟨.string (mkS k), z, c⟩).toList es.size ⟨.string (mkS k), z, c⟩ hnew (by simp)
      rw [findIdx_list] at this; exact this
    · simp
  · rw [g2.get] at h
    have hb := g2.born (fun e => { e with key := .string (mkS k) }) fun e => rfl
    obtain ⟨e0, he0⟩ : ∃ e0, es.toList[j]? = some e0 := ⟨_, List.getElem?_eq_getElem g2.lt⟩
    have hj := he0
    rw [Array.getElem?_toList] at hj
    refine ⟨.tuple #[u, goInt e0.born], { w with heap := w.heap.setIfInBounds b (.map (es.modify j fun e => { e with key := .string (mkS k) }) c) }, ?_, ⟨rfl, rfl, rfl⟩, h e0.born _ (by simp) (hm.set ?_ ?_ ?_ (mput_nodup hm.nodup k _)) ⟨_, _, j, Array.getElem?_setIfInBounds_self_of_lt hm.lt, ?_, ?_⟩ (Only.set _ _ _)⟩
    · have hkey : e0.key = .string (mkS k) := by
        have := g2.key; rw [he0] at this; simpa using this
      simp only [Nat.zero_add] at g1
      simp only [Instr.mapEntry, Sem.run_bind, underlying_of ht, run_getMap h1, run_key hk, run_find hk g1, Result.andThen_ok, hj, Option.map_some, Option.getD_some, hkey, stays, Sem.run_pure, run_setMap h1]
    · rw [Array.toList_modify, Option.getD_some, mput_same g2.get]; exact g2.same
    · rw [Array.toList_modify, hb]; exact h3
    · rw [Array.toList_modify]; exact born_modify hb h4
    · rw [← findIdx_list, Array.toList_modify]
      have hm2 : (es.toList.modify j fun e => { e with key := .string (mkS k) })[j]? = some { e0 with key := .string (mkS k) } := by rw [List.getElem?_modify_eq, he0]; rfl
      exact find_stamp _ j { e0 with key := .string (mkS k) } (by rw [hb]; exact h3) hm2
    · rw [← Array.getElem?_toList, Array.toList_modify, List.getElem?_modify_eq, he0]; rfl
theorem DoH.entryStoreS {t : TypeId} {b : Nat} {l : List (Bs × Value)} {k : Bs} {s : Int} {v : Value} {K : Heap → Prop} (hm : MapO H b l) (hs : StampO H b k s)
    (h : ∀ H', H'.size = H.size → MapO H' b (mput l k v) → But b H H' → K H') : DoH P (Instr.entryStore t (.map (some b)) (.int .i64 s) v) H K := by
  obtain ⟨es, c, h1, h2, h3, h4⟩ := hm.out
  obtain ⟨es', c', j', e1, e2, e3⟩ := hs.out
  rw [h1] at e1; cases e1
  refine ⟨fun w hw => ?_⟩
  subst hw
  rcases find_str k es.toList l 0 h2 with ⟨g1, _, _⟩ | ⟨j, u, g1, g2⟩
  · exfalso
    obtain ⟨e, he, hek⟩ : ∃ e, es[j']? = some e ∧ e.key = .string (mkS k) := by
      cases hx : es[j']? with
      | none => rw [hx] at e3; cases e3
      | some e => rw [hx] at e3; simp at e3; exact ⟨e, rfl, e3⟩
    obtain ⟨x, hx, hk, _⟩ := ent_mem h2 (List.mem_of_getElem? (by rw [Array.getElem?_toList]; exact he))
    rw [hk] at hek
    simp only [Value.string.injEq] at hek
    have := mkS_inj.1 hek
    exact mget_none.1 g1 (List.mem_map.2 ⟨x, hx, this⟩)
  · have hjj : j' = j := by
      obtain ⟨e, he, hek⟩ : ∃ e, es[j']? = some e ∧ e.key = .string (mkS k) := by
        cases hx : es[j']? with
        | none => rw [hx] at e3; cases e3
        | some e => rw [hx] at e3; simp at e3; exact ⟨e, rfl, e3⟩
      have hkj := g2.key
      obtain ⟨x0, hx0⟩ : ∃ x0, es.toList[j]? = some x0 := ⟨_, List.getElem?_eq_getElem g2.lt⟩
      rw [hx0] at hkj
      simp at hkj
      exact ent_idx h2 hm.nodup (by rw [Array.getElem?_toList]; exact he) hx0 (by rw [hek, hkj])
    subst hjj
    have hb := g2.born (fun e => { e with val := v }) fun e => rfl
    have hput : (es.toList.modify j' fun e => { e with val := v }) = es.toList.modify j' fun e => { e with key := .string (mkS k), val := v } := by
      apply List.ext_getElem? ; intro i
      rw [List.getElem?_modify, List.getElem?_modify]
      by_cases hi : j' = i
      · subst hi
        simp only [if_pos rfl]
        obtain ⟨x0, hx0⟩ : ∃ x0, es.toList[j']? = some x0 := ⟨_, List.getElem?_eq_getElem g2.lt⟩
        have := g2.key
        rw [hx0] at this ⊢
        simp at this
        simp [← this]
      · simp [hi]
    refine ⟨{ w with heap := w.heap.setIfInBounds b (.map (es.modify j' fun e => { e with val := v }) c) }, ?_, ⟨rfl, rfl, rfl⟩, h _ (by simp) (hm.set ?_ ?_ ?_ (mput_nodup hm.nodup k v)) (Only.set _ _ _)⟩
    · simp [Instr.entryStore, Sem.run_bind, run_getMap h1, asInt, asIntOf, e2, run_setMap h1]
    · rw [Array.toList_modify, hput]; exact g2.put v
    · rw [Array.toList_modify, hb]; exact h3
    · rw [Array.toList_modify]; exact born_modify hb h4
theorem NextH.mapDelete {t u kt et ty : TypeId} {cb : Array Bool} {b : Nat} {l : List (Bs × Value)} {k : Bs} {K : Value → Heap → Prop} (hm : MapO H b l) (ht : P.underlying t = some (.map kt et)) (hk : P.underlying kt = some .string)
    (h : ∀ H', H'.size = H.size → MapO H' b (mdel l k) → But b H H' → K (.tuple #[]) H') : NextH P (builtin .delete #[t, u] ty cb #[.map (some b), .string (mkS k)]) H K := by
  obtain ⟨es, c, h1, h2, h3, h4⟩ := hm.out
  refine ⟨fun w hw => ?_⟩
  subst hw
  have key : ∃ es' : Array MapEntry, (Builtin.delete_ #[t, u] ty #[.map (some b), .string (mkS k)]).run P w = .ok (.tuple #[]) { w with heap := w.heap.setIfInBounds b (.map es' c) } ∧ EntL es'.toList (mdel l k) ∧ es'.toList.Sublist es.toList := by
    rcases find_str k es.toList l 0 h2 with ⟨g1, g2, g3⟩ | ⟨j, u, g1, g2⟩
    · refine ⟨es, ?_, by rw [g3]; exact h2, List.Sublist.refl _⟩
      simp [Builtin.delete_, Sem.run_bind, underlying_of ht, run_getMap h1, run_key hk, run_find hk g2, run_setMap h1]
    · refine ⟨es.eraseIdxIfInBounds j, ?_, by rw [Array.toList_eraseIdxIfInBounds]; exact g2.del, by rw [Array.toList_eraseIdxIfInBounds]; exact g2.dels⟩
      simp [Builtin.delete_, Sem.run_bind, underlying_of ht, run_getMap h1, run_key hk, run_find hk g1, run_setMap h1]
  obtain ⟨es', hr, he, hsub⟩ := key
  show Nexts P w K ((do pure (.value (← Builtin.delete_ #[t, u] ty #[.map (some b), .string (mkS k)])) : Sem Next).run P w)
  rw [Sem.run_bind, hr]
  refine ⟨⟨rfl, rfl, rfl⟩, h _ (by simp) (hm.set he (h3.sublist (hsub.map _)) (fun e he => h4 e (hsub.subset he)) (mdel_nodup hm.nodup k)) (Only.set _ _ _)⟩
theorem SemH.mapLen {t kt et ty : TypeId} {ts : Array TypeId} {b : Nat} {l : List (Bs × Value)} {K : Value → Heap → Prop} (hm : MapO H b l) (h0 : ts[0]? = some t) (ht : P.underlying t = some (.map kt et))
    (h : K (.int .i64 l.length) H) : SemH P (Builtin.len_ ts ty #[.map (some b)]) H K := by
  obtain ⟨es, c, h1, h2, h3, h4⟩ := hm.out
  refine ⟨fun w hw => ⟨_, w, ?_, Same.refl w, by rw [hw]; exact h⟩⟩
  subst hw
  have : es.size = l.length := by rw [← ent_len h2, Array.length_toList]
  simp [Builtin.len_, h0, Sem.run_bind, underlying_of ht, run_getMap h1, this, goInt]

/-- an iterator over the map of block b, which has handed out the keys vis -/
structure IterO (H : Heap) (r b : Nat) (l : List (Bs × Value)) (vis : List Bs) : Prop where
  out : ∃ es clock since seen c0, H[r]? = some (.mapIter (some b) since seen c0) ∧ H[b]? = some (.map es clock) ∧ since ≤ c0 ∧ since ≤ clock ∧ (∀ e ∈ es.toList, e.born < since) ∧ (∀ e ∈ es.toList, ∀ k, e.key = .string (mkS k) → (e.born ∈ seen ↔ k ∈ vis))
  map : MapO H b l
  nodup : vis.Nodup
  sub : ∀ k ∈ vis, k ∈ l.map (·.1)
/-- the iterator stands at this entry -/
structure CurO (H : Heap) (r b : Nat) (k : Bs) (v : Value) : Prop where
  out : ∃ (es : Array MapEntry) (clock since : Nat) (seen : Array Nat) (e : MapEntry), H[r]? = some (.mapIter (some b) since (seen.push e.born) clock) ∧ H[b]? = some (.map es clock) ∧ e ∈ es.toList ∧ (es.toList.map (·.born)).Nodup ∧ e.key = .string (mkS k) ∧ e.val = v
theorem IterO.lt {r b : Nat} {l : List (Bs × Value)} {vis : List Bs} (h : IterO H r b l vis) : r < H.size := let ⟨_, _, _, _, _, h, _⟩ := h.out; (Array.getElem?_eq_some_iff.1 h).1
theorem IterO.keep {F : Nat → Prop} {r b : Nat} {l : List (Bs × Value)} {vis : List Bs} (h : IterO H r b l vis) (k : Only F H H') (hr : ¬ F r) (hb : ¬ F b) : IterO H' r b l vis :=
  let ⟨es, c, s, se, c0, h1, h2, h3⟩ := h.out
  ⟨⟨es, c, s, se, c0, (k.same r h.lt hr).trans h1, (k.same b h.map.lt hb).trans h2, h3⟩, h.map.keep k hb, h.nodup, h.sub⟩
theorem IterO.ext {r b : Nat} {l : List (Bs × Value)} {vis : List Bs} (h : IterO H r b l vis) (k : Ext H H') : IterO H' r b l vis := h.keep k id id
theorem IterO.ne {r b : Nat} {l : List (Bs × Value)} {vis : List Bs} (h : IterO H r b l vis) : r ≠ b := by
  rintro rfl
  obtain ⟨_, _, _, _, _, h1, h2, _⟩ := h.out
  rw [h1] at h2; cases h2
theorem IterO.neB {r b g : Nat} {l : List (Bs × Value)} {vis : List Bs} {c : Array Value} {t : TypeId} (h : IterO H r b l vis) (k : Blk H g c t) : r ≠ g := by
  rintro rfl
  obtain ⟨_, _, _, _, _, h1, _⟩ := h.out
  obtain ⟨_, h2, _⟩ := k.out
  rw [h1] at h2; cases h2
theorem IterO.neM {r b g : Nat} {l m : List (Bs × Value)} {vis : List Bs} (h : IterO H r b l vis) (k : MapO H g m) : r ≠ g := by
  rintro rfl
  obtain ⟨_, _, _, _, _, h1, _⟩ := h.out
  obtain ⟨_, _, h2, _⟩ := k.out
  rw [h1] at h2; cases h2
theorem IterO.wr {r b base n cap size : Nat} {e : TypeId} {a : Option Addr} {xs : List Value} {l : List (Bs × Value)} {vis : List Bs} (h : IterO H r b l vis) (ho : Own H base e size a n cap xs) (k : Wr a H H') : IterO H' r b l vis := by
  refine h.keep k ?_ ?_ <;>
  · rintro ⟨p, ha, hp⟩
    rcases ho.out with ⟨h1, _⟩ | ⟨g, cur, h1, _, hb, _⟩
    · rw [h1] at ha; cases ha
    · rw [h1] at ha; cases ha
      first | exact h.neB hb hp.symm | exact h.map.ne hb hp.symm
/-- all keys have been handed out -/
theorem perm_of_all {l : List Bs} {vis : List Bs} (h1 : l.Nodup) (h2 : vis.Nodup) (h3 : ∀ k ∈ vis, k ∈ l) (h4 : ∀ k ∈ l, k ∈ vis) : vis.Perm l :=
  (List.perm_ext_iff_of_nodup h2 h1).2 fun k => ⟨h3 k, h4 k⟩
theorem nodup_len : ∀ {vis l : List Bs}, vis.Nodup → (∀ k ∈ vis, k ∈ l) → vis.length ≤ l.length
  | [], _, _, _ => Nat.zero_le _
  | k :: vis, l, h2, h3 => by
    rw [List.nodup_cons] at h2
    have hk := h3 k (by simp)
    have := nodup_len (l := l.erase k) h2.2 fun x hx => (List.mem_erase_of_ne (fun e => h2.1 (by rw [← e]; exact hx))).2 (h3 x (by simp [hx]))
    rw [List.length_erase_of_mem hk] at this
    have := List.length_pos_of_mem hk
    simp only [List.length_cons]; omega
theorem SemH.rangeMap {t kt et : TypeId} {b : Nat} {l : List (Bs × Value)} {K : Value → Heap → Prop} (hm : MapO H b l) (ht : P.underlying t = some (.map kt et))
    (h : ∀ H', H'.size = H.size + 1 → IterO H' H.size b l [] → Ext H H' → K (.pointer (some ⟨H.size, 0, none⟩)) H') : SemH P (Instr.range t (.map (some b))) H K := by
  obtain ⟨es, c, h1, h2, h3, h4⟩ := hm.out
  refine ⟨fun w hw => ⟨.pointer (some ⟨w.heap.size, 0, none⟩), { w with heap := w.heap.push (.mapIter (some b) c #[] c) }, ?_, ⟨rfl, rfl, rfl⟩, ?_⟩⟩
  · subst hw
    simp [Instr.range, Sem.run_bind, underlying_of ht, run_getMap h1, run_newObj]
  · subst hw
    have hx : Ext w.heap (w.heap.push (.mapIter (some b) c #[] c)) := Only.push _ _ _
    exact h _ (by simp) ⟨⟨es, c, c, #[], c, push_last _ _, (hx.same b hm.lt id).trans h1, Nat.le_refl _, Nat.le_refl _, h4, by simp⟩, hm.ext hx, by simp, by simp⟩ hx
theorem SemH.nextMap {ty : TypeId} {r b : Nat} {l : List (Bs × Value)} {vis : List Bs} {K : Value → Heap → Prop} (hi : IterO H r b l vis)
    (h0 : (∀ k ∈ l.map (·.1), k ∈ vis) → K (.tuple #[.bool false]) H)
    (h1 : ∀ k v H', (k, v) ∈ l → k ∉ vis → H'.size = H.size → IterO H' r b l (vis ++ [k]) → CurO H' r b k v → But r H H' → K (.tuple #[.bool true, .string (mkS k), v]) H') : SemH P (Instr.next (.pointer (some ⟨r, 0, none⟩)) false ty) H K := by
  obtain ⟨es, clock, since, seen, c0, hr, hb, hsc, hsk, hold, hseen⟩ := hi.out
  obtain ⟨es', clock', g1, g2, g3, g4⟩ := hi.map.out
  rw [hb] at g1; cases g1
  refine ⟨fun w hw => ?_⟩
  subst hw
  rcases run_next_at (P := P) w ty r b since c0 seen es clock hr hb hold hsc with ⟨hl, hrun⟩ | ⟨e, he, w1, hw1, hrun⟩
  · refine ⟨_, w, hrun, Same.refl w, h0 fun k hk => ?_⟩
    obtain ⟨x, hx, rfl⟩ := List.mem_map.1 hk
    obtain ⟨e, he, hek, _⟩ := ent_mem' g2 hx
    apply Classical.byContradiction
    intro hn
    have : e ∈ (leftOf es seen).toList := by
      unfold leftOf
      rw [Array.toList_filter, List.mem_filter]
      refine ⟨he, ?_⟩
      have := mt (hseen e he x.1 hek).1 hn
      simpa using this
    have hz : (leftOf es seen).toList.length = 0 := by rw [Array.length_toList]; exact hl
    rw [List.length_eq_zero_iff.1 hz] at this; cases this
  · have hmem : e ∈ es.toList ∧ e.born ∉ seen := by
      unfold leftOf at he
      rw [Array.toList_filter, List.mem_filter] at he
      exact ⟨he.1, by simpa using he.2⟩
    obtain ⟨x, hx, hek, hev⟩ := ent_mem g2 hmem.1
    have hnv : x.1 ∉ vis := mt (hseen e hmem.1 x.1 hek).2 hmem.2
    have hw1h : w1.heap = w.heap := by rcases hw1 with rfl | rfl <;> rfl
    have hw1s : Same w w1 := by rcases hw1 with rfl | rfl <;> exact ⟨rfl, rfl, rfl⟩
    have hne : b ≠ r := fun e => hi.ne e.symm
    have hbut : But r w.heap (w.heap.setIfInBounds r (.mapIter (some b) since (seen.push e.born) clock)) := Only.set _ _ _
    refine ⟨_, _, hrun, ⟨hw1s.os, hw1s.tape, hw1s.output⟩, ?_⟩
    show K _ ((setBlock w1 r _).heap)
    simp only [setBlock, hw1h]
    rw [hek, hev]
    have hr2 : (w.heap.setIfInBounds r (.mapIter (some b) since (seen.push e.born) clock))[r]? = some (.mapIter (some b) since (seen.push e.born) clock) := Array.getElem?_setIfInBounds_self_of_lt hi.lt
    have hb2 : (w.heap.setIfInBounds r (.mapIter (some b) since (seen.push e.born) clock))[b]? = some (.map es clock) := (hbut.same b hi.map.lt hne).trans hb
    refine h1 x.1 x.2 _ hx hnv (by simp) ⟨⟨es, clock, since, seen.push e.born, clock, hr2, hb2, hsk, hsk, hold, fun e' he' k hk => ?_⟩, hi.map.but hbut hne, ?_, ?_⟩ ⟨es, clock, since, seen, e, hr2, hb2, hmem.1, g3, hek, hev⟩ hbut
    · rw [Array.mem_push, List.mem_append, List.mem_singleton, hseen e' he' k hk]
      constructor
      · rintro (h | h)
        · exact .inl h
        · right
          have : e' = e := born_inj g3 he' hmem.1 h
          subst this
          rw [hek] at hk
          simp only [Value.string.injEq] at hk
          exact (mkS_inj.1 hk).symm
      · rintro (h | h)
        · exact .inl h
        · right
          subst h
          exact congrArg (·.born) (key_inj g2 hi.map.nodup he' hmem.1 (by rw [hk, hek]))
    · rw [List.nodup_append]
      exact ⟨hi.nodup, by simp, fun a ha c hc e => hnv (by rw [List.mem_singleton] at hc; subst hc; subst e; exact ha)⟩
    · intro k hk
      rcases List.mem_append.1 hk with hk | hk
      · exact hi.sub k hk
      · rw [List.mem_singleton] at hk; subst hk; exact List.mem_map.2 ⟨x, hx, rfl⟩
theorem SemH.entryMap {r b : Nat} {k : Bs} {v : Value} {K : Value → Heap → Prop} (hc : CurO H r b k v) (h : K (.tuple #[.string (mkS k), v]) H) : SemH P (Instr.entry (.pointer (some ⟨r, 0, none⟩))) H K := by
  obtain ⟨es, clock, since, seen, e, h1, h2, h3, h4, h5, h6⟩ := hc.out
  refine ⟨fun w hw => ?_⟩
  subst hw
  refine ⟨_, w, run_entry_at (P := P) w r b since seen es clock e h1 h2 h3 h4, Same.refl w, ?_⟩
  rw [h5, h6]; exact h
end Go.Vc
