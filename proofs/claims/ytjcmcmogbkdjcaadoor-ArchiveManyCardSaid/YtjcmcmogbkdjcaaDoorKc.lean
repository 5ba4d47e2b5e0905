import Derived.Test.YtjcmcmogbkdjcaaDoorKb
import Derived.Maps.RangeRun
import Derived.RangeFuncIn
import Derived.RangeFuncLeaves
import Derived.TacticsIn
import Derived.Laws.Externs
import Derived.Lib.Bytealg
set_option linter.unusedVariables false
set_option linter.unusedSimpArgs false
set_option maxRecDepth 100000
/- Maps whose keys are strings: what a map of the heap holds, the rules of its operations, and of the loop over it. -/
namespace Go.Vc
open Go.ChangeMaps (setBlock)
variable {α : Type}
def mget : List (Bs × α) → Bs → Option α
  | [], _ => none
  | x :: l, k => if k = x.1 then some x.2 else mget l k
def mput : List (Bs × α) → Bs → α → List (Bs × α)
  | [], k, v => [(k, v)]
  | x :: l, k, v => if k = x.1 then (k, v) :: l else x :: mput l k v
def mdel : List (Bs × α) → Bs → List (Bs × α)
  | [], _ => []
  | x :: l, k => if k = x.1 then l else x :: mdel l k
def EntL : List MapEntry → List (Bs × Value) → Prop
  | [], [] => True
  | e :: es, x :: l => e.key = .string (mkS x.1) ∧ e.val = x.2 ∧ EntL es l
  | _, _ => False
theorem str_inj {a b : Bs} : ((mkS a) == (mkS b)) = decide (a = b) := by
  show (a.toArray == b.toArray) = _
  rw [Bool.eq_iff_iff]; simp
structure Found (k : Bs) (es : List MapEntry) (l : List (Bs × Value)) (j : Nat) (v : Value) : Prop where
  get : mget l k = some v
  lt : j < es.length
  key : (es[j]?).map (·.key) = some (.string (mkS k))
  put : ∀ u, EntL (es.modify j fun e => { e with key := .string (mkS k), val := u }) (mput l k u)
  same : EntL (es.modify j fun e => { e with key := .string (mkS k) }) l
  born : ∀ f : MapEntry → MapEntry, (∀ e, (f e).born = e.born) → (es.modify j f).map (·.born) = es.map (·.born)
  del : EntL (es.eraseIdx j) (mdel l k)
  dels : (es.eraseIdx j).Sublist es
theorem find_str (k : Bs) : ∀ (es : List MapEntry) (l : List (Bs × Value)) (i : Nat), EntL es l →
    (mget l k = none ∧ Instr.findNow .string (.string (mkS k)) es i = some none ∧ mdel l k = l) ∨ ∃ j v, Instr.findNow .string (.string (mkS k)) es i = some (some (i + j, v)) ∧ Found k es l j v
  | [], [], i, _ => .inl ⟨rfl, rfl, rfl⟩
  | e :: es, x :: l, i, ⟨h1, h2, h3⟩ => by
    by_cases hk : k = x.1
    · refine .inr ⟨0, e.val, ?_, ?_⟩
      · have hs : Instr.sameNow .string (.string (mkS k)) e.key = some true := by
          rw [h1, ← hk]; show some (mkS k == mkS k) = _; rw [str_inj]; simp
        simp only [Instr.findNow, hs]
        rfl
      · refine ⟨by simp [mget, hk, h2], by simp, by simp [h1, hk], fun u => ?_, ?_, fun f hf => by simp [List.modify, hf], ?_, by simp⟩
        · simp [List.modify, mput, hk, EntL, h3]
        · simp [List.modify, EntL, hk, h2, h3]
        · simpa [mdel, hk] using h3
    · have hs : Instr.sameNow .string (.string (mkS k)) e.key = some false := by
        rw [h1]; show some (mkS k == mkS x.1) = _; rw [str_inj, decide_eq_false hk]
      rcases find_str k es l (i + 1) h3 with ⟨g1, g2, g3⟩ | ⟨j, v, g1, g2⟩
      · refine .inl ⟨by simp [mget, hk, g1], ?_, by simp [mdel, hk, g3]⟩
        simp only [Instr.findNow, hs, g2]
      · refine .inr ⟨j + 1, v, ?_, ?_⟩
        · simp only [Instr.findNow, hs, g1]; rw [show i + 1 + j = i + (j + 1) by omega]
        · refine ⟨by simp [mget, hk, g2.get], by simp [g2.lt], by simpa using g2.key, fun u => ?_, ?_, fun f hf => ?_, ?_, ?_⟩
          · simp only [List.modify_succ_cons, mput, if_neg hk]; exact ⟨h1, h2, g2.put u⟩
          · simp only [List.modify_succ_cons]; exact ⟨h1, h2, g2.same⟩
          · simp only [List.modify_succ_cons, List.map_cons, g2.born f hf]
          · simp only [List.eraseIdx_cons_succ, mdel, if_neg hk]; exact ⟨h1, h2, g2.del⟩
          · simp only [List.eraseIdx_cons_succ]; exact g2.dels.cons_cons e
  | [], _ :: _, _, h => h.elim
  | _ :: _, [], _, h => h.elim
theorem ent_push (k : Bs) (v : Value) (b : Nat) : ∀ (es : List MapEntry) (l : List (Bs × Value)), EntL es l → mget l k = none → EntL (es ++ [⟨.string (mkS k), v, b⟩]) (mput l k v)
  | [], [], _, _ => ⟨rfl, rfl, trivial⟩
  | e :: es, x :: l, ⟨h1, h2, h3⟩, h => by
    by_cases hk : k = x.1
    · simp [mget, hk] at h
    · simp only [mget, if_neg hk] at h
      simp only [mput, if_neg hk, List.cons_append]; exact ⟨h1, h2, ent_push k v b es l h3 h⟩
  | [], _ :: _, h, _ => h.elim
  | _ :: _, [], h, _ => h.elim
theorem ent_len : ∀ {es : List MapEntry} {l : List (Bs × Value)}, EntL es l → es.length = l.length
  | [], [], _ => rfl
  | _ :: _, _ :: _, ⟨_, _, h⟩ => by simp [ent_len h]
  | [], _ :: _, h => h.elim
  | _ :: _, [], h => h.elim
theorem ent_mem : ∀ {es : List MapEntry} {l : List (Bs × Value)} {e : MapEntry}, EntL es l → e ∈ es → ∃ x ∈ l, e.key = .string (mkS x.1) ∧ e.val = x.2
  | e :: es, x :: l, e', ⟨h1, h2, h3⟩, h => by
    rcases List.mem_cons.1 h with rfl | h
    · exact ⟨x, by simp, h1, h2⟩
    · obtain ⟨y, hy, hh⟩ := ent_mem h3 h
      exact ⟨y, List.mem_cons_of_mem _ hy, hh⟩
  | [], [], _, _, h => by cases h
  | [], _ :: _, _, h, _ => h.elim
  | _ :: _, [], _, h, _ => h.elim
theorem ent_mem' : ∀ {es : List MapEntry} {l : List (Bs × Value)} {x : Bs × Value}, EntL es l → x ∈ l → ∃ e ∈ es, e.key = .string (mkS x.1) ∧ e.val = x.2
  | e :: es, x :: l, e', ⟨h1, h2, h3⟩, h => by
    rcases List.mem_cons.1 h with rfl | h
    · exact ⟨e, by simp, h1, h2⟩
    · obtain ⟨y, hy, hh⟩ := ent_mem' h3 h
      exact ⟨y, List.mem_cons_of_mem _ hy, hh⟩
  | [], [], _, _, h => by cases h
  | [], _ :: _, _, h, _ => h.elim
  | _ :: _, [], _, h, _ => h.elim
theorem key_inj : ∀ {es : List MapEntry} {l : List (Bs × Value)} {e e' : MapEntry}, EntL es l → (l.map (·.1)).Nodup → e ∈ es → e' ∈ es → e.key = e'.key → e = e'
  | a :: es, x :: l, e, e', ⟨h1, h2, h3⟩, hn, he, he', hk => by
    rw [List.map_cons, List.nodup_cons] at hn
    rcases List.mem_cons.1 he with q1 | q1 <;> rcases List.mem_cons.1 he' with q2 | q2
    · rw [q1, q2]
    · obtain ⟨y, hy, g1, _⟩ := ent_mem h3 q2
      rw [q1, h1, g1] at hk; simp only [Value.string.injEq] at hk
      exact absurd (List.mem_map.2 ⟨y, hy, (mkS_inj.1 hk).symm⟩) hn.1
    · obtain ⟨y, hy, g1, _⟩ := ent_mem h3 q1
      rw [q2, h1, g1] at hk; simp only [Value.string.injEq] at hk
      exact absurd (List.mem_map.2 ⟨y, hy, mkS_inj.1 hk⟩) hn.1
    · exact key_inj h3 hn.2 q1 q2 hk
  | [], [], _, _, _, _, he, _, _ => by cases he
  | [], _ :: _, _, _, h, _, _, _, _ => h.elim
  | _ :: _, [], _, _, h, _, _, _, _ => h.elim
theorem born_inj : ∀ {es : List MapEntry} {e e' : MapEntry}, (es.map (·.born)).Nodup → e ∈ es → e' ∈ es → e.born = e'.born → e = e'
  | a :: es, e, e', hn, he, he', hb => by
    rw [List.map_cons, List.nodup_cons] at hn
    rcases List.mem_cons.1 he with q1 | q1 <;> rcases List.mem_cons.1 he' with q2 | q2
    · rw [q1, q2]
    · exact absurd (List.mem_map.2 ⟨e', q2, by rw [← hb, q1]⟩) hn.1
    · exact absurd (List.mem_map.2 ⟨e, q1, by rw [hb, q2]⟩) hn.1
    · exact born_inj hn.2 q1 q2 hb
theorem ent_idx : ∀ {es : List MapEntry} {l : List (Bs × Value)} {i j : Nat} {e e' : MapEntry}, EntL es l → (l.map (·.1)).Nodup → es[i]? = some e → es[j]? = some e' → e.key = e'.key → i = j
  | a :: es, x :: l, i, j, e, e', ⟨h1, h2, h3⟩, hn, he, he', hk => by
    rw [List.map_cons, List.nodup_cons] at hn
    rcases i with _ | i <;> rcases j with _ | j
    · rfl
    · simp at he he'; subst he
      obtain ⟨y, hy, g1, _⟩ := ent_mem h3 (List.mem_of_getElem? he')
      rw [h1, g1] at hk; simp only [Value.string.injEq] at hk
      exact absurd (List.mem_map.2 ⟨y, hy, (mkS_inj.1 hk).symm⟩) hn.1
    · simp at he he'; subst he'
      obtain ⟨y, hy, g1, _⟩ := ent_mem h3 (List.mem_of_getElem? he)
      rw [h1, g1] at hk; simp only [Value.string.injEq] at hk
      exact absurd (List.mem_map.2 ⟨y, hy, mkS_inj.1 hk⟩) hn.1
    · simp at he he'
      rw [ent_idx h3 hn.2 he he' hk]
  | [], [], i, j, e, e', _, _, he, _, _ => by simp at he
  | [], _ :: _, _, _, _, _, h, _, _, _, _ => h.elim
  | _ :: _, [], _, _, _, _, h, _, _, _, _ => h.elim
/- the plain laws of put, get, del -/
theorem mget_put (l : List (Bs × α)) (k k' : Bs) (v : α) : mget (mput l k v) k' = if k' = k then some v else mget l k' := by
  induction l with
  | nil => simp [mput, mget]
  | cons x l ih =>
    by_cases h : k = x.1
    · simp only [mput, if_pos h, mget]; subst h; by_cases h2 : k' = x.1 <;> simp [h2]
    · simp only [mput, if_neg h, mget, ih]
      by_cases h2 : k' = x.1
      · rw [if_pos h2, if_pos h2, if_neg (by rw [h2]; exact fun e => h e.symm)]
      · rw [if_neg h2, if_neg h2]
theorem mget_mem {l : List (Bs × α)} {k : Bs} {v : α} (h : mget l k = some v) : (k, v) ∈ l := by
  induction l with
  | nil => cases h
  | cons x l ih =>
    simp only [mget] at h
    split at h
    · rename_i e; cases h; subst e; exact List.mem_cons_self ..
    · exact List.mem_cons_of_mem _ (ih h)
theorem mget_of_mem {l : List (Bs × α)} (hn : (l.map (·.1)).Nodup) {k : Bs} {v : α} (h : (k, v) ∈ l) : mget l k = some v := by
  induction l with
  | nil => cases h
  | cons x l ih =>
    rw [List.map_cons, List.nodup_cons] at hn
    rcases List.mem_cons.1 h with e | h
    · subst e; simp [mget]
    · simp only [mget]
      rw [if_neg, ih hn.2 h]
      intro e
      exact hn.1 (List.mem_map.2 ⟨_, h, e⟩)
theorem mget_none {l : List (Bs × α)} {k : Bs} : mget l k = none ↔ k ∉ l.map (·.1) := by
  induction l with
  | nil => simp [mget]
  | cons x l ih =>
    by_cases h : k = x.1
    · simp [mget, h]
    · simp only [mget]; rw [if_neg h, ih]; simp [h]
theorem mput_keys (l : List (Bs × α)) (k : Bs) (v : α) : (mput l k v).map (·.1) = if mget l k = none then l.map (·.1) ++ [k] else l.map (·.1) := by
  induction l with
  | nil => simp [mput, mget]
  | cons x l ih =>
    by_cases h : k = x.1
    · simp [mput, mget, h]
    · simp only [mput, mget, if_neg h, List.map_cons, ih]
      split <;> simp
theorem mput_nodup {l : List (Bs × α)} (h : (l.map (·.1)).Nodup) (k : Bs) (v : α) : ((mput l k v).map (·.1)).Nodup := by
  rw [mput_keys]
  split
  · rename_i hn
    rw [List.nodup_append]
    refine ⟨h, by simp, fun a ha b hb e => ?_⟩
    rw [List.mem_singleton] at hb
    subst hb; subst e
    exact mget_none.1 hn ha
  · exact h
theorem mdel_sub (l : List (Bs × α)) (k : Bs) : (mdel l k).Sublist l := by
  induction l with
  | nil => exact List.Sublist.refl _
  | cons x l ih =>
    simp only [mdel]
    split
    · exact List.sublist_cons_self ..
    · exact ih.cons_cons x
theorem mget_del {l : List (Bs × α)} (hn : (l.map (·.1)).Nodup) (k k' : Bs) : mget (mdel l k) k' = if k' = k then none else mget l k' := by
  induction l with
  | nil => simp [mdel, mget]
  | cons x l ih =>
    rw [List.map_cons, List.nodup_cons] at hn
    by_cases h : k = x.1
    · simp only [mdel, if_pos h, mget]
      by_cases h2 : k' = k
      · rw [if_pos h2]; subst h2; rw [mget_none]; rw [h]; exact hn.1
      · rw [if_neg h2, if_neg (by rw [← h]; exact h2)]
    · simp only [mdel, if_neg h, mget, ih hn.2]
      by_cases h2 : k' = x.1
      · rw [if_pos h2, if_pos h2, if_neg (by rw [h2]; exact fun e => h e.symm)]
      · rw [if_neg h2, if_neg h2]
theorem mdel_nodup {l : List (Bs × α)} (h : (l.map (·.1)).Nodup) (k : Bs) : ((mdel l k).map (·.1)).Nodup := h.sublist ((mdel_sub l k).map _)
theorem mput_len (l : List (Bs × α)) (k : Bs) (v : α) : (mput l k v).length = l.length + if mget l k = none then 1 else 0 := by
  have := congrArg List.length (mput_keys l k v)
  simp only [List.length_map] at this
  rw [this]; split <;> simp

variable {P : Program} {H H' : Heap}
/-- block b is a map: its keys are strings -/
structure MapO (H : Heap) (b : Nat) (l : List (Bs × Value)) : Prop where
  out : ∃ es clock, H[b]? = some (.map es clock) ∧ EntL es.toList l ∧ (es.toList.map (·.born)).Nodup ∧ (∀ e ∈ es.toList, e.born < clock)
  nodup : (l.map (·.1)).Nodup
theorem MapO.lt {b : Nat} {l : List (Bs × Value)} (h : MapO H b l) : b < H.size := let ⟨_, _, h, _⟩ := h.out; (Array.getElem?_eq_some_iff.1 h).1
theorem MapO.keep {F : Nat → Prop} {b : Nat} {l : List (Bs × Value)} (h : MapO H b l) (k : Only F H H') (hb : ¬ F b) : MapO H' b l :=
  let ⟨es, c, h1, h2⟩ := h.out; ⟨⟨es, c, (k.same b h.lt hb).trans h1, h2⟩, h.nodup⟩
theorem MapO.ext {b : Nat} {l : List (Bs × Value)} (h : MapO H b l) (k : Ext H H') : MapO H' b l := h.keep k id
theorem MapO.but {b g : Nat} {l : List (Bs × Value)} (h : MapO H b l) (k : But g H H') (hb : b ≠ g) : MapO H' b l := h.keep k hb
/-- a map is no block of cells -/
theorem MapO.ne {b g : Nat} {l : List (Bs × Value)} {c : Array Value} {t : TypeId} (h : MapO H b l) (k : Blk H g c t) : b ≠ g := by
  rintro rfl
  obtain ⟨_, _, h1, _⟩ := h.out
  obtain ⟨_, h2, _⟩ := k.out
  rw [h1] at h2; cases h2
theorem MapO.wr {b base n cap size : Nat} {e : TypeId} {a : Option Addr} {xs : List Value} {l : List (Bs × Value)} (h : MapO H b l) (ho : Own H base e size a n cap xs) (k : Wr a H H') : MapO H' b l := by
  refine h.keep k ?_
  rintro ⟨p, ha, hp⟩
  rcases ho.out with ⟨h1, _⟩ | ⟨g, cur, h1, _, hb, _⟩
  · rw [h1] at ha; cases ha
  · rw [h1] at ha; cases ha
    exact h.ne hb hp.symm
theorem run_keyN {kt : TypeId} (hk : P.underlying kt = some .string) (m : Bool) (n : Nat) (v : ByteArray) (w : World) : (Instr.checkKey m (n + 1) kt (.string v)).run P w = .ok () w := by
  unfold Instr.checkKey
  simp only [Sem.run_bind, underlying_of hk, Result.andThen_ok, Sem.run_pure]
theorem run_key {kt : TypeId} (hk : P.underlying kt = some .string) (m : Bool) (v : ByteArray) (w : World) : (Instr.checkKey m 10000 kt (.string v)).run P w = .ok () w := run_keyN hk m 9999 v w
theorem run_find {kt : TypeId} (hk : P.underlying kt = some .string) {k : Bs} {es : List MapEntry} {r : Option (Nat × Value)} (h : Instr.findNow .string (.string (mkS k)) es 0 = some r) (w : World) :
    (Instr.findKey kt (.string (mkS k)) es).run P w = .ok r w := by
  simp [Instr.findKey, Sem.run_bind, underlying_of hk, h]
theorem same_bitsN (n : Nat) (k : Bs) : Instr.sameBits n (.string (mkS k)) (.string (mkS k)) = true := by
  have h : (mkS k == mkS k) = true := by rw [str_inj]; simp
  cases n <;> exact h
theorem same_bits (k : Bs) : Instr.sameBits 10000 (.string (mkS k)) (.string (mkS k)) = true := same_bitsN _ k
theorem stays (k : Bs) : Instr.keyThatStays (.string (mkS k)) (.string (mkS k)) = pure (.string (mkS k)) := by unfold Instr.keyThatStays; rw [if_pos (same_bits k)]
theorem run_getMap {w : World} {b : Nat} {es : Array MapEntry} {c : Nat} (h : w.heap[b]? = some (.map es c)) : (getObj b).run P w = .ok (.map es c) w := by simp [getObj, Sem.run, h]
theorem run_setMap {w : World} {b : Nat} {es : Array MapEntry} {c : Nat} (h : w.heap[b]? = some (.map es c)) (o : Obj) : (setObj b o).run P w = .ok () { w with heap := w.heap.setIfInBounds b o } := by simp [setObj, Sem.run, h]

theorem SemH.makeMap0 {t : TypeId} {K : Value → Heap → Prop} (hk : ∀ H', H'.size = H.size + 1 → MapO H' H.size [] → Ext H H' → K (.map (some H.size)) H') : SemH P (Instr.makeMap t none) H K := by
  refine ⟨fun w hw => ⟨.map (some w.heap.size), { w with heap := w.heap.push (.map #[] 0) }, ?_, ⟨rfl, rfl, rfl⟩, ?_⟩⟩
  · simp [Instr.makeMap, Sem.run_bind, run_newObj]
  · subst hw
    exact hk _ (by simp) ⟨⟨#[], 0, push_last _ _, trivial, by simp, by simp⟩, by simp⟩ (Only.push _ _ _)
theorem SemH.lookupS {t kt et : TypeId} {i : TypeInfo} {z : Value} {b : Nat} {l : List (Bs × Value)} {k : Bs} {K : Value → Heap → Prop} (hm : MapO H b l) (ht : P.underlying t = some (.map kt et)) (hk : P.underlying kt = some .string)
    (hi : P.info? et = some i) (hz : i.zero = some z) (h : K ((mget l k).getD z) H) : SemH P (Instr.lookup t (.map (some b)) (.string (mkS k)) false) H K := by
  obtain ⟨es, c, h1, h2, h3, h4⟩ := hm.out
  refine ⟨fun w hw => ⟨_, w, ?_, Same.refl w, by rw [hw]; exact h⟩⟩
  subst hw
  rcases find_str k es.toList l 0 h2 with ⟨g1, g2, _⟩ | ⟨j, v, g1, g2⟩
  · simp [Instr.lookup, Sem.run_bind, underlying_of ht, run_getMap h1, run_key hk, run_find hk g2, zeroValue, typeInfo_of hi, hz, g1]
  · simp [Instr.lookup, Sem.run_bind, underlying_of ht, run_getMap h1, run_key hk, run_find hk g1, g2.get]
theorem SemH.lookupOk {t kt et : TypeId} {i : TypeInfo} {z : Value} {b : Nat} {l : List (Bs × Value)} {k : Bs} {K : Value → Heap → Prop} (hm : MapO H b l) (ht : P.underlying t = some (.map kt et)) (hk : P.underlying kt = some .string)
    (hi : P.info? et = some i) (hz : i.zero = some z) (h : K (.tuple #[(mget l k).getD z, .bool (mget l k).isSome]) H) : SemH P (Instr.lookup t (.map (some b)) (.string (mkS k)) true) H K := by
  obtain ⟨es, c, h1, h2, h3, h4⟩ := hm.out
  refine ⟨fun w hw => ⟨_, w, ?_, Same.refl w, by rw [hw]; exact h⟩⟩
  subst hw
  rcases find_str k es.toList l 0 h2 with ⟨g1, g2, _⟩ | ⟨j, v, g1, g2⟩
  · simp [Instr.lookup, Sem.run_bind, underlying_of ht, run_getMap h1, run_key hk, run_find hk g2, zeroValue, typeInfo_of hi, hz, g1]
  · simp [Instr.lookup, Sem.run_bind, underlying_of ht, run_getMap h1, run_key hk, run_find hk g1, g2.get]
theorem MapO.set {b : Nat} {l l' : List (Bs × Value)} {es' : Array MapEntry} {c' : Nat} (hm : MapO H b l) (h2 : EntL es'.toList l') (h3 : (es'.toList.map (·.born)).Nodup) (h4 : ∀ e ∈ es'.toList, e.born < c') (hn : (l'.map (·.1)).Nodup) :
    MapO (H.setIfInBounds b (.map es' c')) b l' :=
  ⟨⟨es', c', by rw [Array.getElem?_setIfInBounds_self_of_lt hm.lt], h2, h3, h4⟩, hn⟩
theorem born_modify {es : List MapEntry} {j : Nat} {f : MapEntry → MapEntry} (h : (es.modify j f).map (·.born) = es.map (·.born)) {c : Nat} (hc : ∀ e ∈ es, e.born < c) : ∀ e ∈ es.modify j f, e.born < c := by
  intro e he
  have : e.born ∈ (es.modify j f).map (·.born) := List.mem_map.2 ⟨e, he, rfl⟩
  rw [h] at this
  obtain ⟨e', h1, h2⟩ := List.mem_map.1 this
  rw [← h2]; exact hc e' h1
theorem DoH.mapPut {t kt et : TypeId} {b : Nat} {l : List (Bs × Value)} {k : Bs} {v : Value} {K : Heap → Prop} (hm : MapO H b l) (ht : P.underlying t = some (.map kt et)) (hk : P.underlying kt = some .string)
    (h : ∀ H', H'.size = H.size → MapO H' b (mput l k v) → But b H H' → K H') : DoH P (Instr.mapUpdate t (.map (some b)) (.string (mkS k)) v) H K := by
  obtain ⟨es, c, h1, h2, h3, h4⟩ := hm.out
  refine ⟨fun w hw => ?_⟩
  subst hw
  rcases find_str k es.toList l 0 h2 with ⟨g1, g2, _⟩ | ⟨j, u, g1, g2⟩
  · refine ⟨{ w with heap := w.heap.setIfInBounds b (.map (es.push ⟨.string (mkS k), v, c⟩) (c + 1)) }, ?_, ⟨rfl, rfl, rfl⟩, h _ (by simp) (hm.set ?_ ?_ ?_ (mput_nodup hm.nodup k v)) (Only.set _ _ _)⟩
    · simp [Instr.mapUpdate, Sem.run_bind, underlying_of ht, run_getMap h1, run_key hk, run_find hk g2, run_setMap h1]
    · rw [Array.toList_push]; exact ent_push k v c es.toList l h2 g1
    · rw [Array.toList_push, List.map_append, List.nodup_append]
      refine ⟨h3, by simp, fun a ha b hb e => ?_⟩
      obtain ⟨e1, he1, rfl⟩ := List.mem_map.1 ha
      simp at hb; subst hb
      have := h4 e1 he1; omega
    · intro e he
      rw [Array.toList_push] at he
      rcases List.mem_append.1 he with he | he
      · have := h4 e he; omega
      · simp at he; subst he; show c < c + 1; omega
  · refine ⟨{ w with heap := w.heap.setIfInBounds b (.map (es.modify j fun e => { e with key := .string (mkS k), val := v }) c) }, ?_, ⟨rfl, rfl, rfl⟩, h _ (by simp) (hm.set ?_ ?_ ?_ (mput_nodup hm.nodup k v)) (Only.set _ _ _)⟩
    · have hkey : ((es[j]?).map (·.key)).getD (.string (mkS k)) = .string (mkS k) := by
        have := g2.key; rw [Array.getElem?_toList] at this; rw [this]; rfl
      simp only [Nat.zero_add] at g1
      simp only [Instr.mapUpdate, Sem.run_bind, underlying_of ht, run_getMap h1, run_key hk, run_find hk g1, Result.andThen_ok, hkey, Instr.keyThatStays, same_bits, if_true, Sem.run_pure, run_setMap h1]
    · rw [Array.toList_modify]; exact g2.put v
    · rw [Array.toList_modify, g2.born (fun e => { e with key := .string (mkS k), val := v }) fun e => rfl]; exact h3
    · rw [Array.toList_modify]; exact born_modify (g2.born (fun e => { e with key := .string (mkS k), val := v }) fun e => rfl) h4
theorem findIdx_list (p : MapEntry → Bool) (es : Array MapEntry) : es.toList.findIdx? p = es.findIdx? p := by
  obtain ⟨l⟩ := es
  rw [List.findIdx?_toArray]
/-- the entry at a key bears this stamp -/
structure StampO (H : Heap) (b : Nat) (k : Bs) (s : Int) : Prop where
  out : ∃ es clock j, H[b]? = some (.map es clock) ∧ es.findIdx? (fun e => (e.born : Int) == s) = some j ∧ (es[j]?).map (·.key) = some (.string (mkS k))
theorem find_stamp : ∀ (es : List MapEntry) (j : Nat) (e : MapEntry), (es.map (·.born)).Nodup → es[j]? = some e → es.findIdx? (fun x => (x.born : Int) == (e.born : Int)) = some j
  | x :: es, 0, e, hn, h => by
    simp at h; subst h
    simp [List.findIdx?_cons]
  | x :: es, j + 1, e, hn, h => by
    rw [List.map_cons, List.nodup_cons] at hn
    simp at h
    have hne : x.born ≠ e.born := fun he => hn.1 (by rw [he]; exact List.mem_map.2 ⟨e, List.mem_of_getElem? h, rfl⟩)
    have hb : ((x.born : Int) == (e.born : Int)) = false := by rw [beq_eq_false_iff_ne]; omega
    rw [List.findIdx?_cons, hb, find_stamp es j e hn.2 h]
    rfl
theorem mput_same {l : List (Bs × α)} {k : Bs} {v : α} (h : mget l k = some v) : mput l k v = l := by
  induction l with
  | nil => cases h
  | cons x l ih =>
    simp only [mget] at h
    simp only [mput]
    split at h
    · rename_i e; cases h; subst e; simp
    · rename_i e; rw [if_neg e, ih h]
theorem SemH.mapEntryS {t kt et : TypeId} {i : TypeInfo} {z : Value} {b : Nat} {l : List (Bs × Value)} {k : Bs} {K : Value → Heap → Prop} (hm : MapO H b l) (ht : P.underlying t = some (.map kt et)) (hk : P.underlying kt = some .string)
    (hi : P.info? et = some i) (hz : i.zero = some z) (h : ∀ s H', H'.size = H.size → MapO H' b (mput l k ((mget l k).getD z)) → StampO H' b k s → But b H H' → K (.tuple #[(mget l k).getD z, .int .i64 s]) H') : SemH P (Instr.mapEntry t (.map (some b)) (.string (mkS k))) H K := by
  obtain ⟨es, c, h1, h2, h3, h4⟩ := hm.out
  refine ⟨fun w hw => ?_⟩
  subst hw
  rcases find_str k es.toList l 0 h2 with ⟨g1, g2, _⟩ | ⟨j, u, g1, g2⟩
  · rw [g1] at h
    have hnew : ((es.push ⟨.string (mkS k), z, c⟩).toList.map (·.born)).Nodup := by
      rw [Array.toList_push, List.map_append, List.nodup_append]
      refine ⟨h3, by simp, fun a ha b hb e => ?_⟩
      obtain ⟨e1, he1, rfl⟩ := List.mem_map.1 ha
      simp at hb; subst hb
      have := h4 e1 he1; omega
    refine ⟨.tuple #[z, goInt c], { w with heap := w.heap.setIfInBounds b (.map (es.push ⟨.string (mkS k), z, c⟩) (c + 1)) }, ?_, ⟨rfl, rfl, rfl⟩, h c _ (by simp) (hm.set ?_ hnew ?_ (mput_nodup hm.nodup k z)) ⟨es.push ⟨.string (mkS k), z, c⟩, c + 1, es.size, ?_, ?_, ?_⟩ (Only.set _ _ _)⟩
    · simp [Instr.mapEntry, Sem.run_bind, underlying_of ht, run_getMap h1, run_key hk, run_find hk g2, run_setMap h1, zeroValue, typeInfo_of hi, hz]
    · rw [Array.toList_push]; exact ent_push k z c es.toList l h2 g1
    · intro e he
      rw [Array.toList_push] at he
      rcases List.mem_append.1 he with he | he
      · have := h4 e he; omega
      · simp at he; subst he; show c < c + 1; omega
    · rw [Array.getElem?_setIfInBounds_self_of_lt hm.lt]
    · have := find_stamp (es.push ⟨.string (mkS k), z, c⟩).toList es.size ⟨.string (mkS k), z, c⟩ hnew (by simp)
      rw [findIdx_list] at this; exact this
    · simp
  · rw [g2.get] at h
    have hb := g2.born (fun e => { e with key := .string (mkS k) }) fun e => rfl
    obtain ⟨e0, he0⟩ : ∃ e0, es.toList[j]? = some e0 := ⟨_, List.getElem?_eq_getElem g2.lt⟩
    have hj := he0
    rw [Array.getElem?_toList] at hj
    refine ⟨.tuple #[u, goInt e0.born], { w with heap := w.heap.setIfInBounds b (.map (es.modify j fun e => { e with key := .string (mkS k) }) c) }, ?_, ⟨rfl, rfl, rfl⟩, h e0.born _ (by simp) (hm.set ?_ ?_ ?_ (mput_nodup hm.nodup k _)) ⟨_, _, j, Array.getElem?_setIfInBounds_self_of_lt hm.lt, ?_, ?_⟩ (Only.set _ _ _)⟩
    · have hkey : e0.key = .string (mkS k) := by
        have := g2.key; rw [he0] at this; simpa using this
      simp only [Nat.zero_add] at g1
      simp only [Instr.mapEntry, Sem.run_bind, underlying_of ht, run_getMap h1, run_key hk, run_find hk g1, Result.andThen_ok, hj, Option.map_some, Option.getD_some, hkey, stays, Sem.run_pure, run_setMap h1]
    · rw [Array.toList_modify, Option.getD_some, mput_same g2.get]; exact g2.same
    · rw [Array.toList_modify, hb]; exact h3
    · rw [Array.toList_modify]; exact born_modify hb h4
    · rw [← findIdx_list, Array.toList_modify]
      have hm2 : (es.toList.modify j fun e => { e with key := .string (mkS k) })[j]? = some { e0 with key := .string (mkS k) } := by rw [List.getElem?_modify_eq, he0]; rfl
      exact find_stamp _ j { e0 with key := .string (mkS k) } (by rw [hb]; exact h3) hm2
    · rw [← Array.getElem?_toList, Array.toList_modify, List.getElem?_modify_eq, he0]; rfl
theorem DoH.entryStoreS {t : TypeId} {b : Nat} {l : List (Bs × Value)} {k : Bs} {s : Int} {v : Value} {K : Heap → Prop} (hm : MapO H b l) (hs : StampO H b k s)
    (h : ∀ H', H'.size = H.size → MapO H' b (mput l k v) → But b H H' → K H') : DoH P (Instr.entryStore t (.map (some b)) (.int .i64 s) v) H K := by
  obtain ⟨es, c, h1, h2, h3, h4⟩ := hm.out
  obtain ⟨es', c', j', e1, e2, e3⟩ := hs.out
  rw [h1] at e1; cases e1
  refine ⟨fun w hw => ?_⟩
  subst hw
  rcases find_str k es.toList l 0 h2 with ⟨g1, _, _⟩ | ⟨j, u, g1, g2⟩
  · exfalso
    obtain ⟨e, he, hek⟩ : ∃ e, es[j']? = some e ∧ e.key = .string (mkS k) := by
      cases hx : es[j']? with
      | none => rw [hx] at e3; cases e3
      | some e => rw [hx] at e3; simp at e3; exact ⟨e, rfl, e3⟩
    obtain ⟨x, hx, hk, _⟩ := ent_mem h2 (List.mem_of_getElem? (by rw [Array.getElem?_toList]; exact he))
    rw [hk] at hek
    simp only [Value.string.injEq] at hek
    have := mkS_inj.1 hek
    exact mget_none.1 g1 (List.mem_map.2 ⟨x, hx, this⟩)
  · have hjj : j' = j := by
      obtain ⟨e, he, hek⟩ : ∃ e, es[j']? = some e ∧ e.key = .string (mkS k) := by
        cases hx : es[j']? with
        | none => rw [hx] at e3; cases e3
        | some e => rw [hx] at e3; simp at e3; exact ⟨e, rfl, e3⟩
      have hkj := g2.key
      obtain ⟨x0, hx0⟩ : ∃ x0, es.toList[j]? = some x0 := ⟨_, List.getElem?_eq_getElem g2.lt⟩
      rw [hx0] at hkj
      simp at hkj
      exact ent_idx h2 hm.nodup (by rw [Array.getElem?_toList]; exact he) hx0 (by rw [hek, hkj])
    subst hjj
    have hb := g2.born (fun e => { e with val := v }) fun e => rfl
    have hput : (es.toList.modify j' fun e => { e with val := v }) = es.toList.modify j' fun e => { e with key := .string (mkS k), val := v } := by
      apply List.ext_getElem? ; intro i
      rw [List.getElem?_modify, List.getElem?_modify]
      by_cases hi : j' = i
      · subst hi
        simp only [if_pos rfl]
        obtain ⟨x0, hx0⟩ : ∃ x0, es.toList[j']? = some x0 := ⟨_, List.getElem?_eq_getElem g2.lt⟩
        have := g2.key
        rw [hx0] at this ⊢
        simp at this
        simp [← this]
      · simp [hi]
    refine ⟨{ w with heap := w.heap.setIfInBounds b (.map (es.modify j' fun e => { e with val := v }) c) }, ?_, ⟨rfl, rfl, rfl⟩, h _ (by simp) (hm.set ?_ ?_ ?_ (mput_nodup hm.nodup k v)) (Only.set _ _ _)⟩
    · simp [Instr.entryStore, Sem.run_bind, run_getMap h1, asInt, asIntOf, e2, run_setMap h1]
    · rw [Array.toList_modify, hput]; exact g2.put v
    · rw [Array.toList_modify, hb]; exact h3
    · rw [Array.toList_modify]; exact born_modify hb h4
theorem NextH.mapDelete {t u kt et ty : TypeId} {cb : Array Bool} {b : Nat} {l : List (Bs × Value)} {k : Bs} {K : Value → Heap → Prop} (hm : MapO H b l) (ht : P.underlying t = some (.map kt et)) (hk : P.underlying kt = some .string)
    (h : ∀ H', H'.size = H.size → MapO H' b (mdel l k) → But b H H' → K (.tuple #[]) H') : NextH P (builtin .delete #[t, u] ty cb #[.map (some b), .string (mkS k)]) H K := by
  obtain ⟨es, c, h1, h2, h3, h4⟩ := hm.out
  refine ⟨fun w hw => ?_⟩
  subst hw
  have key : ∃ es' : Array MapEntry, (Builtin.delete_ #[t, u] ty #[.map (some b), .string (mkS k)]).run P w = .ok (.tuple #[]) { w with heap := w.heap.setIfInBounds b (.map es' c) } ∧ EntL es'.toList (mdel l k) ∧ es'.toList.Sublist es.toList := by
    rcases find_str k es.toList l 0 h2 with ⟨g1, g2, g3⟩ | ⟨j, u, g1, g2⟩
    · refine ⟨es, ?_, by rw [g3]; exact h2, List.Sublist.refl _⟩
      simp [Builtin.delete_, Sem.run_bind, underlying_of ht, run_getMap h1, run_key hk, run_find hk g2, run_setMap h1]
    · refine ⟨es.eraseIdxIfInBounds j, ?_, by rw [Array.toList_eraseIdxIfInBounds]; exact g2.del, by rw [Array.toList_eraseIdxIfInBounds]; exact g2.dels⟩
      simp [Builtin.delete_, Sem.run_bind, underlying_of ht, run_getMap h1, run_key hk, run_find hk g1, run_setMap h1]
  obtain ⟨es', hr, he, hsub⟩ := key
  show Nexts P w K ((do pure (.value (← Builtin.delete_ #[t, u] ty #[.map (some b), .string (mkS k)])) : Sem Next).run P w)
  rw [Sem.run_bind, hr]
  refine ⟨⟨rfl, rfl, rfl⟩, h _ (by simp) (hm.set he (h3.sublist (hsub.map _)) (fun e he => h4 e (hsub.subset he)) (mdel_nodup hm.nodup k)) (Only.set _ _ _)⟩
theorem SemH.mapLen {t kt et ty : TypeId} {ts : Array TypeId} {b : Nat} {l : List (Bs × Value)} {K : Value → Heap → Prop} (hm : MapO H b l) (h0 : ts[0]? = some t) (ht : P.underlying t = some (.map kt et))
    (h : K (.int .i64 l.length) H) : SemH P (Builtin.len_ ts ty #[.map (some b)]) H K := by
  obtain ⟨es, c, h1, h2, h3, h4⟩ := hm.out
  refine ⟨fun w hw => ⟨_, w, ?_, Same.refl w, by rw [hw]; exact h⟩⟩
  subst hw
  have : es.size = l.length := by rw [← ent_len h2, Array.length_toList]
  simp [Builtin.len_, h0, Sem.run_bind, underlying_of ht, run_getMap h1, this, goInt]

/-- an iterator over the map of block b, which has handed out the keys vis -/
structure IterO (H : Heap) (r b : Nat) (l : List (Bs × Value)) (vis : List Bs) : Prop where
  out : ∃ es clock since seen c0, H[r]? = some (.mapIter (some b) since seen c0) ∧ H[b]? = some (.map es clock) ∧ since ≤ c0 ∧ since ≤ clock ∧ (∀ e ∈ es.toList, e.born < since) ∧ (∀ e ∈ es.toList, ∀ k, e.key = .string (mkS k) → (e.born ∈ seen ↔ k ∈ vis))
  map : MapO H b l
  nodup : vis.Nodup
  sub : ∀ k ∈ vis, k ∈ l.map (·.1)
/-- the iterator stands at this entry -/
structure CurO (H : Heap) (r b : Nat) (k : Bs) (v : Value) : Prop where
  out : ∃ (es : Array MapEntry) (clock since : Nat) (seen : Array Nat) (e : MapEntry), H[r]? = some (.mapIter (some b) since (seen.push e.born) clock) ∧ H[b]? = some (.map es clock) ∧ e ∈ es.toList ∧ (es.toList.map (·.born)).Nodup ∧ e.key = .string (mkS k) ∧ e.val = v
theorem IterO.lt {r b : Nat} {l : List (Bs × Value)} {vis : List Bs} (h : IterO H r b l vis) : r < H.size := let ⟨_, _, _, _, _, h, _⟩ := h.out; (Array.getElem?_eq_some_iff.1 h).1
theorem IterO.keep {F : Nat → Prop} {r b : Nat} {l : List (Bs × Value)} {vis : List Bs} (h : IterO H r b l vis) (k : Only F H H') (hr : ¬ F r) (hb : ¬ F b) : IterO H' r b l vis :=
  let ⟨es, c, s, se, c0, h1, h2, h3⟩ := h.out
  ⟨⟨es, c, s, se, c0, (k.same r h.lt hr).trans h1, (k.same b h.map.lt hb).trans h2, h3⟩, h.map.keep k hb, h.nodup, h.sub⟩
theorem IterO.ext {r b : Nat} {l : List (Bs × Value)} {vis : List Bs} (h : IterO H r b l vis) (k : Ext H H') : IterO H' r b l vis := h.keep k id id
theorem IterO.ne {r b : Nat} {l : List (Bs × Value)} {vis : List Bs} (h : IterO H r b l vis) : r ≠ b := by
  rintro rfl
  obtain ⟨_, _, _, _, _, h1, h2, _⟩ := h.out
  rw [h1] at h2; cases h2
theorem IterO.neB {r b g : Nat} {l : List (Bs × Value)} {vis : List Bs} {c : Array Value} {t : TypeId} (h : IterO H r b l vis) (k : Blk H g c t) : r ≠ g := by
  rintro rfl
  obtain ⟨_, _, _, _, _, h1, _⟩ := h.out
  obtain ⟨_, h2, _⟩ := k.out
  rw [h1] at h2; cases h2
theorem IterO.neM {r b g : Nat} {l m : List (Bs × Value)} {vis : List Bs} (h : IterO H r b l vis) (k : MapO H g m) : r ≠ g := by
  rintro rfl
  obtain ⟨_, _, _, _, _, h1, _⟩ := h.out
  obtain ⟨_, _, h2, _⟩ := k.out
  rw [h1] at h2; cases h2
theorem IterO.wr {r b base n cap size : Nat} {e : TypeId} {a : Option Addr} {xs : List Value} {l : List (Bs × Value)} {vis : List Bs} (h : IterO H r b l vis) (ho : Own H base e size a n cap xs) (k : Wr a H H') : IterO H' r b l vis := by
  refine h.keep k ?_ ?_ <;>
  · rintro ⟨p, ha, hp⟩
    rcases ho.out with ⟨h1, _⟩ | ⟨g, cur, h1, _, hb, _⟩
    · rw [h1] at ha; cases ha
    · rw [h1] at ha; cases ha
      first | exact h.neB hb hp.symm | exact h.map.ne hb hp.symm
/-- all keys have been handed out -/
theorem perm_of_all {l : List Bs} {vis : List Bs} (h1 : l.Nodup) (h2 : vis.Nodup) (h3 : ∀ k ∈ vis, k ∈ l) (h4 : ∀ k ∈ l, k ∈ vis) : vis.Perm l :=
  (List.perm_ext_iff_of_nodup h2 h1).2 fun k => ⟨h3 k, h4 k⟩
theorem nodup_len : ∀ {vis l : List Bs}, vis.Nodup → (∀ k ∈ vis, k ∈ l) → vis.length ≤ l.length
  | [], _, _, _ => Nat.zero_le _
  | k :: vis, l, h2, h3 => by
    rw [List.nodup_cons] at h2
    have hk := h3 k (by simp)
    have := nodup_len (l := l.erase k) h2.2 fun x hx => (List.mem_erase_of_ne (fun e => h2.1 (by rw [← e]; exact hx))).2 (h3 x (by simp [hx]))
    rw [List.length_erase_of_mem hk] at this
    have := List.length_pos_of_mem hk
    simp only [List.length_cons]; omega
theorem SemH.rangeMap {t kt et : TypeId} {b : Nat} {l : List (Bs × Value)} {K : Value → Heap → Prop} (hm : MapO H b l) (ht : P.underlying t = some (.map kt et))
    (h : ∀ H', H'.size = H.size + 1 → IterO H' H.size b l [] → Ext H H' → K (.pointer (some ⟨H.size, 0, none⟩)) H') : SemH P (Instr.range t (.map (some b))) H K := by
  obtain ⟨es, c, h1, h2, h3, h4⟩ := hm.out
  refine ⟨fun w hw => ⟨.pointer (some ⟨w.heap.size, 0, none⟩), { w with heap := w.heap.push (.mapIter (some b) c #[] c) }, ?_, ⟨rfl, rfl, rfl⟩, ?_⟩⟩
  · subst hw
    simp [Instr.range, Sem.run_bind, underlying_of ht, run_getMap h1, run_newObj]
  · subst hw
    have hx : Ext w.heap (w.heap.push (.mapIter (some b) c #[] c)) := Only.push _ _ _
    exact h _ (by simp) ⟨⟨es, c, c, #[], c, push_last _ _, (hx.same b hm.lt id).trans h1, Nat.le_refl _, Nat.le_refl _, h4, by simp⟩, hm.ext hx, by simp, by simp⟩ hx
theorem SemH.nextMap {ty : TypeId} {r b : Nat} {l : List (Bs × Value)} {vis : List Bs} {K : Value → Heap → Prop} (hi : IterO H r b l vis)
    (h0 : (∀ k ∈ l.map (·.1), k ∈ vis) → K (.tuple #[.bool false]) H)
    (h1 : ∀ k v H', (k, v) ∈ l → k ∉ vis → H'.size = H.size → IterO H' r b l (vis ++ [k]) → CurO H' r b k v → But r H H' → K (.tuple #[.bool true, .string (mkS k), v]) H') : SemH P (Instr.next (.pointer (some ⟨r, 0, none⟩)) false ty) H K := by
  obtain ⟨es, clock, since, seen, c0, hr, hb, hsc, hsk, hold, hseen⟩ := hi.out
  obtain ⟨es', clock', g1, g2, g3, g4⟩ := hi.map.out
  rw [hb] at g1; cases g1
  refine ⟨fun w hw => ?_⟩
  subst hw
  rcases run_next_at (P := P) w ty r b since c0 seen es clock hr hb hold hsc with ⟨hl, hrun⟩ | ⟨e, he, w1, hw1, hrun⟩
  · refine ⟨_, w, hrun, Same.refl w, h0 fun k hk => ?_⟩
    obtain ⟨x, hx, rfl⟩ := List.mem_map.1 hk
    obtain ⟨e, he, hek, _⟩ := ent_mem' g2 hx
    apply Classical.byContradiction
    intro hn
    have : e ∈ (leftOf es seen).toList := by
      unfold leftOf
      rw [Array.toList_filter, List.mem_filter]
      refine ⟨he, ?_⟩
      have := mt (hseen e he x.1 hek).1 hn
      simpa using this
    have hz : (leftOf es seen).toList.length = 0 := by rw [Array.length_toList]; exact hl
    rw [List.length_eq_zero_iff.1 hz] at this; cases this
  · have hmem : e ∈ es.toList ∧ e.born ∉ seen := by
      unfold leftOf at he
      rw [Array.toList_filter, List.mem_filter] at he
      exact ⟨he.1, by simpa using he.2⟩
    obtain ⟨x, hx, hek, hev⟩ := ent_mem g2 hmem.1
    have hnv : x.1 ∉ vis := mt (hseen e hmem.1 x.1 hek).2 hmem.2
    have hw1h : w1.heap = w.heap := by rcases hw1 with rfl | rfl <;> rfl
    have hw1s : Same w w1 := by rcases hw1 with rfl | rfl <;> exact ⟨rfl, rfl, rfl⟩
    have hne : b ≠ r := fun e => hi.ne e.symm
    have hbut : But r w.heap (w.heap.setIfInBounds r (.mapIter (some b) since (seen.push e.born) clock)) := Only.set _ _ _
    refine ⟨_, _, hrun, ⟨hw1s.os, hw1s.tape, hw1s.output⟩, ?_⟩
    show K _ ((setBlock w1 r _).heap)
    simp only [setBlock, hw1h]
    rw [hek, hev]
    have hr2 : (w.heap.setIfInBounds r (.mapIter (some b) since (seen.push e.born) clock))[r]? = some (.mapIter (some b) since (seen.push e.born) clock) := Array.getElem?_setIfInBounds_self_of_lt hi.lt
    have hb2 : (w.heap.setIfInBounds r (.mapIter (some b) since (seen.push e.born) clock))[b]? = some (.map es clock) := (hbut.same b hi.map.lt hne).trans hb
    refine h1 x.1 x.2 _ hx hnv (by simp) ⟨⟨es, clock, since, seen.push e.born, clock, hr2, hb2, hsk, hsk, hold, fun e' he' k hk => ?_⟩, hi.map.but hbut hne, ?_, ?_⟩ ⟨es, clock, since, seen, e, hr2, hb2, hmem.1, g3, hek, hev⟩ hbut
    · rw [Array.mem_push, List.mem_append, List.mem_singleton, hseen e' he' k hk]
      constructor
      · rintro (h | h)
        · exact .inl h
        · right
          have : e' = e := born_inj g3 he' hmem.1 h
          subst this
          rw [hek] at hk
          simp only [Value.string.injEq] at hk
          exact (mkS_inj.1 hk).symm
      · rintro (h | h)
        · exact .inl h
        · right
          subst h
          exact congrArg (·.born) (key_inj g2 hi.map.nodup he' hmem.1 (by rw [hk, hek]))
    · rw [List.nodup_append]
      exact ⟨hi.nodup, by simp, fun a ha c hc e => hnv (by rw [List.mem_singleton] at hc; subst hc; subst e; exact ha)⟩
    · intro k hk
      rcases List.mem_append.1 hk with hk | hk
      · exact hi.sub k hk
      · rw [List.mem_singleton] at hk; subst hk; exact List.mem_map.2 ⟨x, hx, rfl⟩
theorem SemH.entryMap {r b : Nat} {k : Bs} {v : Value} {K : Value → Heap → Prop} (hc : CurO H r b k v) (h : K (.tuple #[.string (mkS k), v]) H) : SemH P (Instr.entry (.pointer (some ⟨r, 0, none⟩))) H K := by
  obtain ⟨es, clock, since, seen, e, h1, h2, h3, h4, h5, h6⟩ := hc.out
  refine ⟨fun w hw => ?_⟩
  subst hw
  refine ⟨_, w, run_entry_at (P := P) w r b since seen es clock e h1 h2 h3 h4, Same.refl w, ?_⟩
  rw [h5, h6]; exact h
end Go.Vc
/- Paths, the code: parts' bytes, prefixes, what stands above and below a path. -/
namespace Go.Pth
open Go.Scr
theorem split_last {c : UInt8} {b : Txt} (h : c ∉ b) : ∀ a : Txt, splitF c (a ++ c :: b) = splitF c a ++ [b]
  | [] => by show splitF c (c :: b) = [[]] ++ [b]; rw [splitF, if_pos rfl, split_none h]; rfl
  | x :: a => by
    have ih := split_last h a
    rw [List.cons_append, splitF, splitF]
    split
    · rw [ih]; rfl
    · rw [ih]
      cases hs : splitF c a with
      | nil => exact absurd hs (split_ne _ _)
      | cons w l => rfl
theorem parent_none {p : Txt} (h : (47 : UInt8) ∉ p) : parentF p = [] := by
  unfold parentF partsF
  split
  · rfl
  · rw [split_none h]; rfl
theorem parent_some {a b : Txt} (h : (47 : UInt8) ∉ b) : parentF (a ++ 47 :: b) = a := by
  unfold parentF partsF
  rw [if_neg (by simp), split_last h, List.dropLast_concat, glue_split]
end Go.Pth
namespace Go.Proofs.YtjcmcmogbkdjcaaDoor
open Go Go.Vc Go.Scr Go.Pth
theorem right_any (c : UInt8) (H : Heap) : CallH Tryd.prog 76 [.int .u8 c.toNat] H fun v H' => v = .bool (!badC c) ∧ H = H' := by
  have hc := c.toNat_lt
  have key : badC c = decide (c.toNat < 33 ∨ 126 < c.toNat ∨ c.toNat = 34 ∨ c.toNat = 92 ∨ c.toNat = 42 ∨ c.toNat = 63 ∨ c.toNat = 58) := by
    unfold badC; rw [Bool.eq_iff_iff]; simp only [Bool.or_eq_true, decide_eq_true_eq, beq_iff_eq, or_assoc]
  rw [key]
  refine Vc.CallH.body Tryd.func76 Tryd.call76 rfl (by decide +kernel) rfl ?_
  ((conv => whnf); repeat (any_goals (first | (refine Vc.stp ?_; intros; (conv => whnf)) | (refine Vc.spl ?_ ?_ <;> (intro _; (conv => whnf))))))
  all_goals (refine ⟨?_, rfl⟩; first | (rw [decide_eq_true (by omega)]; rfl) | (rw [decide_eq_false (by omega)]; rfl) | (show Value.bool _ = Value.bool _; congr 1; rw [Bool.eq_iff_iff, Bool.not_eq_true', decide_eq_true_eq, decide_eq_false_iff_not]; omega))
theorem part_any (s : Bs) (hl : s.length ≤ 1000000000) (H : Heap) : CallH Tryd.prog 63 [.string (mkS s)] H fun v H' => v = .int .i64 (if badP s = true then 50 else 0) ∧ H = H' := by
  have hsz : (mkS s).size = s.length := rfl
  refine Vc.CallH.body Tryd.func63 Tryd.call63 rfl (by decide +kernel) rfl ?_
  by_cases h32 : 32 < s.length
  · ((conv => whnf); repeat (any_goals (first | (refine Vc.stp ?_; intros; (conv => whnf)) | (refine Vc.spl ?_ ?_ <;> (intro _; (conv => whnf))))))
    exact ⟨by rw [if_pos (by unfold badP; simp [h32])]; rfl, rfl⟩
  ((conv => whnf); repeat (any_goals (first | (refine Vc.stp ?_; intros; (conv => whnf)) | (refine Vc.spl ?_ ?_ <;> (intro _; (conv => whnf))))))
  refine LoopH.intro (fun (i : Nat) => [(9, .int .i64 i)]) (fun i H' => H = H' ∧ i ≤ s.length ∧ badP s = (s.drop i).any badC) (fun i => s.length - i) 0 ⟨rfl, trivial⟩ ⟨rfl, Nat.zero_le _, by unfold badP; simp [h32]⟩ ?_
  rintro i _ ⟨rfl, hi, hb⟩
  dsimp only
  by_cases hlt : i < s.length
  · obtain ⟨c, hc, hd⟩ := drop_get hlt
    rw [hd, List.any_cons] at hb
    have hr := fun H => right_any c H
    cases hbc : badC c
    · rw [hbc] at hr hb
      ((conv => whnf); repeat (any_goals (first | ((refine IdxH.nat i rfl (by omega) ?_; (conv => whnf); rw [hc]); (conv => whnf)) | ((refine (hr _).mono ?_; rintro _ _ ⟨rfl, rfl⟩); (conv => whnf)) | (refine Vc.stp ?_; intros; (conv => whnf)) | (refine Vc.spl ?_ ?_ <;> (intro _; (conv => whnf))))))
      exact ⟨i + 1, ⟨rfl, trivial⟩, ⟨rfl, by omega, by simpa using hb⟩, by omega⟩
    · rw [hbc] at hr hb
      ((conv => whnf); repeat (any_goals (first | ((refine IdxH.nat i rfl (by omega) ?_; (conv => whnf); rw [hc]); (conv => whnf)) | ((refine (hr _).mono ?_; rintro _ _ ⟨rfl, rfl⟩); (conv => whnf)) | (refine Vc.stp ?_; intros; (conv => whnf)) | (refine Vc.spl ?_ ?_ <;> (intro _; (conv => whnf))))))
      exact ⟨by rw [if_pos (by simpa using hb)]; rfl, rfl⟩
  · rw [List.drop_of_length_le (by omega)] at hb
    ((conv => whnf); repeat (any_goals (first | (refine Vc.stp ?_; intros; (conv => whnf)) | (refine Vc.spl ?_ ?_ <;> (intro _; (conv => whnf))))))
    exact ⟨by rw [if_neg (by simpa using hb)]; rfl, rfl⟩
theorem pre0_any (s p : Bs) (hl : s.length ≤ 1000000000) (hp : p.length ≤ 1000000000) (H : Heap) : CallH Tryd.prog 20 [.string (mkS s), .string (mkS p)] H fun v H' => v = .bool (p.isPrefixOf s) ∧ H = H' := by
  have hsz : (mkS s).size = s.length := rfl
  have hpz : (mkS p).size = p.length := rfl
  refine Vc.CallH.body Tryd.func20 Tryd.call20 rfl (by decide +kernel) rfl ?_
  by_cases hle : p.length ≤ s.length
  · have e : ((mkS s).extract 0 p.length) = mkS (s.take p.length) := mkS_take _ _
    have e2 : ((mkS (s.take p.length)).toList == (mkS p).toList) = p.isPrefixOf s := by
      rw [str_beq, Bool.eq_iff_iff, decide_eq_true_eq, List.isPrefixOf_iff_prefix, List.prefix_iff_eq_take]
      exact mkS_inj.trans eq_comm
    ((conv => whnf); repeat (any_goals (first | ((refine BndH.nat p.length rfl (by omega) ?_; (conv => whnf); rw [e, e2]); (conv => whnf)) | (refine Vc.stp ?_; intros; (conv => whnf)) | (refine Vc.spl ?_ ?_ <;> (intro _; (conv => whnf))))))
    all_goals exact ⟨rfl, rfl⟩
  · have e2 : p.isPrefixOf s = false := by
      rw [Bool.eq_false_iff, Ne, List.isPrefixOf_iff_prefix]
      intro h; have := h.length_le; omega
    rw [e2]
    ((conv => whnf); repeat (any_goals (first | (refine Vc.stp ?_; intros; (conv => whnf)) | (refine Vc.spl ?_ ?_ <;> (intro _; (conv => whnf))))))
    exact ⟨rfl, rfl⟩
theorem pre_any (s p : Bs) (hl : s.length ≤ 1000000000) (hp : p.length ≤ 1000000000) (H : Heap) : CallH Tryd.prog 12 [.string (mkS s), .string (mkS p)] H fun v H' => v = .bool (p.isPrefixOf s) ∧ H = H' := by
  refine Vc.CallH.body Tryd.func12 Tryd.call12 rfl (by decide +kernel) rfl ?_
  ((conv => whnf); repeat (any_goals (first | ((refine (pre0_any s p hl hp _).mono ?_; rintro _ _ ⟨rfl, rfl⟩); (conv => whnf)) | (refine Vc.stp ?_; intros; (conv => whnf)) | (refine Vc.spl ?_ ?_ <;> (intro _; (conv => whnf))))))
  exact ⟨rfl, rfl⟩
theorem last0_any (s : Bs) (c : UInt8) (hl : s.length ≤ 1000000000) (H : Heap) : CallH Tryd.prog 80 [.string (mkS s), .int .u8 c.toNat] H fun v H' => ((c ∉ s ∧ v = .int .i64 (-1)) ∨ ∃ a b, s = a ++ c :: b ∧ c ∉ b ∧ v = .int .i64 a.length) ∧ H = H' := by
  have hsz : (mkS s).size = s.length := rfl
  have hc := c.toNat_lt
  refine Vc.CallH.body Tryd.func80 Tryd.call80 rfl (by decide +kernel) rfl ?_
  ((conv => whnf); repeat (any_goals (first | (refine Vc.stp ?_; intros; (conv => whnf)) | (refine Vc.spl ?_ ?_ <;> (intro _; (conv => whnf))))))
  refine LoopH.intro (fun (i : Nat) => [(5, .int .i64 ((i : Int) - 1))]) (fun i H' => H = H' ∧ i ≤ s.length ∧ c ∉ s.drop i) (fun i => i) s.length ⟨rfl, trivial⟩ ⟨rfl, Nat.le_refl _, by simp⟩ ?_
  rintro i _ ⟨rfl, hi, hb⟩
  dsimp only
  by_cases hlt : 0 < i
  · obtain ⟨d, hd, he⟩ := drop_get (l := s) (i := i - 1) (by omega)
    rw [show i - 1 + 1 = i by omega] at he
    have hdn := d.toNat_lt
    by_cases hcd : c = d
    · subst hcd
      ((conv => whnf); repeat (any_goals (first | ((refine IdxH.nat (i - 1) (by omega) (by omega) ?_; (conv => whnf); rw [hd]); (conv => whnf)) | (refine Vc.stp ?_; intros; (conv => whnf)) | (refine Vc.spl ?_ ?_ <;> (intro _; (conv => whnf))))))
      refine ⟨.inr ⟨s.take (i - 1), s.drop i, ?_, hb, ?_⟩, rfl⟩
      · rw [← he, List.take_append_drop]
      · have e3 : (s.take (i - 1)).length = i - 1 := by rw [List.length_take]; omega
        rw [e3]; show Value.int .i64 ((i : Int) - 1) = _; congr 1; omega
    · have hne : d.toNat ≠ c.toNat := fun e => hcd (UInt8.toNat_inj.1 e.symm)
      ((conv => whnf); repeat (any_goals (first | ((refine IdxH.nat (i - 1) (by omega) (by omega) ?_; (conv => whnf); rw [hd]); (conv => whnf)) | (refine Vc.stp ?_; intros; (conv => whnf)) | (refine Vc.spl ?_ ?_ <;> (intro _; (conv => whnf))))))
      refine ⟨i - 1, ⟨by (show Value.int .i64 ((i : Int) - 1 - 1) = .int .i64 (((i - 1 : Nat) : Int) - 1); congr 1; omega), trivial⟩, ⟨rfl, by omega, ?_⟩, by omega⟩
      rw [he]; simp [hcd, hb]
  · obtain rfl : i = 0 := by omega
    ((conv => whnf); repeat (any_goals (first | (refine Vc.stp ?_; intros; (conv => whnf)) | (refine Vc.spl ?_ ?_ <;> (intro _; (conv => whnf))))))
    exact ⟨.inl ⟨by simpa using hb, rfl⟩, rfl⟩
theorem last_any (s : Bs) (c : UInt8) (hl : s.length ≤ 1000000000) (H : Heap) : CallH Tryd.prog 68 [.string (mkS s), .int .u8 c.toNat] H fun v H' => ((c ∉ s ∧ v = .int .i64 (-1)) ∨ ∃ a b, s = a ++ c :: b ∧ c ∉ b ∧ v = .int .i64 a.length) ∧ H = H' := by
  refine Vc.CallH.body Tryd.func68 Tryd.call68 rfl (by decide +kernel) rfl ?_
  ((conv => whnf); repeat (any_goals (first | ((refine (last0_any s c hl _).mono ?_; rintro v _ ⟨hv, rfl⟩); (conv => whnf)) | (refine Vc.stp ?_; intros; (conv => whnf)) | (refine Vc.spl ?_ ?_ <;> (intro _; (conv => whnf))))))
  exact ⟨hv, rfl⟩
theorem parent_any (p : Bs) (hl : p.length ≤ 1000000000) (H : Heap) : CallH Tryd.prog 50 [.string (mkS p)] H fun v H' => v = .string (mkS (parentF p)) ∧ H = H' := by
  have hsz : (mkS p).size = p.length := rfl
  have hla : ∀ H, CallH Tryd.prog 68 [.string (mkS p), .int .u8 47] H _ := fun H => last_any p 47 hl H
  refine Vc.CallH.body Tryd.func50 Tryd.call50 rfl (by decide +kernel) rfl ?_
  by_cases hm : (47 : UInt8) ∈ p
  · obtain ⟨a, b, h1, h2⟩ : ∃ a b, p = a ++ 47 :: b ∧ (47 : UInt8) ∉ b := by
      have := List.append_of_mem (List.mem_reverse.2 hm)
      obtain ⟨s, t, h, hn⟩ := List.eq_append_cons_of_mem (List.mem_reverse.2 hm)
      refine ⟨t.reverse, s.reverse, ?_, by simpa using hn⟩
      have := congrArg List.reverse h
      simpa using this
    have hlen : p.length = a.length + 1 + b.length := by rw [h1]; simp; omega
    have huq : ∀ a' b', p = a' ++ 47 :: b' → (47 : UInt8) ∉ b' → a' = a := by
      intro a' b' e hn
      have e1 := split_last hn a'
      have e2 := split_last h2 a
      rw [← e] at e1
      rw [← h1] at e2
      rw [e1] at e2
      have := List.append_inj_left' e2 rfl
      rw [← glue_split a', this, glue_split]
    ((conv => whnf); repeat (any_goals (first | ((refine (hla _).mono ?_; rintro v _ ⟨hv, rfl⟩; obtain rfl : v = Value.int .i64 a.length := by (rcases hv with ⟨g, _⟩ | ⟨a', b', g1, g2, rfl⟩; exact absurd hm g; rw [huq a' b' g1 g2])); (conv => whnf)) | ((refine BndH.nat a.length (by omega) (by omega) ?_); (conv => whnf)) | (refine Vc.stp ?_; intros; (conv => whnf)) | (refine Vc.spl ?_ ?_ <;> (intro _; (conv => whnf))))))
    refine ⟨?_, rfl⟩
    show Value.string ((mkS p).extract 0 a.length) = _
    rw [mkS_take, h1, parent_some h2]; simp
  · ((conv => whnf); repeat (any_goals (first | ((refine (hla _).mono ?_; rintro v _ ⟨hv, rfl⟩; obtain rfl : v = Value.int .i64 (-1) := by (rcases hv with ⟨_, g⟩ | ⟨a', b', g1, g2, rfl⟩; exact g; exact absurd (by rw [g1]; simp) hm)); (conv => whnf)) | ((refine BndH.nat 0 (by omega) (by omega) ?_); (conv => whnf)) | (refine Vc.stp ?_; intros; (conv => whnf)) | (refine Vc.spl ?_ ?_ <;> (intro _; (conv => whnf))))))
    refine ⟨?_, rfl⟩
    show Value.string ((mkS p).extract 0 0) = _
    rw [mkS_take, parent_none hm]; simp
end Go.Proofs.YtjcmcmogbkdjcaaDoor
/- The engine, ranges over a function: what the frame of a round does, what a call of yield asks. -/
namespace Go.Vc
open Go.Lx
abbrev FR (r : Option Nat) : Fence := { Fence.wide with round := r }
theorem callsIn_FR {P : Program} {g : FuncId} {ags : Array Value} {w : World} {R : Ending → World → Prop} (r : Option Nat) {n : Nat} (h : Calls P g ags w R) : CallsIn (FR r) n P g ags w R := by
  cases r with
  | none => exact callsIn_wide.2 h
  | some l => exact (callsIn_wide.2 h : CallsIn Fence.wide n P g ags w R)
/-- a call of yield: the round that it is comes to an end, and R holds of what it hands back -/
structure YieldH (P : Program) (l : Nat) (args : List Value) (H : Heap) (R : Value → Heap → Prop) : Prop where
  out : ∀ w : World, w.heap = H → ∃ f tmps assign body w', (Instr.yield l args.toArray).run P w = .ok (.round l f tmps assign body) w' ∧ Same w w' ∧ RoundIn Fence.wide 0 P l f tmps assign body w' fun e w'' => Same w w'' ∧ ∃ v, e = .returned v ∧ R v w''.heap
theorem YieldH.mono {P : Program} {l : Nat} {args : List Value} {H : Heap} {R R' : Value → Heap → Prop} (h : YieldH P l args H R) (hr : ∀ v H, R v H → R' v H) : YieldH P l args H R' :=
  ⟨fun w hw => let ⟨f, t, a, b, w', h1, h2, h3⟩ := h.out w hw; ⟨f, t, a, b, w', h1, h2, RoundIn.mono h3 fun _ _ ⟨hs, v, he, hk⟩ => ⟨hs, v, he, hr _ _ hk⟩⟩⟩
def yieldOf (env : Env) (o : Oper) : Option (Nat × List Value) := match o.op with
  | .call c => match c.callee with
    | .value f => match ev env f with
      | some (.func (.yield l) a b) => match a.toList, b.toList with
        | [], [] => match evs env c.args.toList with
          | some vs => some (l, vs)
          | none => none
        | _, _ => none
      | _ => none
    | _ => none
  | _ => none
def vcOpY (P : Program) (o : Oper) (env : Env) (H : Heap) (k : Value → Heap → Prop) : Prop := match yieldOf env o with
  | some (l, vs) => YieldH P l vs H k
  | none => vcOp P o env H NoX k
def vcOpsY (P : Program) (ops : List Oper) : Nat → List Oper → Env → Heap → (Env → Heap → Prop) → Prop
  | _, [], env, H, k => k env H
  | i, o :: l, env, H, k => match wants ops env o with
    | some true => match o.dst with
      | some d => match isSrc ops i with
        | true => vcOpY P o env H fun v H' => vcSplit true v fun v => vcOpsY P ops (i + 1) l ((d, v) :: env) H' k
        | false => vcOpY P o env H fun v H' => vcOpsY P ops (i + 1) l ((d, v) :: env) H' k
      | none => vcOpY P o env H fun _ H' => vcOpsY P ops (i + 1) l env H' k
    | some false => match o.dst with
      | some d => vcOpsY P ops (i + 1) l ((d, undef) :: env) H k
      | none => vcOpsY P ops (i + 1) l env H k
    | none => False
def noDefO (o : Oper) : Bool := match o.op with
  | .defer _ => false
  | _ => true
def noDefC : Code → Bool
  | .region _ ops _ => ops.toList.all noDefO
  | .seq x y => noDefC x && noDefC y
  | .cond _ x y => noDefC x && noDefC y
  | .block _ x => noDefC x
  | .loop x => noDefC x
  | .skip => true
  | .exit _ => true
  | .ret => true
  | _ => false
/-- what is asked of a piece of code, in a frame of whatever round -/
structure CodeY (P : Program) (r : Option Nat) (n : Nat) (c : Code) (env : Env) (H : Heap) (Q : Post) : Prop where
  out : ∀ (w0 : World) (a : Act) (w : World), Agrees env a → a.tmps.size = n → Same w0 w → w.heap = H → c.wpIn (FR r) 0 P (LiftQ w0 n a (mods c) Q) a w
structure LoopY (P : Program) (n : Nat) (c : Code) (env : Env) (H : Heap) (Q : Post) : Prop where
  out : ∀ r, fitsC n (.loop c) = true → noDefC c = true → CodeY P r n (.loop c) env H Q
def vcCodeY (P : Program) (n : Nat) (c : Code) (env : Env) (H : Heap) (Q : Post) : Prop :=
  match c with
  | .skip => Q .normal env H
  | .region id ops draw => match draw with
    | false => vcOpsY P ops.toList 0 ops.toList env H (Q .normal)
    | true => False
  | .seq x y => vcCodeY P n x env H fun e env H => match e with
      | .normal => vcCodeY P n y env H Q
      | e => Q e env H
  | .cond c x y => match ev env c with
    | some (.bool b) => CondH b (vcCodeY P n x env H Q) (vcCodeY P n y env H Q)
    | _ => False
  | .block id x => vcCodeY P n x env H fun e env H => match e with
    | .exit j => match Nat.beq j id with
      | true => Q .normal env H
      | false => Q (.exit j) env H
    | e => Q e env H
  | .loop x => LoopY P n x env H Q
  | .exit id => Q (.exit id) env H
  | .ret => Q .ret env H
  | _ => False

theorem semAt_FR {r : Option Nat} {o : Oper} (hd : noDefO o = true) (ρ : Operand → Value) : o.semAt (FR r).round ρ = execOp ρ o := by
  cases r with
  | none => rfl
  | some l => exact Oper.semAt_some l _ _ fun c e => by unfold noDefO at hd; rw [e] at hd; cases hd
theorem wpInOp_of_comes {r : Option Nat} {P : Program} {o : Oper} {a : Act} {w : World} {k : Value → Heap → Prop} {next : Act → World → Prop} {Q : Exit → Act → World → Prop} (hd : noDefO o = true)
    (h : Comes1 P o a w NoX k) (hnext : ∀ v w', Same w w' → k v w'.heap → next (a.put o.dst v) w') : o.wpIn (FR r) 0 P a w next Q := by
  refine ⟨fun _ _ => trivial, ?_⟩
  rw [semAt_FR hd]
  rcases h with ⟨v, hv, hk⟩ | ⟨h0, h1, h⟩
  · rw [hv w]; exact hnext v w (Same.refl w) hk
  · cases hr : (execOp a.eval o).run P w with
    | halt x w' => rw [hr] at h; cases x <;> first | exact h.elim | exact h.2.elim
    | ok n w' =>
      rw [hr] at h
      cases n <;> simp only at h <;> try exact h.elim
      · exact hnext _ _ h.1 h.2
      · exact hnext _ _ h.1 h.2
      · refine ⟨fun hd => (by cases hd), callsIn_FR r (Calls.mono h.2 fun e w'' ⟨hs, hv⟩ => ?_)⟩
        rcases hv with ⟨v, he, hk⟩ | ⟨c, he, hx⟩
        · exact he ▸ hnext v w'' hs hk
        · exact hx.elim
theorem wpInOp_of_yield {r : Option Nat} {P : Program} {o : Oper} {a : Act} {w : World} {H : Heap} {k : Value → Heap → Prop} {next : Act → World → Prop} {Q : Exit → Act → World → Prop} {l : Nat} {vs : List Value} (hd : noDefO o = true)
    (he : execOp a.eval o = Instr.yield l vs.toArray) (h : YieldH P l vs H k) (hw : w.heap = H) (hnext : ∀ v w', Same w w' → k v w'.heap → next (a.put o.dst v) w') : o.wpIn (FR r) 0 P a w next Q := by
  refine ⟨fun _ _ => trivial, ?_⟩
  rw [semAt_FR hd, he]
  obtain ⟨f, tmps, assign, body, w', h1, h2, h3⟩ := h.out w hw
  rw [h1]
  refine ⟨fun hd => (by cases hd), RoundIn.mono (F := FR r) h3 fun e w'' ⟨hs, v, he, hk⟩ => ?_⟩
  subst he
  exact hnext v w'' hs hk
theorem vcOpY_sound {r : Option Nat} {P : Program} {o : Oper} {env : Env} {a : Act} {w : World} {H : Heap} {k : Value → Heap → Prop} {next : Act → World → Prop} {Q : Exit → Act → World → Prop} (hd : noDefO o = true)
    (h : vcOpY P o env H k) (ha : Agrees env a) (hw : w.heap = H) (hnext : ∀ v w', Same w w' → k v w'.heap → next (a.put o.dst v) w') : o.wpIn (FR r) 0 P a w next Q := by
  unfold vcOpY at h
  split at h
  · rename_i l vs hy
    refine wpInOp_of_yield hd ?_ h hw hnext
    unfold yieldOf at hy
    obtain ⟨dst, op, type, pos, after, guard⟩ := o
    dsimp only at hy
    split at hy
    · rename_i c
      obtain ⟨callee, args, argTypes⟩ := c
      dsimp only at hy
      split at hy
      · split at hy
        · rename_i f l' x y hf
          split at hy
          · rename_i hx hyy
            split at hy
            · rename_i vs' hvs
              obtain ⟨rfl, rfl⟩ : l' = l ∧ vs' = vs := by simpa using hy
              have ex : x = #[] := Array.toList_inj.1 hx
              have ey : y = #[] := Array.toList_inj.1 hyy
              subst ex; subst ey
              simp only [execOp, resolve, ha.ev hf, map_evs ha hvs, Deferred.ofValue]
              simp only [pure_bind, invoke, Array.append_empty, Array.empty_append]
              try rfl
            · cases hy
          · cases hy
        · cases hy
      · cases hy
    · cases hy
  · exact wpInOp_of_comes hd (vcOp_sound h ha hw) hnext
theorem vcOpsY_sound {r : Option Nat} {P : Program} {ops : Array Oper} {n : Nat} {k : Env → Heap → Prop} {w0 : World} {a0 : Act} {Q : Exit → Act → World → Prop} (hQ : ∀ a w, Lift w0 n a0 (modsO ops.toList) k a w → Q .normal a w)
    (hfit : ∀ o ∈ ops.toList, fitsO n o = true) (hdef : ∀ o ∈ ops.toList, noDefO o = true) :
    ∀ (l : List Oper) (i : Nat), ops.toList.drop i = l → ∀ (env : Env) (H : Heap), vcOpsY P ops.toList i l env H k → ∀ (a : Act) (w : World), Agrees env a → a.defers = a0.defers → a.tmps.size = n → Same w0 w →
      (∀ i, i ∉ modsO ops.toList → a.tmps[i]? = a0.tmps[i]?) → w.heap = H → wpOpsIn (FR r) 0 P ops Q (List.range' i l.length) a w
  | [], i, _, env, H, h, a, w, ha, hd, hn, hs, hfr, hw => hQ a w ⟨hd, hn, hs, hfr, env, ha, hw ▸ h⟩
  | o :: l, i, hl, env, H, h, a, w, ha, hd, hn, hs, hfr, hw => by
    have ho : ops[i]? = some o := by
      have : (ops.toList.drop i)[0]? = some o := by rw [hl]; rfl
      simpa using this
    have hl' : ops.toList.drop (i + 1) = l := by
      have := congrArg List.tail hl
      simpa [List.tail_drop] using this
    have hmem : o ∈ ops.toList := List.mem_of_mem_drop (i := i) (by rw [hl]; simp)
    have hf := hfit o hmem
    have hm : ∀ t, o.dst = some t → t ∈ modsO ops.toList := fun t ht => modsO_mem hmem ht
    show wpOpsIn (FR r) 0 P ops Q (i :: List.range' (i + 1) l.length) a w
    simp only [wpOpsIn, ho]
    simp only [vcOpsY] at h
    split at h
    · rename_i hwt
      have hwt := wants_spec hwt ha
      rw [if_pos hwt]
      have h : vcOpY P o env H fun v H' => vcSplit (isSrc ops.toList i && o.dst.isSome) v fun v => vcOpsY P ops.toList (i + 1) l (putE env o.dst v) H' k := by
        cases hd : o.dst with
        | none => simp only [hd] at h; simpa [vcSplit, putE] using h
        | some d =>
          simp only [hd] at h
          cases hs : isSrc ops.toList i
          · simp only [hs] at h; simpa [vcSplit, putE] using h
          · simp only [hs] at h; simpa [putE] using h
      refine vcOpY_sound (hdef o hmem) h ha hw ?_
      intro v w' hsame hk
      have hk := vcSplit_sound hk
      exact vcOpsY_sound hQ hfit hdef l (i + 1) hl' _ _ hk _ _ (ha.putE hn hf v) (by rw [put_defers']; exact hd) (by rw [put_size]; exact hn) (hs.trans hsame) (put_frame hfr hm v) rfl
    · rename_i hwt
      have hwt := wants_spec hwt ha
      have h : vcOpsY P ops.toList (i + 1) l (putE env o.dst undef) H k := by
        cases hd : o.dst with
        | none => simp only [hd] at h; simpa [putE] using h
        | some d => simp only [hd] at h; simpa [putE] using h
      rw [if_neg (by rw [hwt]; simp)]
      exact ⟨fun _ _ => trivial, vcOpsY_sound hQ hfit hdef l (i + 1) hl' _ _ h _ _ (ha.putE hn hf undef) (by rw [put_defers']; exact hd) (by rw [put_size]; exact hn) hs (put_frame hfr hm undef) hw⟩
    · exact h.elim
theorem vcCodeY_sound {P : Program} {r : Option Nat} {n : Nat} : ∀ (c : Code) (env : Env) (H : Heap) (Q : Post), fitsC n c = true → noDefC c = true → vcCodeY P n c env H Q → CodeY P r n c env H Q
  | .skip, env, H, Q, _, _, h => ⟨fun w0 a w ha hn hs hw => wpIn_skip ⟨rfl, hn, hs, fun _ _ => rfl, env, ha, hw ▸ h⟩⟩
  | .region id ops draw, env, H, Q, hf, hdf, h => by
    cases draw with
    | false =>
      refine ⟨fun w0 a w ha hn hs hw => wpIn_region ?_⟩
      have := vcOpsY_sound (r := r) (a0 := a) (Q := LiftQ w0 n a (modsO ops.toList) Q) (fun _ _ h => h) (List.all_eq_true.1 hf) (List.all_eq_true.1 hdf) ops.toList 0 rfl env H h a w ha rfl hn hs (fun _ _ => rfl) hw
      rw [← List.range_eq_range', Array.length_toList] at this
      exact this
    | true => exact h.elim
  | .seq x y, env, H, Q, hf, hdf, h => by
    simp only [fitsC, Bool.and_eq_true] at hf
    simp only [noDefC, Bool.and_eq_true] at hdf
    unfold vcCodeY at h
    have hx := vcCodeY_sound (r := r) x env H _ hf.1 hdf.1 h
    refine ⟨fun w0 a w ha hsz hs hw => wpIn_seq (wpIn_mono (hx.out w0 a w ha hsz hs hw) ?_)⟩
    intro e a' w' ⟨h1, h2, h3, hfr, env', h4, h5⟩
    have other : e ≠ .normal → LiftQ w0 n a (mods (.seq x y)) Q e a' w' := fun hne => ⟨h1, h2, h3, fun i hi => hfr i (fun hm => hi (by simp [mods, hm])), env', h4, by cases e <;> first | exact absurd rfl hne | exact h5⟩
    cases e with
    | normal =>
      have hy := vcCodeY_sound (r := r) y env' w'.heap Q hf.2 hdf.2 h5
      refine wpIn_mono (hy.out w0 a' w' h4 h2 h3 rfl) ?_
      intro e a2 w2 ⟨g1, g2, g3, gfr, env2, g4, g5⟩
      exact ⟨g1.trans h1, g2, g3, fun i hi => (gfr i (fun hm => hi (by simp [mods, hm]))).trans (hfr i (fun hm => hi (by simp [mods, hm]))), env2, g4, g5⟩
    | exit j => exact other (by simp)
    | goto j => exact other (by simp)
    | ret => exact other (by simp)
    | panic c => exact other (by simp)
    | outgrown => exact other (by simp)
  | .cond c x y, env, H, Q, hf, hdf, h => by
    simp only [fitsC, Bool.and_eq_true] at hf
    simp only [noDefC, Bool.and_eq_true] at hdf
    simp only [vcCodeY] at h
    split at h
    · rename_i b hb
      refine ⟨fun w0 a w ha hn hs hw => wpIn_cond (ha.ev hb) ?_⟩
      cases b with
      | true => exact wpIn_mono ((vcCodeY_sound x env H Q hf.1 hdf.1 (h.t rfl)).out w0 a w ha hn hs hw) fun e a' w' ⟨h1, h2, h3, h4, h5⟩ => ⟨h1, h2, h3, fun i hi => h4 i (fun hm => hi (by simp [mods, hm])), h5⟩
      | false => exact wpIn_mono ((vcCodeY_sound y env H Q hf.2 hdf.2 (h.f rfl)).out w0 a w ha hn hs hw) fun e a' w' ⟨h1, h2, h3, h4, h5⟩ => ⟨h1, h2, h3, fun i hi => h4 i (fun hm => hi (by simp [mods, hm])), h5⟩
    · exact h.elim
  | .block id x, env, H, Q, hf, hdf, h => by
    have hx := vcCodeY_sound (r := r) x env H _ hf hdf h
    refine ⟨fun w0 a w ha hn hs hw => wpIn_block (wpIn_mono (hx.out w0 a w ha hn hs hw) ?_)⟩
    intro e a' w' ⟨h1, h2, h3, hfr, env', h4, h5⟩
    cases e with
    | exit j =>
      show if j = id then _ else _
      dsimp only at h5
      split at h5
      · rename_i hb
        rw [if_pos (Nat.eq_of_beq_eq_true hb)]
        exact ⟨h1, h2, h3, hfr, env', h4, h5⟩
      · rename_i hb
        rw [if_neg (fun e => by subst e; simp at hb)]
        exact ⟨h1, h2, h3, hfr, env', h4, h5⟩
    | _ => exact ⟨h1, h2, h3, hfr, env', h4, h5⟩
  | .loop x, env, H, Q, hf, hdf, h => h.out r hf hdf
  | .exit id, env, H, Q, _, _, h => ⟨fun w0 a w ha hn hs hw => wpIn_exit ⟨rfl, hn, hs, fun _ _ => rfl, env, ha, hw ▸ h⟩⟩
  | .ret, env, H, Q, _, _, h => ⟨fun w0 a w ha hn hs hw => wpIn_ret ⟨rfl, hn, hs, fun _ _ => rfl, env, ha, hw ▸ h⟩⟩
theorem wpIn_loop_by {F : Fence} {m : Nat} {P : Program} {c : Code} {Q : Exit → Act → World → Prop} {a : Act} {w : World} (I : Nat → Act → World → Prop) (n₀ : Nat) (h₀ : I n₀ a w)
    (round : ∀ n a w, I n a w → c.wpIn F m P (Exit.then (fun a' w' => ∃ n', n' < n ∧ I n' a' w') Q) a w) : (Code.loop c).wpIn F m P Q a w := by
  intro b k cs hro hb hr
  have key : ∀ j a w, I j a w → ∃ e a' w', Q e a' w' ∧ ArrivesIn (Machine.fenced P F) P (lone (b.atR a (.code c :: .inLoop c :: k)) cs w) b k cs e a' w' := by
    intro j
    induction j using Nat.strongRecOn with
    | _ j ih =>
      intro a w hI
      obtain ⟨e, a₁, w₁, hq, harr⟩ := round j a w hI b (.inLoop c :: k) cs hro hb hr
      cases e with
      | normal =>
        obtain ⟨j', hlt, hI₁⟩ := hq
        obtain ⟨e₂, a₂, w₂, hq₂, harr₂⟩ := ih j' hlt a₁ w₁ hI₁
        exact ⟨e₂, a₂, w₂, hq₂, .of_steps (StepsIn.trans harr (.one (fenced_calm hb hr rfl) stepR_inLoop)) harr₂⟩
      | exit id => exact ⟨_, a₁, w₁, hq, .pass (x := .inLoop c) rfl (fun _ _ => .inl (by simp)) harr⟩
      | goto l => exact ⟨_, a₁, w₁, hq, .pass (x := .inLoop c) rfl (fun _ _ => .inl (by simp)) harr⟩
      | ret => exact ⟨_, a₁, w₁, hq, .pass (x := .inLoop c) rfl (fun _ _ => .inl (by simp)) harr⟩
      | panic ch => exact ⟨_, a₁, w₁, hq, .pass (x := .inLoop c) rfl (fun _ _ => .inl (by simp)) harr⟩
      | outgrown => exact ⟨_, a₁, w₁, hq, .pass (x := .inLoop c) rfl (fun _ _ => .inl (by simp)) harr⟩
  obtain ⟨e, a', w', hq, harr⟩ := key n₀ a w h₀
  exact ⟨e, a', w', hq, .of_steps (.one (fenced_calm hb hr rfl) stepR_loop) harr⟩
theorem LoopY.intro {σ : Type} {P : Program} {n : Nat} {c : Code} {env : Env} {H : Heap} {Q : Post} (S : σ → Env) (I : σ → Heap → Prop) (μ : σ → Nat) (s0 : σ) (h0 : Bears env (S s0)) (hI : I s0 H)
    (round : ∀ s H, I s H → enterK (mods c) env (S s) fun E => vcCodeY P n c E H fun e env' H' => match e with
      | .normal => ∃ s', Bears env' (S s') ∧ I s' H' ∧ μ s' < μ s
      | e => Q e env' H') : LoopY P n c env H Q := by
  refine ⟨fun r hf hdf => ⟨fun w0 a w ha hn hs hw => ?_⟩⟩
  refine wpIn_loop_by (fun m a' w' => a'.defers = a.defers ∧ a'.tmps.size = n ∧ Same w0 w' ∧ (∀ i, i ∉ mods c → a'.tmps[i]? = a.tmps[i]?) ∧ ∃ s, (∀ p ∈ S s, a'.tmps[p.1]? = some p.2) ∧ I s w'.heap ∧ μ s = m) (μ s0)
    ⟨rfl, hn, hs, fun _ _ => rfl, s0, bears_get ha h0, hw ▸ hI, rfl⟩ ?_
  intro m a' w' ⟨h1, h2, h3, h4, s, h5, h6, h7⟩
  obtain ⟨E, hcode, hE⟩ := enterK_spec (round s _ h6) ha h4 h5
  refine wpIn_mono ((vcCodeY_sound (r := r) c _ _ _ hf hdf hcode).out w0 a' w' hE h2 h3 rfl) ?_
  intro e a1 w1 ⟨g1', g2, g3, g4, env1, g5, g6⟩
  have g1 := g1'.trans h1
  have hfr : ∀ i, i ∉ mods c → a1.tmps[i]? = a.tmps[i]? := fun i hi => (g4 i hi).trans (h4 i hi)
  cases e with
  | normal =>
    obtain ⟨s', hb, hI', hlt⟩ := g6
    exact ⟨μ s', h7 ▸ hlt, g1, g2, g3, hfr, s', bears_get g5 hb, hI', rfl⟩
  | exit id => exact ⟨g1, g2, g3, hfr, env1, g5, g6⟩
  | goto l => exact ⟨g1, g2, g3, hfr, env1, g5, g6⟩
  | ret => exact ⟨g1, g2, g3, hfr, env1, g5, g6⟩
  | panic ch => exact ⟨g1, g2, g3, hfr, env1, g5, g6⟩
  | outgrown => exact ⟨g1, g2, g3, hfr, env1, g5, g6⟩
end Go.Vc
/- The engine, ranges over a function: the statement itself, one round of it, and a function that holds one. -/
namespace Go.Vc
open Go.Lx
/-- block l is a loop's record -/
structure LoopO (H : Heap) (l : Nat) (s : LoopState) (p : Option Code) (r : Loop) : Prop where out : H[l]? = some (.loop { r with state := s, pending := p })
theorem LoopO.lt {H : Heap} {l : Nat} {s : LoopState} {p : Option Code} {r : Loop} (h : LoopO H l s p r) : l < H.size := (Array.getElem?_eq_some_iff.1 h.out).1
theorem LoopO.keep {F : Nat → Prop} {H H' : Heap} {l : Nat} {s : LoopState} {p : Option Code} {r : Loop} (h : LoopO H l s p r) (k : Only F H H') (hl : ¬ F l) : LoopO H' l s p r := ⟨(k.same l h.lt hl).trans h.out⟩
theorem LoopO.ext {H H' : Heap} {l : Nat} {s : LoopState} {p : Option Code} {r : Loop} (h : LoopO H l s p r) (k : Ext H H') : LoopO H' l s p r := h.keep k id
theorem LoopO.ne {H : Heap} {l g : Nat} {s : LoopState} {p : Option Code} {r : Loop} {c : Array Value} {t : TypeId} (h : LoopO H l s p r) (k : Blk H g c t) : l ≠ g := by
  rintro rfl
  obtain ⟨_, h2, _⟩ := k.out
  rw [h.out] at h2; cases h2
/-- block D is a block for deferred calls, of which there are none -/
structure DefO (H : Heap) (D : Nat) : Prop where out : H[D]? = some (.deferred (some []))
theorem DefO.lt {H : Heap} {D : Nat} (h : DefO H D) : D < H.size := (Array.getElem?_eq_some_iff.1 h.out).1
theorem DefO.keep {F : Nat → Prop} {H H' : Heap} {D : Nat} (h : DefO H D) (k : Only F H H') (hl : ¬ F D) : DefO H' D := ⟨(k.same D h.lt hl).trans h.out⟩
theorem DefO.ext {H H' : Heap} {D : Nat} (h : DefO H D) (k : Ext H H') : DefO H' D := h.keep k id
theorem DefO.ne {H : Heap} {D g : Nat} {c : Array Value} {t : TypeId} (h : DefO H D) (k : Blk H g c t) : D ≠ g := by
  rintro rfl
  obtain ⟨_, h2, _⟩ := k.out
  rw [h.out] at h2; cases h2
theorem DefO.neL {H : Heap} {D l : Nat} {s : LoopState} {p : Option Code} {r : Loop} (h : DefO H D) (k : LoopO H l s p r) : D ≠ l := by
  rintro rfl
  have := h.out
  rw [k.out] at this; cases this
variable {P : Program}
theorem run_loopGet {w : World} {l : Nat} {r : Loop} (h : w.heap[l]? = some (.loop r)) : (Instr.getLoop l).run P w = .ok r w := by simp [Instr.getLoop, Sem.run_bind, getObj, Sem.run, h, Result.andThen]
theorem run_loopSet {w : World} {l : Nat} {r : Loop} {o' : Obj} (h : w.heap[l]? = some (.loop r)) : (setObj l o').run P w = .ok () { w with heap := w.heap.setIfInBounds l o' } := by simp [setObj, Sem.run, h]
theorem run_beginR {w : World} {l : Nat} {p : Option Code} {r : Loop} (h : LoopO w.heap l .ready p r) :
    (Instr.beginRound l).run P w = .ok () { w with heap := w.heap.setIfInBounds l (.loop { r with state := .busy, pending := p }) } := by
  simp only [Instr.beginRound, Sem.run_bind, run_loopGet h.out, Result.andThen_ok, run_loopSet h.out]; rfl
theorem run_endR {w : World} {l : Nat} {s : LoopState} {p : Option Code} {r : Loop} (h : LoopO w.heap l s p r) (j : Option Code) :
    (Instr.endRound l j).run P w = .ok (.bool j.isNone) { w with heap := w.heap.setIfInBounds l (.loop { r with state := if j.isNone then .ready else .done, pending := j }) } := by
  simp only [Instr.endRound, Sem.run_bind, run_loopGet h.out, Result.andThen_ok, run_loopSet h.out, Sem.run_pure]
theorem run_endL {w : World} {l : Nat} {s : LoopState} {p : Option Code} {r : Loop} (h : LoopO w.heap l s p r) (hs : s ≠ .busy) :
    (Instr.endLoop l).run P w = .ok p { w with heap := w.heap.setIfInBounds l (.loop { r with state := .exhausted, pending := p }) } := by
  have hb : (s == LoopState.busy) = false := by cases s <;> first | rfl | exact absurd rfl hs
  simp only [Instr.endLoop, Sem.run_bind, run_loopGet h.out, Result.andThen_ok, hb]
  simp [Sem.run_bind, run_loopSet h.out, Sem.run_pure]
theorem loop_set {H : Heap} {l : Nat} {s s' : LoopState} {p p' : Option Code} {r : Loop} (h : LoopO H l s p r) : LoopO (H.setIfInBounds l (.loop { r with state := s', pending := p' })) l s' p' r :=
  ⟨Array.getElem?_setIfInBounds_self_of_lt h.lt⟩
/-- ONE ROUND. -/
theorem YieldH.round {l n t : Nat} {x : Value} {H : Heap} {R : Value → Heap → Prop} {p : Option Code} {r : Loop} {env : Env} {assign body : Code} (hl : LoopO H l .ready p r) (hn : r.tmps.size = n) (hag : ∀ i v, get env i = some v → r.tmps[i]? = some v)
    (hps : r.params = #[t]) (hta : r.assign = assign) (htb : r.body = body) (ht : t < n) (hf : fitsC n assign = true) (hdf : noDefC assign = true) (hf' : fitsC n body = true) (hdf' : noDefC body = true)
    (h : vcCodeY P n assign ((t, x) :: env) H fun e env1 H1 => e = .normal ∧ LoopO H1 l .ready p r ∧ ∀ H2, H2.size = H1.size → LoopO H2 l .busy p r → But l H1 H2 → vcCodeY P n body env1 H2 fun e _ H3 => LoopO H3 l .busy p r ∧ match e with
      | .normal => ∀ H4, H4.size = H3.size → LoopO H4 l .ready none r → But l H3 H4 → R (.bool true) H4
      | .ret => ∀ H4, H4.size = H3.size → LoopO H4 l .done (some .ret) r → But l H3 H4 → R (.bool false) H4
      | .exit j => ∀ H4, H4.size = H3.size → LoopO H4 l .done (some (.exit j)) r → But l H3 H4 → R (.bool false) H4
      | _ => False) : YieldH P l [x] H R := by
  subst hta; subst htb
  refine ⟨fun w hw => ?_⟩
  subst hw
  refine ⟨r.fn, r.tmps.setIfInBounds t x, r.assign, r.body, w, ?_, Same.refl w, ?_⟩
  · simp only [Instr.yield, Sem.run_bind, run_loopGet hl.out, Result.andThen_ok, hps]
    simp [Sem.run_pure]
  refine roundIn_of_wpIn (F := Fence.wide) trivial ?_
  show r.assign.wpIn (FR (some l)) 0 P _ _ _
  have ha : Agrees ((t, x) :: env) { tmps := r.tmps.setIfInBounds t x, defers := [] } := by
    have h0 : Agrees env { tmps := r.tmps, defers := [] } := hag
    exact h0.put (d := t) (by show t < r.tmps.size; omega) x
  refine wpIn_mono ((vcCodeY_sound (r := some l) r.assign _ _ _ hf hdf h).out w _ w ha (by simpa using hn) (Same.refl w) rfl) ?_
  intro e a1 w1 ⟨g1, g2, g3, _, env1, g4, he, hl1, hb⟩
  subst he
  refine ⟨_, run_beginR hl1, ?_⟩
  have hb := hb _ (by simp) (loop_set hl1) (Only.set _ _ _)
  refine wpIn_mono ((vcCodeY_sound (r := some l) r.body _ _ _ hf' hdf' hb).out w a1 { w1 with heap := w1.heap.setIfInBounds l (.loop { r with state := .busy, pending := p }) } g4 g2 (g3.trans ⟨rfl, rfl, rfl⟩) rfl) ?_
  intro e a2 w2 ⟨k1, k2, k3, _, env2, k4, hl2, k5⟩
  cases e with
  | normal => exact ⟨_, _, run_endR hl2 none, k3.trans ⟨rfl, rfl, rfl⟩, _, rfl, k5 _ (by simp) (loop_set hl2) (Only.set _ _ _)⟩
  | ret => exact ⟨_, _, run_endR hl2 (some .ret), k3.trans ⟨rfl, rfl, rfl⟩, _, rfl, k5 _ (by simp) (loop_set hl2) (Only.set _ _ _)⟩
  | exit j => exact ⟨_, _, run_endR hl2 (some (.exit j)), k3.trans ⟨rfl, rfl, rfl⟩, _, rfl, k5 _ (by simp) (loop_set hl2) (Only.set _ _ _)⟩
  | goto j => exact k5.elim
  | panic c => exact k5.elim
  | outgrown => exact k5.elim
/- ---------- a function that holds such a range ---------- -/
def markD (D : Nat) : Deferred := { target := .collected D, args := #[] }
abbrev PostR := Exit → List Nat → Env → Heap → Prop
structure RangeH (P : Program) (n : Nat) (g : Operand) (ps : Array Tmp) (assign body : Code) (env : Env) (H : Heap) (K : Option Code → Nat → Heap → Prop) : Prop where
  out : ∃ gf captured, ev env g = some (.func (.func gf) #[] captured) ∧ (∀ (args : Array Value) (w : World), (callFunc gf args).run P w = .ok (.enter gf args) w) ∧
    ∀ (r : Loop) H2, r.tmps.size = n → (∀ i v, get env i = some v → r.tmps[i]? = some v) → r.params = ps → r.assign = assign → r.body = body → H2.size = H.size + 2 → Ext H H2 → DefO H2 H.size → LoopO H2 (H.size + 1) .ready none r →
      CallH P gf (.func (.yield (H.size + 1)) #[] #[] :: captured.toList) H2 fun _ H3 => ∃ s p, s ≠ .busy ∧ LoopO H3 (H.size + 1) s p r ∧ ∀ H4, H4.size = H3.size → But (H.size + 1) H3 H4 → K p H.size H4
def LiftR (w0 : World) (n : Nat) (a0 : Act) (ms : List Nat) (Q : PostR) (e : Exit) (a : Act) (w : World) : Prop :=
  ∃ ds : List Nat, a.defers = ds.map markD ∧ a.tmps.size = n ∧ Same w0 w ∧ (∀ i, i ∉ ms → a.tmps[i]? = a0.tmps[i]?) ∧ ∃ env, Agrees env a ∧ Q e ds env w.heap
structure CodeR (P : Program) (n : Nat) (c : Code) (ds : List Nat) (env : Env) (H : Heap) (Q : PostR) : Prop where
  out : ∀ (w0 : World) (a : Act) (w : World), Agrees env a → a.defers = ds.map markD → a.tmps.size = n → Same w0 w → w.heap = H → c.wpIn Fence.wide 0 P (LiftR w0 n a (mods c) Q) a w
def vcCodeR (P : Program) (n : Nat) (c : Code) (ds : List Nat) (env : Env) (H : Heap) (Q : PostR) : Prop :=
  match c with
  | .skip => Q .normal ds env H
  | .region id ops draw => match draw with
    | false => vcOpsY P ops.toList 0 ops.toList env H (Q .normal ds)
    | true => False
  | .seq x y => vcCodeR P n x ds env H fun e ds env H => match e with
      | .normal => vcCodeR P n y ds env H Q
      | e => Q e ds env H
  | .cond c x y => match ev env c with
    | some (.bool b) => CondH b (vcCodeR P n x ds env H Q) (vcCodeR P n y ds env H Q)
    | _ => False
  | .block id x => vcCodeR P n x ds env H fun e ds env H => match e with
    | .exit j => match Nat.beq j id with
      | true => Q .normal ds env H
      | false => Q (.exit j) ds env H
    | e => Q e ds env H
  | .rangeFunc g ps assign body => RangeH P n g ps assign body env H fun p D H' => match p with
    | none => Q .normal (D :: ds) env H'
    | some .ret => Q .ret (D :: ds) env H'
    | some (.exit j) => Q (.exit j) (D :: ds) env H'
    | _ => False
  | .exit id => Q (.exit id) ds env H
  | .ret => Q .ret ds env H
  | _ => False
def noDefR : Code → Bool
  | .region _ ops _ => ops.toList.all noDefO
  | .seq x y => noDefR x && noDefR y
  | .cond _ x y => noDefR x && noDefR y
  | .block _ x => noDefR x
  | .skip => true
  | .exit _ => true
  | .ret => true
  | .rangeFunc _ _ _ _ => true
  | _ => false
theorem run_enterL {w : World} (fn : FuncId) (tmps : Array Value) (ps : Array Tmp) (assign body : Code) :
    (Instr.enterLoop fn tmps ps assign body none).run P w = .ok (w.heap.size + 1, [markD w.heap.size]) { w with heap := (w.heap.push (.deferred (some []))).push (.loop ⟨.ready, none, fn, tmps, ps, assign, body, w.heap.size⟩) } := by
  simp [Instr.enterLoop, Sem.run_bind, run_newObj, Sem.run_pure, markD]
  rfl
theorem vcCodeR_sound {P : Program} {n : Nat} : ∀ (c : Code) (ds : List Nat) (env : Env) (H : Heap) (Q : PostR), fitsC n c = true → noDefR c = true → vcCodeR P n c ds env H Q → CodeR P n c ds env H Q
  | .skip, ds, env, H, Q, _, _, h => ⟨fun w0 a w ha hd hn hs hw => wpIn_skip ⟨ds, hd, hn, hs, fun _ _ => rfl, env, ha, hw ▸ h⟩⟩
  | .region id ops draw, ds, env, H, Q, hf, hdf, h => by
    cases draw with
    | false =>
      refine ⟨fun w0 a w ha hd hn hs hw => wpIn_region ?_⟩
      have := vcOpsY_sound (r := none) (a0 := a) (Q := LiftR w0 n a (modsO ops.toList) Q) (fun a' w' ⟨h1, h2, h3, h4, h5⟩ => ⟨ds, h1.trans hd, h2, h3, h4, h5⟩) (List.all_eq_true.1 hf) (List.all_eq_true.1 hdf) ops.toList 0 rfl env H h a w ha rfl hn hs (fun _ _ => rfl) hw
      rw [← List.range_eq_range', Array.length_toList] at this
      exact this
    | true => exact h.elim
  | .seq x y, ds, env, H, Q, hf, hdf, h => by
    simp only [fitsC, Bool.and_eq_true] at hf
    simp only [noDefR, Bool.and_eq_true] at hdf
    unfold vcCodeR at h
    have hx := vcCodeR_sound x ds env H _ hf.1 hdf.1 h
    refine ⟨fun w0 a w ha hd hsz hs hw => wpIn_seq (wpIn_mono (hx.out w0 a w ha hd hsz hs hw) ?_)⟩
    intro e a' w' ⟨es, h1, h2, h3, hfr, env', h4, h5⟩
    have other : e ≠ .normal → LiftR w0 n a (mods (.seq x y)) Q e a' w' := fun hne => ⟨es, h1, h2, h3, fun i hi => hfr i (fun hm => hi (by simp [mods, hm])), env', h4, by cases e <;> first | exact absurd rfl hne | exact h5⟩
    cases e with
    | normal =>
      have hy := vcCodeR_sound y es env' w'.heap Q hf.2 hdf.2 h5
      refine wpIn_mono (hy.out w0 a' w' h4 h1 h2 h3 rfl) ?_
      intro e a2 w2 ⟨es2, g1, g2, g3, gfr, env2, g4, g5⟩
      exact ⟨es2, g1, g2, g3, fun i hi => (gfr i (fun hm => hi (by simp [mods, hm]))).trans (hfr i (fun hm => hi (by simp [mods, hm]))), env2, g4, g5⟩
    | exit j => exact other (by simp)
    | goto j => exact other (by simp)
    | ret => exact other (by simp)
    | panic c => exact other (by simp)
    | outgrown => exact other (by simp)
  | .cond c x y, ds, env, H, Q, hf, hdf, h => by
    simp only [fitsC, Bool.and_eq_true] at hf
    simp only [noDefR, Bool.and_eq_true] at hdf
    simp only [vcCodeR] at h
    split at h
    · rename_i b hb
      refine ⟨fun w0 a w ha hd hn hs hw => wpIn_cond (ha.ev hb) ?_⟩
      cases b with
      | true => exact wpIn_mono ((vcCodeR_sound x ds env H Q hf.1 hdf.1 (h.t rfl)).out w0 a w ha hd hn hs hw) fun e a' w' ⟨es, h1, h2, h3, h4, h5⟩ => ⟨es, h1, h2, h3, fun i hi => h4 i (fun hm => hi (by simp [mods, hm])), h5⟩
      | false => exact wpIn_mono ((vcCodeR_sound y ds env H Q hf.2 hdf.2 (h.f rfl)).out w0 a w ha hd hn hs hw) fun e a' w' ⟨es, h1, h2, h3, h4, h5⟩ => ⟨es, h1, h2, h3, fun i hi => h4 i (fun hm => hi (by simp [mods, hm])), h5⟩
    · exact h.elim
  | .block id x, ds, env, H, Q, hf, hdf, h => by
    have hx := vcCodeR_sound x ds env H _ hf hdf h
    refine ⟨fun w0 a w ha hd hn hs hw => wpIn_block (wpIn_mono (hx.out w0 a w ha hd hn hs hw) ?_)⟩
    intro e a' w' ⟨es, h1, h2, h3, hfr, env', h4, h5⟩
    cases e with
    | exit j =>
      show if j = id then _ else _
      dsimp only at h5
      split at h5
      · rename_i hb
        rw [if_pos (Nat.eq_of_beq_eq_true hb)]
        exact ⟨es, h1, h2, h3, hfr, env', h4, h5⟩
      · rename_i hb
        rw [if_neg (fun e => by subst e; simp at hb)]
        exact ⟨es, h1, h2, h3, hfr, env', h4, h5⟩
    | _ => exact ⟨es, h1, h2, h3, hfr, env', h4, h5⟩
  | .rangeFunc g ps assign body, ds, env, H, Q, hf, hdf, h => by
    obtain ⟨gf, captured, hev, hc, hcall⟩ := h.out
    refine ⟨fun w0 a w ha hd hn hs hw => wpIn_rangeFunc (F := Fence.wide) fun fn _ => ?_⟩
    subst hw
    let r : Loop := ⟨.ready, none, fn, a.tmps, ps, assign, body, w.heap.size⟩
    let w1 : World := { w with heap := (w.heap.push (.deferred (some []))).push (.loop r) }
    have hx1 : Ext w.heap w1.heap := (Only.push _ _ _).trans (Only.push _ _ _) fun _ _ => id
    have hdo : DefO w1.heap w.heap.size := ⟨by show ((w.heap.push _).push _)[w.heap.size]? = _; rw [Array.getElem?_push_lt (by simp)]; simp⟩
    have hlo : LoopO w1.heap (w.heap.size + 1) .ready none r := ⟨by show ((w.heap.push _).push _)[w.heap.size + 1]? = _; have := push_last (w.heap.push (.deferred (some []))) (Obj.loop r); simpa using this⟩
    have hcc := (hcall r w1.heap hn ha rfl rfl rfl (by show ((w.heap.push _).push _).size = _; simp) hx1 hdo hlo).out w1 rfl
    rw [hc] at hcc
    obtain ⟨hsame, hcc⟩ := hcc
    refine ⟨w.heap.size + 1, [markD w.heap.size], w1, ⟨.fn (.func gf) captured, #[.func (.yield (w.heap.size + 1)) #[] #[]]⟩, w1, gf, #[.func (.yield (w.heap.size + 1)) #[] #[]] ++ captured, w1, run_enterL _ _ _ _ _, ?_, fun _ _ => trivial, ?_, fun hd => (by cases hd), ?_⟩
    · simp only [rangeCall, resolve, ha.ev hev, Deferred.ofValue]
      simp [Sem.run_pure, Act.eval]
    · exact hc _ _
    have eargs : (Value.func (.yield (w.heap.size + 1)) #[] #[] :: captured.toList).toArray = #[.func (.yield (w.heap.size + 1)) #[] #[]] ++ captured := by apply Array.toList_inj.1; simp
    rw [eargs] at hcc
    refine callsIn_wide.2 (Calls.mono hcc fun e w3 h3 => ?_)
    obtain ⟨hs3, v, he, s, p, hsb, hl3, hK⟩ := h3
    subst he
    have hK := hK _ (by simp) (Only.set w3.heap (w.heap.size + 1) (.loop { r with state := .exhausted, pending := p }))
    have hsame3 : Same w0 { w3 with heap := w3.heap.setIfInBounds (w.heap.size + 1) (.loop { r with state := .exhausted, pending := p }) } := (hs.trans ⟨rfl, rfl, rfl⟩ : Same w0 w1).trans (hs3.trans ⟨rfl, rfl, rfl⟩)
    have hdd : [markD w.heap.size] ++ a.defers = (w.heap.size :: ds).map markD := by rw [hd]; rfl
    refine ⟨p, _, run_endL hl3 hsb, ?_⟩
    cases p with
    | none => exact ⟨_, hdd, hn, hsame3, fun _ _ => rfl, env, ha, hK⟩
    | some c =>
      cases c <;> try exact hK.elim
      case exit j => exact wpIn_exit ⟨_, hdd, hn, hsame3, fun _ _ => rfl, env, ha, hK⟩
      case ret => exact wpIn_ret ⟨_, hdd, hn, hsame3, fun _ _ => rfl, env, ha, hK⟩
  | .loop x, ds, env, H, Q, hf, hdf, h => h.elim
  | .exit id, ds, env, H, Q, _, _, h => ⟨fun w0 a w ha hd hn hs hw => wpIn_exit ⟨ds, hd, hn, hs, fun _ _ => rfl, env, ha, hw ▸ h⟩⟩
  | .ret, ds, env, H, Q, _, _, h => ⟨fun w0 a w ha hd hn hs hw => wpIn_ret ⟨ds, hd, hn, hs, fun _ _ => rfl, env, ha, hw ▸ h⟩⟩
/- the function whole -/
theorem run_takeD {w : World} {b : Nat} {ds : List Deferred} (h : w.heap[b]? = some (.deferred (some ds))) : (Instr.takeDeferred b).run P w = .ok ds { w with heap := w.heap.setIfInBounds b (.deferred none) } := by
  simp [Instr.takeDeferred, Sem.run_bind, getObj, setObj, Sem.run, h, Result.andThen]
def vcTake (P : Program) (rs : List ResultVar) (R : Value → Heap → Prop) : List Nat → Env → Heap → Prop
  | [], env, H => vcRes P env H rs fun vs => R (one vs) H
  | D :: ds, env, H => DefO H D ∧ ∀ H', H'.size = H.size → But D H H' → vcTake P rs R ds env H'
def vcPostR (P : Program) (rs : List ResultVar) (R : Value → Heap → Prop) : PostR := fun e ds env H => match e with
  | .normal => vcTake P rs R ds env H
  | .ret => vcTake P rs R ds env H
  | _ => False
theorem vcTake_sound {fn : Func} {R : Value → Heap → Prop} {w0 : World} {env : Env} {a : Act} (ha : Agrees env a) : ∀ (ds : List Nat) (w : World), Same w0 w → vcTake P fn.results.toList R ds env w.heap →
    LeavesInM Fence.wide 0 P fn a.tmps (fun e w' => Same w0 w' ∧ ∃ v, e = .returned v ∧ R v w'.heap) (ds.map markD) .returning w
  | [], w, hs, hk => by
    obtain ⟨vs, hr, hR⟩ := vcRes_sound ha _ _ hk
    refine ⟨one vs, ?_, hs, _, rfl, hR⟩
    rw [results_eq, Array.mapM_eq_mapM_toList]
    simp only [bind_assoc, map_eq_pure_bind, pure_bind, Sem.run_bind]
    rw [hr]
    simp only [Result.andThen_ok, Sem.run_pure]
    rcases vs with _ | ⟨x, _ | ⟨y, l⟩⟩ <;> simp [one]
  | D :: ds, w, hs, ⟨h1, h2⟩ => by
    refine ⟨by simp, .inl ⟨D, _, rfl, run_takeD h1.out, ?_⟩⟩
    exact vcTake_sound ha ds _ (hs.trans ⟨rfl, rfl, rfl⟩) (h2 _ (by simp) (Only.set _ _ _))
/-- A CALL FROM ITS BODY, which holds ranges over functions. -/
theorem CallH.bodyR {f : FuncId} {fn : Func} {c : Code} {args : List Value} {H : Heap} {R : Value → Heap → Prop} (hf : P.funcs[f]? = some fn)
    (hc : ∀ (args : Array Value) (w : World), (callFunc f args).run P w = .ok (.enter f args) w) (hb : fn.body = some c) (hfit : fitsC fn.ntmps c = true) (hdef : noDefR c = true) (hargs : Nat.ble args.length fn.ntmps = true)
    (h : vcCodeR P fn.ntmps c [] (argEnv 0 args) H (vcPostR P fn.results.toList R)) : CallH P f args H R := by
  have hargs := Nat.le_of_ble_eq_true hargs
  refine ⟨fun w hw => ?_⟩
  rw [hc]
  refine ⟨Same.refl w, ?_⟩
  refine callsIn_wide (n := 0).1 (callsIn_of_wp_marks hf hb trivial ?_)
  have hcode := (vcCodeR_sound c [] _ H _ hfit hdef h).out w { tmps := args.toArray ++ Array.replicate (fn.ntmps - args.toArray.size) undef, defers := [] } w ?_ rfl (by simp; omega) (Same.refl w) hw
  · refine wpIn_mono hcode fun e a w' h => ?_
    obtain ⟨ds, h1, h2, h3, _, env, h5, h6⟩ := h
    cases e with
    | normal => show LeavesInM _ _ _ _ _ _ _ _ _; rw [h1]; exact vcTake_sound h5 ds w' h3 h6
    | ret => show LeavesInM _ _ _ _ _ _ _ _ _; rw [h1]; exact vcTake_sound h5 ds w' h3 h6
    | _ => exact h6.elim
  · intro i v hv
    obtain ⟨_, h2⟩ := argEnv_get args 0 i v hv
    have h2 : args[i]? = some v := by simpa using h2
    have hlt : i < args.length := by
      rcases Nat.lt_or_ge i args.length with h | h
      · exact h
      · rw [List.getElem?_eq_none h] at h2; cases h2
    simp only
    rw [Array.getElem?_append_left (by simpa using hlt)]
    simpa using h2
/-- A CALL FROM ITS BODY, which calls yield. -/
theorem CallH.bodyY {f : FuncId} {fn : Func} {c : Code} {args : List Value} {H : Heap} {R : Value → Heap → Prop} (hf : P.funcs[f]? = some fn)
    (hc : ∀ (args : Array Value) (w : World), (callFunc f args).run P w = .ok (.enter f args) w) (hb : fn.body = some c) (hfit : fitsC fn.ntmps c = true) (hdef : noDefC c = true) (hargs : Nat.ble args.length fn.ntmps = true)
    (h : vcCodeY P fn.ntmps c (argEnv 0 args) H (vcPost P fn.results.toList R)) : CallH P f args H R := by
  have hargs := Nat.le_of_ble_eq_true hargs
  refine ⟨fun w hw => ?_⟩
  rw [hc]
  refine ⟨Same.refl w, ?_⟩
  refine callsIn_wide (n := 0).1 (callsIn_of_wp hf hb trivial ?_)
  have hcode := (vcCodeY_sound (r := none) c _ H _ hfit hdef h).out w { tmps := args.toArray ++ Array.replicate (fn.ntmps - args.toArray.size) undef, defers := [] } w ?_ (by simp; omega) (Same.refl w) hw
  · exact wpIn_mono hcode fun e a w h => vcPost_sound rfl h
  · intro i v hv
    obtain ⟨_, h2⟩ := argEnv_get args 0 i v hv
    have h2 : args[i]? = some v := by simpa using h2
    have hlt : i < args.length := by
      rcases Nat.lt_or_ge i args.length with h | h
      · exact h
      · rw [List.getElem?_eq_none h] at h2; cases h2
    simp only
    rw [Array.getElem?_append_left (by simpa using hlt)]
    simpa using h2
end Go.Vc
/- Calls of the model's own entries. -/
namespace Go.Vc
/-- a call of one of the model's own entries -/
theorem CallH.extern {P : Program} {f : FuncId} {fn : Func} {e : Array Value → Sem Value} {args : List Value} {H : Heap} {R : Value → Heap → Prop} (hf : P.funcs[f]? = some fn) (hname : (fn.name == "runtime.NumGoroutine") = false)
    (hb : fn.body.isNone = true) (hn : Extern.findNext fn = none) (he : Extern.find fn = some e) (h : SemH P (e args.toArray) H R) : CallH P f args H R := by
  refine ⟨fun w hw => ?_⟩
  obtain ⟨v, w', hr, hs, hk⟩ := h.out w hw
  rw [run_callFunc_extern hf hname hb hn he, hr]
  exact ⟨hs, hk⟩
end Go.Vc
/- A text's lines: strings.Split at one byte. -/
namespace Go.Proofs.YtjcmcmogbkdjcaaDoor
open Go Go.Vc Go.Scr

theorem countS_any (l : Bs) (c : UInt8) (H : Heap) : CallH Tryd.prog 92 [.string (mkS l), .int .u8 c.toNat] H fun v H' => v = .int .i64 (l.count c : Nat) ∧ H = H' := by
  refine CallH.extern Tryd.func92 (by kernel_rfl) (by kernel_rfl) (by kernel_rfl) (by kernel_rfl) (e := Extern.BytealgCount.count) ⟨fun w hw => ⟨_, w, Lib.run_countString (mkS l) c.toNat w, Same.refl w, ?_, hw.symm⟩⟩
  show Value.int .i64 ((l.count ((c.toNat : Int).toNat.toUInt8) : Nat) : Int) = _
  have : (c.toNat : Int).toNat.toUInt8 = c := by rw [Int.toNat_natCast]; exact UInt8.ofNat_toNat
  rw [this]
theorem indexS_any (l : Bs) (c : UInt8) (H : Heap) : CallH Tryd.prog 97 [.string (mkS l), .int .u8 c.toNat] H fun v H' => v = .int .i64 (Lib.indexByte l c) ∧ H = H' := by
  refine CallH.extern Tryd.func97 (by kernel_rfl) (by kernel_rfl) (by kernel_rfl) (by kernel_rfl) (e := Extern.BytealgIndexByte.indexByte) ⟨fun w hw => ⟨_, w, Lib.run_indexByteString (mkS l) c.toNat w, Same.refl w, ?_, hw.symm⟩⟩
  show Value.int .i64 (Lib.indexByte l ((c.toNat : Int).toNat.toUInt8)) = _
  have : (c.toNat : Int).toNat.toUInt8 = c := by rw [Int.toNat_natCast]; exact UInt8.ofNat_toNat
  rw [this]
theorem Count_any (l : Bs) (c : UInt8) (H : Heap) : CallH Tryd.prog 86 [.string (mkS l), .string (mkS [c])] H fun v H' => v = .int .i64 (l.count c : Nat) ∧ H = H' := by
  have hsz : (mkS [c]).size = 1 := rfl
  have h0 : (mkS [c]).data.toList.getD 0 0 = c := rfl
  refine Vc.CallH.body Tryd.func86 Tryd.call86 rfl (by decide +kernel) rfl ?_
  ((conv => whnf); repeat (any_goals (first | ((refine IdxH.nat 0 rfl (by omega) ?_; (conv => whnf); rw [h0]); (conv => whnf)) | ((refine (countS_any _ _ _).mono ?_; rintro _ _ ⟨rfl, rfl⟩); (conv => whnf)) | (refine Vc.stp ?_; intros; (conv => whnf)) | (refine Vc.spl ?_ ?_ <;> (intro _; (conv => whnf))))))
  exact ⟨rfl, rfl⟩
theorem IndexByte_any (l : Bs) (c : UInt8) (H : Heap) : CallH Tryd.prog 93 [.string (mkS l), .int .u8 c.toNat] H fun v H' => v = .int .i64 (Lib.indexByte l c) ∧ H = H' := by
  refine Vc.CallH.body Tryd.func93 Tryd.call93 rfl (by decide +kernel) rfl ?_
  ((conv => whnf); repeat (any_goals (first | ((refine (indexS_any _ _ _).mono ?_; rintro _ _ ⟨rfl, rfl⟩); (conv => whnf)) | (refine Vc.stp ?_; intros; (conv => whnf)) | (refine Vc.spl ?_ ?_ <;> (intro _; (conv => whnf))))))
  exact ⟨rfl, rfl⟩
set_option maxHeartbeats 1000000 in
theorem Index0_any (l : Bs) (c : UInt8) (H : Heap) : CallH Tryd.prog 90 [.string (mkS l), .string (mkS [c])] H fun v H' => v = .int .i64 (Lib.indexByte l c) ∧ H = H' := by
  have hsz : (mkS [c]).size = 1 := rfl
  have h0 : (mkS [c]).data.toList.getD 0 0 = c := rfl
  refine Vc.CallH.body Tryd.func90 Tryd.call90 rfl (by decide +kernel) rfl ?_
  ((conv => whnf); repeat (any_goals (first | ((refine IdxH.nat 0 rfl (by omega) ?_; (conv => whnf); rw [h0]); (conv => whnf)) | ((refine (IndexByte_any _ _ _).mono ?_; rintro _ _ ⟨rfl, rfl⟩); (conv => whnf)) | (refine Vc.stp ?_; intros; (conv => whnf)) | (refine Vc.spl ?_ ?_ <;> (intro _; (conv => whnf))))))
  · rename_i h
    have := mkS_inj.1 h
    subst this
    refine ⟨?_, rfl⟩
    show Value.int .i64 0 = Value.int .i64 (if (c == c) = true then 0 else _)
    rw [if_pos (by simp)]
  · exact ⟨rfl, rfl⟩
theorem Index_any (l : Bs) (c : UInt8) (H : Heap) : CallH Tryd.prog 84 [.string (mkS l), .string (mkS [c])] H fun v H' => v = .int .i64 (Lib.indexByte l c) ∧ H = H' := by
  refine Vc.CallH.body Tryd.func84 Tryd.call84 rfl (by decide +kernel) rfl ?_
  ((conv => whnf); repeat (any_goals (first | ((refine (Index0_any _ _ _).mono ?_; rintro _ _ ⟨rfl, rfl⟩); (conv => whnf)) | (refine Vc.stp ?_; intros; (conv => whnf)) | (refine Vc.spl ?_ ?_ <;> (intro _; (conv => whnf))))))
  exact ⟨rfl, rfl⟩
theorem index_none {c : UInt8} : ∀ {l : Bs}, c ∉ l → Lib.indexByte l c = -1
  | [], _ => rfl
  | b :: l, h => by
    have h1 : (b == c) = false := by rw [beq_eq_false_iff_ne]; exact fun e => h (by simp [e])
    unfold Lib.indexByte
    rw [h1, index_none (l := l) fun hm => h (by simp [hm])]; rfl
theorem index_some {c : UInt8} : ∀ {l : Bs}, c ∈ l → ∃ p q, l = p ++ c :: q ∧ c ∉ p ∧ Lib.indexByte l c = (p.length : Nat)
  | [], h => by simp at h
  | b :: l, h => by
    by_cases hb : b = c
    · subst hb
      exact ⟨[], l, rfl, by simp, by unfold Lib.indexByte; simp⟩
    · have hm : c ∈ l := by rcases List.mem_cons.1 h with e | e; exact absurd e.symm hb; exact e
      obtain ⟨p, q, e1, e2, e3⟩ := index_some hm
      refine ⟨b :: p, q, by rw [e1]; rfl, by simp [e2]; exact fun e => hb e.symm, ?_⟩
      have h1 : (b == c) = false := by rw [beq_eq_false_iff_ne]; exact hb
      unfold Lib.indexByte
      rw [h1, e3, if_neg (by simp), if_neg (by rw [beq_iff_eq]; omega)]
      simp
theorem splitF_none {c : UInt8} : ∀ {l : Bs}, c ∉ l → splitF c l = [l]
  | [], _ => rfl
  | x :: l, h => by
    have hx : x ≠ c := fun e => h (by simp [e])
    rw [splitF, if_neg hx, splitF_none (l := l) fun hm => h (by simp [hm])]
theorem count_none {c : UInt8} {l : Bs} (h : c ∉ l) : l.count c = 0 := List.count_eq_zero.2 h
theorem made_strs (n : Nat) : (madeCells (Value.string ⟨#[]⟩).cells (n * 1)).toList = strs (List.replicate n []) := by
  apply List.ext_getElem?
  intro i
  simp only [strs, List.map_replicate, List.getElem?_replicate, madeCells]
  simp only [Value.cells, Nat.mul_one]
  rw [Array.getElem?_toList]
  by_cases h : i < n
  · simp [h, Nat.mod_one]
  · simp [h]
theorem strs_set (l : List Bs) (k : Nat) (w : Bs) (s : ByteArray) (hs : s = mkS w) : (strs l).set k (.string s) = strs (l.set k w) := by
  subst hs; simp [strs, List.map_set]
theorem set_app (p : List Bs) (m : Nat) (w : Bs) (h : 0 < m) : (p ++ List.replicate m []).set p.length w = (p ++ [w]) ++ List.replicate (m - 1) [] := by
  obtain ⟨k, rfl⟩ : ∃ k, m = k + 1 := ⟨m - 1, by omega⟩
  rw [List.replicate_succ, List.set_append_right _ _ (Nat.le_refl _), Nat.sub_self, List.set_cons_zero]
  simp
structure GSt where
  rest : Bs
  ps : List Bs
set_option maxHeartbeats 2000000 in
theorem genSplit_any (l : Bs) (c : UInt8) (hl : l.length ≤ 100000000) (H : Heap) : CallH Tryd.prog 77 [.string (mkS l), .string (mkS [c]), .int .i64 0, .int .i64 (-1)] H fun v H' => (∃ a, v = .slice a (splitF c l).length (l.count c + 1) ∧ Own H' H.size 9 1 a (splitF c l).length (l.count c + 1) (strs (splitF c l))) ∧ Ext H H' := by
  have hsz : (mkS [c]).size = 1 := rfl
  have hszl : (mkS l).size = l.length := rfl
  have hne := ne_empty c []
  obtain ⟨N, hN⟩ : ∃ N, l.count c = N := ⟨_, rfl⟩
  have hNl : N ≤ l.length := by rw [← hN]; exact List.count_le_length
  have hcnt := fun H => Count_any l c H
  rw [hN] at hcnt ⊢
  obtain ⟨S, hS⟩ : ∃ S, splitF c l = S := ⟨_, rfl⟩
  rw [hS]
  refine Vc.CallH.body Tryd.func77 Tryd.call77 rfl (by decide +kernel) rfl ?_
  have hmin : min ((N : Int) + 1) ((l.length : Int) + 1) = ((N + 1 : Nat) : Int) := by omega
  ((conv => whnf); repeat (any_goals (first | ((refine (hcnt _).mono ?_; rintro _ _ ⟨rfl, rfl⟩); (conv => whnf)) | (refine Vc.stp ?_; intros; (conv => whnf)) | (refine Vc.spl ?_ ?_ <;> (intro _; (conv => whnf))))))
  rw [show min ((N : Int) + 1) (((mkS l).size : Int) + 1) = ((N + 1 : Nat) : Int) by rw [hszl]; exact hmin]
  refine SemH.make rfl rfl rfl (by show 16 * (N + 1) ≤ _; omega) (by unfold maxLen; omega) ?_
  intro H2 ho2 hx2
  replace ho2 : Own H2 H.size 9 1 (some ⟨H.size, 0, none⟩) (N + 1) (N + 1) (madeCells (Value.string ⟨#[]⟩).cells ((N + 1) * 1)).toList := ho2
  rw [made_strs] at ho2
  ((conv => whnf); repeat (any_goals (first | (refine Vc.stp ?_; intros; (conv => whnf)) | (refine Vc.spl ?_ ?_ <;> (intro _; (conv => whnf))))))
  refine LoopH.intro (fun (x : GSt) => [(0, .string (mkS x.rest)), (10, .int .i64 x.ps.length)]) (fun x H' => x.rest.length ≤ l.length ∧ x.ps.length + x.rest.count c = N ∧ S = x.ps ++ splitF c x.rest ∧ Own H' H.size 9 1 (some ⟨H.size, 0, none⟩) (N + 1) (N + 1) (strs (x.ps ++ List.replicate (N + 1 - x.ps.length) [])) ∧ But H.size H2 H') (fun x => N - x.ps.length) ⟨l, []⟩ ⟨rfl, rfl, trivial⟩ ⟨Nat.le_refl _, by rw [← hN]; simp, hS.symm, ho2, Only.refl _ _⟩ ?_
  rintro ⟨rest, ps⟩ H3 ⟨hrl, hcn, hsp, ho3, hx3⟩
  dsimp only at hrl hcn hsp ho3 ⊢
  have hszr : (mkS rest).size = rest.length := rfl
  have hix := fun H => Index_any rest c H
  have hrep : 0 < N + 1 - ps.length := by omega
  by_cases hlt : ps.length < N
  · have hmem : c ∈ rest := List.count_pos_iff.1 (by omega)
    obtain ⟨p, q, e1, e2, e3⟩ := index_some hmem
    rw [e3] at hix
    have hlen : rest.length = p.length + 1 + q.length := by rw [e1]; simp; omega
    have hp : (mkS rest).extract 0 p.length = mkS p := by rw [mkS_take, e1]; simp
    ((conv => whnf); repeat (any_goals (first | ((refine (hix _).mono ?_; rintro _ _ ⟨rfl, rfl⟩); (conv => whnf)) | ((refine BndH.nat p.length (by omega) (by omega) ?_); (conv => whnf)) | ((refine BndH.nat (p.length + 1) (by omega) (by omega) ?_); (conv => whnf)) | ((refine IdxA.at1 ps.length rfl (by omega) ?_); (conv => whnf)) | (refine Vc.stp ?_; intros; (conv => whnf)) | (refine Vc.spl ?_ ?_ <;> (intro _; (conv => whnf))))))
    refine DoH.store_own (o := 0 + ps.length) ho3 rfl rfl rfl (by omega) ?_
    intro H4 hs4 ho4 hx4
    rw [Nat.zero_add, strs_set _ _ p _ hp, set_app _ _ _ hrep] at ho4
    ((conv => whnf); repeat (any_goals (first | ((refine BndH.nat (p.length + 1) (by omega) (by omega) ?_); (conv => whnf)) | (refine Vc.stp ?_; intros; (conv => whnf)) | (refine Vc.spl ?_ ?_ <;> (intro _; (conv => whnf))))))
    refine ⟨⟨q, ps ++ [p]⟩, ⟨?_, ?_, trivial⟩, ⟨by show q.length ≤ _; omega, ?_, ?_, ?_, hx3.trans hx4 fun _ _ => id⟩, by show N - (ps ++ [p]).length < N - ps.length; simp; omega⟩
    · show Value.string ((mkS rest).extract (p.length + 1) (mkS rest).size) = .string (mkS q)
      rw [mkS_drop, e1]; congr 2; simp
    · show Value.int .i64 _ = Value.int .i64 _
      rw [List.length_append]; rfl
    · rw [e1] at hcn
      simp only [List.length_append, List.length_cons, List.length_nil, List.count_append, List.count_cons_self, count_none e2] at hcn ⊢
      omega
    · rw [hsp, e1, splitF_line _ _ e2]; simp
    · show Own H4 H.size _ 1 _ _ _ (strs ((ps ++ [p]) ++ List.replicate (N + 1 - (ps ++ [p]).length) []))
      rw [List.length_append, show N + 1 - (ps.length + [p].length) = N + 1 - ps.length - 1 by simp; omega]
      exact ho4
  · have hmem : c ∉ rest := List.count_eq_zero.1 (by omega)
    have hps : ps.length = N := by omega
    rw [splitF_none hmem] at hsp
    have hSl : S.length = N + 1 := by rw [hsp, List.length_append, hps]; rfl
    ((conv => whnf); repeat (any_goals (first | ((refine IdxA.at1 ps.length rfl (by omega) ?_); (conv => whnf)) | (refine Vc.stp ?_; intros; (conv => whnf)) | (refine Vc.spl ?_ ?_ <;> (intro _; (conv => whnf))))))
    refine DoH.store_own (o := 0 + ps.length) ho3 rfl rfl rfl (by omega) ?_
    intro H4 hs4 ho4 hx4
    rw [Nat.zero_add, strs_set _ _ rest _ rfl, set_app _ _ _ hrep, hps, show N + 1 - N - 1 = 0 by omega, List.replicate_zero, List.append_nil, ← hsp] at ho4
    ((conv => whnf); repeat (any_goals (first | ((refine BndH.nat (N + 1) (by omega) (by omega) ?_); (conv => whnf)) | (refine Vc.stp ?_; intros; (conv => whnf)) | (refine Vc.spl ?_ ?_ <;> (intro _; (conv => whnf))))))
    rw [hSl]
    exact ⟨⟨_, rfl, ho4⟩, (hx2.but hx3 (Nat.le_refl _)).but hx4 (Nat.le_refl _)⟩
theorem Split_any (l : Bs) (c : UInt8) (hl : l.length ≤ 100000000) (H : Heap) : CallH Tryd.prog 64 [.string (mkS l), .string (mkS [c])] H fun v H' => (∃ a, v = .slice a (splitF c l).length (l.count c + 1) ∧ Own H' H.size 9 1 a (splitF c l).length (l.count c + 1) (strs (splitF c l))) ∧ Ext H H' := by
  refine Vc.CallH.body Tryd.func64 Tryd.call64 rfl (by decide +kernel) rfl ?_
  ((conv => whnf); repeat (any_goals (first | ((refine (genSplit_any l c hl _).mono ?_; rintro _ H1 ⟨⟨a, rfl, ho⟩, hx⟩); (conv => whnf)) | (refine Vc.stp ?_; intros; (conv => whnf)) | (refine Vc.spl ?_ ?_ <;> (intro _; (conv => whnf))))))
  exact ⟨⟨a, rfl, ho⟩, hx⟩
end Go.Proofs.YtjcmcmogbkdjcaaDoor
/- Paths, the code: the parts of a path, handed on one by one (strings.SplitSeq). -/
namespace Go.Proofs.YtjcmcmogbkdjcaaDoor
open Go Go.Vc Go.Scr Go.Pth
set_option maxHeartbeats 1000000 in
theorem seq1_any (l : Nat) (s : Bs) (bp bs bn : Nat) (J : List Bs → Bs → Heap → Prop) (Jx : List Bs → Heap → Prop) (H : Heap) (hl : s.length ≤ 100000000)
    (hB : ∀ pre r H, J pre r H → Blk H bp #[.string (mkS [47])] 9 ∧ Blk H bs #[.string (mkS r)] 9 ∧ Blk H bn #[.int .i64 0] 3)
    (hA : ∀ pre r r' H H', J pre r H → But bs H H' → Blk H' bs #[.string (mkS r')] 9 → J pre r' H')
    (hY : ∀ pre x r H1, J pre r H1 → (∃ t, splitF 47 s = pre ++ x :: t) → YieldH Tryd.prog l [.string (mkS x)] H1 fun v H2 => (v = .bool true ∧ J (pre ++ [x]) r H2) ∨ (v = .bool false ∧ Jx (pre ++ [x]) H2))
    (h0 : J [] s H) : CallH Tryd.prog 82 [.func (.yield l) #[] #[], .pointer (some ⟨bp, 0, none⟩), .pointer (some ⟨bs, 0, none⟩), .pointer (some ⟨bn, 0, none⟩)] H fun v H' => (∃ r, J (splitF 47 s) r H') ∨ ∃ pre, pre ≠ [] ∧ pre <+: splitF 47 s ∧ Jx pre H' := by
  have h47 : (mkS [47]).size = 1 := rfl
  obtain ⟨kp, ks, kn⟩ := hB _ _ _ h0
  refine Vc.CallH.bodyY Tryd.func82 Tryd.call82 rfl (by decide +kernel) (by decide +kernel) rfl ?_
  ((conv => whnf); repeat (any_goals (first | (refine Vc.stp ?_; intros; (conv => whnf)) | (refine Vc.spl ?_ ?_ <;> (intro _; (conv => whnf))))))
  refine LoopY.intro (fun _ => []) (fun (x : List Bs × Bs) H' => J x.1 x.2 H' ∧ x.2.length ≤ s.length ∧ splitF 47 s = x.1 ++ splitF 47 x.2) (fun x => x.2.length) ([], s) trivial ⟨h0, Nat.le_refl _, rfl⟩ ?_
  rintro ⟨pre, r⟩ H1 ⟨hj, hrl, hsp⟩
  dsimp only at hj hrl hsp ⊢
  obtain ⟨kp1, ks1, kn1⟩ := hB _ _ _ hj
  have hszr : (mkS r).size = r.length := rfl
  have hix := fun H => Index_any r 47 H
  by_cases hm : (47 : UInt8) ∈ r
  · obtain ⟨p, q, e1, e2, e3⟩ := index_some hm
    rw [e3] at hix
    have hlen : r.length = p.length + 1 + q.length := by rw [e1]; simp; omega
    have hp : (mkS r).extract 0 p.length = mkS p := by rw [mkS_take, e1]; simp
    have hq : (mkS r).extract (p.length + 1) (mkS r).size = mkS q := by
      have e4 : r.drop (p.length + 1) = q := by rw [e1]; simp
      rw [hszr, mkS_ext, e4, List.take_of_length_le (by omega)]
    have hsr : splitF 47 r = p :: splitF 47 q := by rw [e1]; exact splitF_line p q e2
    have hyy := (hY pre p r H1 hj ⟨splitF 47 q, by rw [hsp, hsr]⟩).mono (R' := fun v H2 => (v = .bool true ∧ J (pre ++ [p]) r H2 ∧ Blk H2 bp #[.string (mkS [47])] 9 ∧ Blk H2 bs #[.string (mkS r)] 9 ∧ Blk H2 bn #[.int .i64 0] 3) ∨ (v = .bool false ∧ Jx (pre ++ [p]) H2)) fun v H2 h => h.imp (fun ⟨a, b⟩ => ⟨a, b, hB _ _ _ b⟩) id
    ((conv => whnf); repeat (any_goals (first | ((refine (hix _).mono ?_; rintro _ _ ⟨rfl, rfl⟩); (conv => whnf)) | ((refine BndH.nat p.length (by omega) (by omega) ?_; (conv => whnf); rw [hp]); (conv => whnf)) | ((refine BndH.nat (p.length + 1) (by omega) (by omega) ?_); (conv => whnf)) | ((refine hyy.mono ?_; rintro v H2 (⟨rfl, hj2, kp2, ks2, kn2⟩ | ⟨rfl, hx2⟩) <;> (conv => whnf)); (conv => whnf)) | (refine Vc.stp ?_; intros; (conv => whnf)) | (refine Vc.spl ?_ ?_ <;> (intro _; (conv => whnf))))))
    · rename_i H3 hz3 hb3 hx3
      rw [hq] at hb3
      exact ⟨(pre ++ [p], q), trivial, ⟨hA _ r q H2 H3 hj2 hx3 hb3, by dsimp only; omega, by dsimp only; rw [hsp, hsr]; simp⟩, by dsimp only; omega⟩
    · exact .inr ⟨pre ++ [p], by simp, ⟨splitF 47 q, by rw [hsp, hsr]; simp⟩, hx2⟩
  · rw [index_none hm] at hix
    have hsr : splitF 47 r = [r] := splitF_none hm
    have hyy := hY pre r r H1 hj ⟨[], by rw [hsp, hsr]⟩
    ((conv => whnf); repeat (any_goals (first | ((refine (hix _).mono ?_; rintro _ _ ⟨rfl, rfl⟩); (conv => whnf)) | ((refine hyy.mono ?_; rintro v H2 (⟨rfl, hj2⟩ | ⟨rfl, hx2⟩) <;> (conv => whnf)); (conv => whnf)) | (refine Vc.stp ?_; intros; (conv => whnf)) | (refine Vc.spl ?_ ?_ <;> (intro _; (conv => whnf))))))
    · exact .inl ⟨r, by rw [hsp, hsr]; exact hj2⟩
    · exact .inr ⟨pre ++ [r], by simp, by rw [hsp, hsr]; exact List.prefix_refl _, hx2⟩
end Go.Proofs.YtjcmcmogbkdjcaaDoor
/- Paths, the code: a path's parts walked over, one by one. -/
namespace Go.Vc
theorem SemH.mkFunc {P : Program} {H : Heap} {fn : Fn} {first captured : Array Value} {K : Value → Heap → Prop} (hk : K (.func fn first captured) H) : SemH P (Instr.makeFunc fn first captured) H K :=
  ⟨fun w hw => ⟨_, w, rfl, Same.refl w, hw ▸ hk⟩⟩
theorem Own.low {H : Heap} {base : Nat} {e : TypeId} {size : Nat} {a : Option Addr} {n cap : Nat} {xs : List Value} (h : Own H base e size a n cap xs) {b : Nat} (hb : b < base) : ¬ ∃ p, a = some p ∧ p.block = b := fun ⟨p, hp, e⟩ => by have := (h.block p hp).1; omega
/-- one element more, of one cell: the base by its number -/
theorem NextH.push1b {P : Program} {H : Heap} {base : Nat} {t u e ty : TypeId} {i : TypeInfo} {z v : Value} {a : Option Addr} {n cap g : Nat} {xs : List Value} {cb : Array Bool} {K : Value → Heap → Prop}
    (hlit : Blk H g #[v] e) (hown : Own H base e 1 a n cap xs) (hx : base ≤ H.size) (hn : n ≤ 4000000000000) (ht : P.underlying t = some (.slice e)) (hu : ∃ d, P.underlying u = some d ∧ (∀ k, d ≠ .int k)) (hi : P.info? e = some i) (hz : i.zero = some z) (hzs : z.cells.size = i.size) (h1 : i.size = 1)
    (hby : Nat.ble i.bytes 16 = true) (h0 : Nat.ble 1 i.bytes = true) (hp : plainV v = true)
    (hk : ∀ a' cap' H', Own H' base e 1 a' (n + 1) cap' (xs ++ [v]) → H.size ≤ H'.size → Wr a H H' → K (.slice a' (n + 1) cap') H') :
    NextH P (builtin .append #[t, u] ty cb #[.slice a n cap, .slice (some ⟨g, 0, none⟩) 1 1]) H K := by
  have hby := Nat.le_of_ble_eq_true hby
  have h0 := Nat.le_of_ble_eq_true h0
  have hown : Own H base e i.size a n cap xs := by rw [h1]; exact hown
  have hk : ∀ a' cap' H', Own H' base e i.size a' (n + 1) cap' (xs ++ [v]) → H.size ≤ H'.size → Wr a H H' → K (.slice a' (n + 1) cap') H' := fun a' c' H' h => hk a' c' H' (by rw [h1] at h; exact h)
  refine NextH.append (m := 1) (news := [v]) ht hu hi hz hzs hown (Src.row (Blk.row (c := [v]) hlit) (by rw [h1]; rfl) (by simpa using hp)) (by unfold maxLen; omega) ?_ hx fun a' cap' H' h1 h2 _ => hk a' cap' H' h1 h2.size h2
  calc (n + 1) * i.bytes ≤ (n + 1) * 16 := Nat.mul_le_mul_left _ hby
    _ ≤ _ := by omega
end Go.Vc
namespace Go.Proofs.YtjcmcmogbkdjcaaDoor
open Go Go.Vc Go.Scr Go.Pth
theorem SplitSeq_any (s : Bs) (H : Heap) : CallH Tryd.prog 62 [.string (mkS s), .string (mkS [47])] H fun v H' => v = .func (.func 82) #[] #[.pointer (some ⟨H.size + 1, 0, none⟩), .pointer (some ⟨H.size, 0, none⟩), .pointer (some ⟨H.size + 2, 0, none⟩)] ∧
    Blk H' H.size #[.string (mkS s)] 9 ∧ Blk H' (H.size + 1) #[.string (mkS [47])] 9 ∧ Blk H' (H.size + 2) #[.int .i64 0] 3 ∧ H'.size = H.size + 3 ∧ Ext H H' := by
  have c : ∀ H, CallH Tryd.prog 75 [.string (mkS s), .string (mkS [47]), .int .i64 0] H fun v H' => v = .func (.func 82) #[] #[.pointer (some ⟨H.size + 1, 0, none⟩), .pointer (some ⟨H.size, 0, none⟩), .pointer (some ⟨H.size + 2, 0, none⟩)] ∧
      Blk H' H.size #[.string (mkS s)] 9 ∧ Blk H' (H.size + 1) #[.string (mkS [47])] 9 ∧ Blk H' (H.size + 2) #[.int .i64 0] 3 ∧ H'.size = H.size + 3 ∧ Ext H H' := by
    intro H
    refine Vc.CallH.body Tryd.func75 Tryd.call75 rfl (by decide +kernel) rfl ?_
    ((conv => whnf); repeat (any_goals (first | ((refine SemH.mkFunc ?_); (conv => whnf)) | (refine Vc.stp ?_; intros; (conv => whnf)) | (refine Vc.spl ?_ ?_ <;> (intro _; (conv => whnf))))))
    rename_i H1 z1 b1 x1 H2 z2 b2 x2 H3 z3 b3 x3
    have e1 : H1.size = H.size + 1 := z1
    have e2 : H2.size = H.size + 2 := by omega
    refine ⟨by rw [e1, e2]; rfl, (b1.ext x2).ext x3, by rw [← e1]; exact b2.ext x3, by rw [← e2]; exact b3, by omega, by (repeat (first | assumption | exact Vc.Ext.refl _ | ((with_reducible apply Vc.Ext.trans); (case k => assumption)) | ((with_reducible apply Vc.Ext.but); (case k => assumption); (case hb => omega))))⟩
  refine Vc.CallH.body Tryd.func62 Tryd.call62 rfl (by decide +kernel) rfl ?_
  ((conv => whnf); repeat (any_goals (first | ((refine (c _).mono ?_; rintro _ _ ⟨rfl, h⟩); (conv => whnf)) | (refine Vc.stp ?_; intros; (conv => whnf)) | (refine Vc.spl ?_ ?_ <;> (intro _; (conv => whnf))))))
  exact ⟨rfl, h⟩
/-- what a walk over parts holds between two of them -/
structure WK (base : Nat) (H : Heap) (b2 b4 b5 b6 bs D : Nat) (l : List Bs) (a : Option Addr) (cap : Nat) (rst : Bs) : Prop where
  own : Own H base 9 1 a l.length cap (strs l)
  k2 : Blk H b2 #[.slice a l.length cap] 86
  k4 : Blk H b4 #[.slice none 0 0] 86
  k5 : Blk H b5 #[.int .i64 0] 27
  k6 : Blk H b6 #[.int .i64 0] 3
  ks : Blk H bs #[.string (mkS rst)] 9
  kp : Blk H (bs + 1) #[.string (mkS [47])] 9
  kn : Blk H (bs + 2) #[.int .i64 0] 3
  de : DefO H D
  sz : base ≤ H.size
theorem WK.but {base : Nat} {H H' : Heap} {b2 b4 b5 b6 bs D g : Nat} {l : List Bs} {a : Option Addr} {cap : Nat} {rst : Bs} (h : WK base H b2 b4 b5 b6 bs D l a cap rst) (k : But g H H') (hg : g < base) (hne : g ≠ b2 ∧ g ≠ b4 ∧ g ≠ b5 ∧ g ≠ b6 ∧ g ≠ bs ∧ g ≠ bs + 1 ∧ g ≠ bs + 2 ∧ g ≠ D) : WK base H' b2 b4 b5 b6 bs D l a cap rst := by
  obtain ⟨n2, n4, n5, n6, ns, np, nn, nd⟩ := hne
  exact ⟨h.own.keep k fun p hp e => by have := (h.own.block p hp).1; omega, h.k2.but k (Ne.symm n2), h.k4.but k (Ne.symm n4), h.k5.but k (Ne.symm n5), h.k6.but k (Ne.symm n6), h.ks.but k (Ne.symm ns), h.kp.but k (Ne.symm np), h.kn.but k (Ne.symm nn), h.de.keep k (Ne.symm nd), Nat.le_trans h.sz k.size⟩
def WalkV (H' : Heap) (base : Nat) (v : Value) (r : List Bs × Nat) : Prop :=
  (r.2 = 0 ∧ ∃ a cap, v = .tuple #[.slice a r.1.length cap, .int .i64 0] ∧ Own H' base 9 1 a r.1.length cap (strs r.1)) ∨ (r.2 ≠ 0 ∧ v = .tuple #[.slice none 0 0, .int .i64 r.2])
theorem walk0_any (s : Bs) (hl : s.length ≤ 1000000) (hh : s.head? ≠ some 47) (H : Heap) : CallH Tryd.prog 47 [.slice none 0 0, .string (mkS s)] H fun v H' => WalkV H' H.size v (walkF 0 [] (splitF 47 s)) ∧ Ext H H' := by
  have hpre : ∀ H, CallH Tryd.prog 12 [.string (mkS s), .string (mkS [47])] H fun v H' => v = .bool false ∧ H = H' := fun H => (pre_any s [47] (by omega) (by decide) H).mono fun v H' ⟨h1, h2⟩ => ⟨by
    rw [h1]; congr 1
    cases s with
    | nil => rfl
    | cons c t => have : c ≠ 47 := fun e => hh (by rw [e]; rfl)
                  simp [List.isPrefixOf, this.symm], h2⟩
  refine Vc.CallH.bodyR Tryd.func47 Tryd.call47 rfl (by decide +kernel) (by decide +kernel) rfl ?_
  ((conv => whnf); repeat (any_goals (first | ((refine (hpre _).mono ?_; rintro _ _ ⟨rfl, rfl⟩); (conv => whnf)) | ((refine (SplitSeq_any s _).mono ?_; rintro _ H5 ⟨rfl, ks, kp, kn, hz5, hx5⟩); (conv => whnf)) | (refine Vc.stp ?_; intros; (conv => whnf)) | (refine Vc.spl ?_ ?_ <;> (intro _; (conv => whnf))))))
  rename_i H1 z1 b1 x1 H2 z2 b2 x2 H3 z3 b3 x3 Ha za ba xa Hb zb bb xb
  refine ⟨⟨82, _, rfl, Tryd.call82, ?_⟩⟩
  intro r H6 hrt hag hps hra hrb hz6 hx6 hde hlo
  have q1 : H1.size = H.size + 1 := z1
  have q2 : H2.size = H.size + 2 := by omega
  have q3 : H3.size = H.size + 3 := by omega
  have qb : Hb.size = H.size + 4 := by omega
  have q6 : H6.size = H.size + 9 := by omega
  have xH6 : Ext H H6 := by
    have : Ext H Hb := (((x1.trans x2).trans x3).trans xa).but xb (by omega)
    exact (this.trans hx5).trans hx6
  have hwk0 : WK H6.size H6 H.size H1.size H2.size H3.size Hb.size H5.size [] none 0 s := by
    have y5 : Ext Hb H6 := hx5.trans hx6
    exact ⟨Vc.Own.nil _ _ _ _, (((((b1.ext x2).ext x3).ext xa).but xb (by omega)).ext y5), ((((b2.ext x3).ext xa).but xb (by omega)).ext y5), (((b3.ext xa).but xb (by omega)).ext y5), bb.ext y5, ks.ext hx6, kp.ext hx6, kn.ext hx6, hde, Nat.le_refl _⟩
  let J : List Bs → Bs → Heap → Prop := fun pre rst Hx => ∃ (l : List Bs) (a : Option Addr) (cap : Nat), (∀ t, splitF 47 s = pre ++ t → walkF 0 [] (splitF 47 s) = walkF 0 l t) ∧ l.length ≤ pre.length ∧ WK H6.size Hx H.size H1.size H2.size H3.size Hb.size H5.size l a cap rst ∧ LoopO Hx (H5.size + 1) .ready none r ∧ Ext H Hx
  let Jx : List Bs → Heap → Prop := fun _ Hx => ∃ e : Nat, e ≠ 0 ∧ walkF 0 [] (splitF 47 s) = ([], e) ∧ Blk Hx H1.size #[.slice none 0 0] 86 ∧ Blk Hx H2.size #[.int .i64 e] 27 ∧ LoopO Hx (H5.size + 1) .done (some .ret) r ∧ DefO Hx H5.size ∧ Ext H Hx
  refine (seq1_any (H5.size + 1) s (Hb.size + 1) Hb.size (Hb.size + 2) J Jx H6 (by omega) ?_ ?_ ?_ ?_).mono ?_
  · rintro pre rst Hx ⟨l, a, cap, _, _, k, _⟩
    exact ⟨k.kp, k.ks, k.kn⟩
  · rintro pre rst rst' Hx Hx' ⟨l, a, cap, hw, hll, k, hl1, hxx⟩ hb hk
    exact ⟨l, a, cap, hw, hll, ⟨k.own.keep hb fun p hp e => by have := (k.own.block p hp).1; omega, k.k2.but hb (by omega), k.k4.but hb (by omega), k.k5.but hb (by omega), k.k6.but hb (by omega), hk, k.kp.but hb (by omega), k.kn.but hb (by omega), k.de.keep hb (by omega), Nat.le_trans k.sz hb.size⟩, hl1.keep hb (by omega), hxx.but hb (by omega)⟩
  · rintro pre x rst Hr ⟨l, a, cap, hw, hll, k, hl1, hxr⟩ ⟨t, ht⟩
    refine YieldH.round hl1 hrt hag hps hra hrb (by decide) (by decide +kernel) (by decide +kernel) (by decide +kernel) (by decide +kernel) ?_
    ((conv => whnf); repeat (any_goals (first | (refine Vc.stp ?_; intros; (conv => whnf)) | (refine Vc.spl ?_ ?_ <;> (intro _; (conv => whnf))))))
    refine ⟨rfl, hl1, fun Hy hzy hly hxy => ?_⟩
    have ky := k.but hxy (by omega) (by omega)
    have hxy' : Ext H Hy := hxr.but hxy (by omega)
    have hzr := k.sz
    have hxl : x.length ≤ s.length := by
      have := glen_split s
      rw [ht, glen_append, show glen (x :: t) = x.length + 1 + glen t by simp [glen]] at this; omega
    have hpl : pre.length ≤ s.length := by
      have := glen_split s
      have h1 : ∀ m : List Bs, m.length ≤ glen m := fun m => by
        induction m with
        | nil => exact Nat.zero_le _
        | cons y m ih => rw [show glen (y :: m) = y.length + 1 + glen m by simp [glen], List.length_cons]; omega
      have := h1 pre
      rw [ht, glen_append, show glen (x :: t) = x.length + 1 + glen t by simp [glen]] at *; omega
    have hnor : ∀ Hz l' a' cap', (∀ t', walkF 0 l (x :: t') = walkF 0 l' t') → l'.length ≤ pre.length + 1 → WK H6.size Hz H.size H1.size H2.size H3.size Hb.size H5.size l' a' cap' rst → LoopO Hz (H5.size + 1) .busy none r → Ext H Hz →
        (LoopO Hz (H5.size + 1) .busy none r ∧ ∀ H4, H4.size = Hz.size → LoopO H4 (H5.size + 1) .ready none r → But (H5.size + 1) Hz H4 → (Value.bool true = .bool true ∧ J (pre ++ [x]) rst H4) ∨ (Value.bool true = .bool false ∧ Jx (pre ++ [x]) H4)) :=
      fun Hz l' a' cap' g1 g2 g3 g4 g5 => ⟨g4, fun H4 f1 f2 f3 => .inl ⟨rfl, l', a', cap', fun t' e => by rw [hw (x :: t') (by rw [e]; simp), g1], by simpa using g2, g3.but f3 (by omega) (by omega), f2, g5.but f3 (by omega)⟩⟩
    have hret : ∀ Hz (e : Nat), e ≠ 0 → walkF 0 l (x :: t) = ([], e) → Blk Hz H1.size #[.slice none 0 0] 86 → Blk Hz H2.size #[.int .i64 e] 27 → LoopO Hz (H5.size + 1) .busy none r → DefO Hz H5.size → Ext H Hz →
        (LoopO Hz (H5.size + 1) .busy none r ∧ ∀ H4, H4.size = Hz.size → LoopO H4 (H5.size + 1) .done (some .ret) r → But (H5.size + 1) Hz H4 → (Value.bool false = .bool true ∧ J (pre ++ [x]) rst H4) ∨ (Value.bool false = .bool false ∧ Jx (pre ++ [x]) H4)) :=
      fun Hz e g0 g1 g2 g3 g4 g5 g6 => ⟨g4, fun H4 f1 f2 f3 => .inr ⟨rfl, e, g0, by rw [hw (x :: t) ht, g1], g2.but f3 (by omega), g3.but f3 (by omega), f2, g5.keep f3 (by omega), g6.but f3 (by omega)⟩⟩
    have k2 := ky.k2
    have k4 := ky.k4
    have k5 := ky.k5
    have k6 := ky.k6
    have hzy2 := ky.sz
    have q0 : ((mkS x).toList == (⟨#[]⟩ : ByteArray).toList) = decide (x = []) := by rw [show (⟨#[]⟩ : ByteArray) = mkS [] from rfl, str_beq]; simp [mkS_inj]
    have q1' : ((mkS x).toList == (⟨#[46]⟩ : ByteArray).toList) = decide (x = [46]) := by rw [show (⟨#[46]⟩ : ByteArray) = mkS [46] from rfl, str_beq]; simp [mkS_inj]
    have q2' : ((mkS x).toList == (⟨#[46, 46]⟩ : ByteArray).toList) = decide (x = [46, 46]) := by rw [show (⟨#[46, 46]⟩ : ByteArray) = mkS [46, 46] from rfl, str_beq]; simp [mkS_inj]
    by_cases h0 : x = [] ∨ x = [46]
    · have hst : ∀ t', walkF 0 l (x :: t') = walkF 0 l t' := fun t' => by rw [walkF, if_pos h0]
      by_cases h00 : x = []
      · rw [decide_eq_true h00] at q0
        ((conv => whnf); repeat (any_goals (first | (refine Vc.stp ?_; intros; (conv => whnf)) | (refine Vc.spl ?_ ?_ <;> (intro _; (conv => whnf))))))
        exact hnor Hy l a cap hst (by omega) ky hly hxy'
      · rw [decide_eq_false h00] at q0
        rw [decide_eq_true (h0.resolve_left h00)] at q1'
        ((conv => whnf); repeat (any_goals (first | (refine Vc.stp ?_; intros; (conv => whnf)) | (refine Vc.spl ?_ ?_ <;> (intro _; (conv => whnf))))))
        exact hnor Hy l a cap hst (by omega) ky hly hxy'
    rw [not_or] at h0
    rw [decide_eq_false h0.1] at q0
    rw [decide_eq_false h0.2] at q1'
    have hst0 : ∀ t', walkF 0 l (x :: t') = if x = [46, 46] then (if l.length ≤ 0 then ([], 51) else walkF 0 l.dropLast t') else if badP x = true then ([], 50) else walkF 0 (l ++ [x]) t' := fun t' => by rw [walkF, if_neg (fun h => h.elim h0.1 h0.2)]
    by_cases h2 : x = [46, 46]
    · rw [decide_eq_true h2] at q2'
      by_cases hl0 : l.length = 0
      · ((conv => whnf); repeat (any_goals (first | (refine Vc.stp ?_; intros; (conv => whnf)) | (refine Vc.spl ?_ ?_ <;> (intro _; (conv => whnf))))))
        rename_i Hc zc bc xc Hd zd bd xd
        exact hret Hd 51 (by omega) (by rw [hst0, if_pos h2, if_pos (by omega)]) (bc.but xd (by omega)) bd ((hly.keep xc (by omega)).keep xd (by omega)) ((ky.de.keep xc (by omega)).keep xd (by omega)) ((hxy'.but xc (by omega)).but xd (by omega))
      · ((conv => whnf); repeat (any_goals (first | ((refine BndH.nat (l.length - 1) (by omega) (by have := ky.own.cap_le; omega) ?_); (conv => whnf)) | (refine Vc.stp ?_; intros; (conv => whnf)) | (refine Vc.spl ?_ ?_ <;> (intro _; (conv => whnf))))))
        rename_i Hd zd bd xd
        have hdl : l.dropLast.length = l.length - 1 := List.length_dropLast
        have hcut := ky.own.cut (l.length - 1) (by omega)
        have ecut : (strs l).take ((l.length - 1) * 1) = strs l.dropLast := by rw [Nat.mul_one, List.dropLast_eq_take]; simp [strs, List.map_take]
        rw [ecut, ← hdl] at hcut
        rw [← hdl] at bd
        exact hnor Hd l.dropLast a cap (fun t' => by rw [hst0, if_pos h2, if_neg (by omega)]) (by omega)
          ⟨hcut.keep xd (fun p hp e => by have := (ky.own.block p hp).1; omega), bd, k4.but xd (by omega), k5.but xd (by omega), k6.but xd (by omega), ky.ks.but xd (by omega), ky.kp.but xd (by omega), ky.kn.but xd (by omega), ky.de.keep xd (by omega), by omega⟩
          (hly.keep xd (by omega)) (hxy'.but xd (by omega))
    rw [decide_eq_false h2] at q2'
    have hpt := fun H => part_any x (by omega) H
    by_cases hb : badP x = true
    · rw [if_pos hb] at hpt
      ((conv => whnf); repeat (any_goals (first | ((refine (hpt _).mono ?_; rintro _ _ ⟨rfl, rfl⟩); (conv => whnf)) | (refine Vc.stp ?_; intros; (conv => whnf)) | (refine Vc.spl ?_ ?_ <;> (intro _; (conv => whnf))))))
      rename_i Hc zc bc xc Hd zd bd xd
      exact hret Hd 50 (by omega) (by rw [hst0, if_neg h2, if_pos hb]) (bc.but xd (by omega)) bd ((hly.keep xc (by omega)).keep xd (by omega)) ((ky.de.keep xc (by omega)).keep xd (by omega)) ((hxy'.but xc (by omega)).but xd (by omega))
    · rw [if_neg hb] at hpt
      ((conv => whnf); repeat (any_goals (first | ((refine (hpt _).mono ?_; rintro _ _ ⟨rfl, rfl⟩); (conv => whnf)) | ((refine NextH.push1b (by assumption) (ky.own.ext (by assumption)) (by omega) (by omega) rfl ⟨_, rfl, fun _ h => by cases h⟩ rfl rfl rfl rfl rfl rfl rfl ?_; intro a5 c5 H9 ho9 hz9 hw9; have kk2 := (k2.ext (by assumption)).keep hw9 (ky.own.low (by omega))); (conv => whnf)) | (refine Vc.stp ?_; intros; (conv => whnf)) | (refine Vc.spl ?_ ?_ <;> (intro _; (conv => whnf))))))
      rename_i Hc zc bc xc Hd zd bd xd
      have lo9 : ∀ b, b < H6.size → ¬ ∃ p, a = some p ∧ p.block = b := fun b hb => ky.own.low hb
      have hln : (l ++ [x]).length = l.length + 1 := by simp
      have ho10 := own_snocS rfl ho9
      rw [← hln] at bd
      exact hnor Hd (l ++ [x]) a5 c5 (fun t' => by rw [hst0, if_neg h2, if_neg hb]) (by omega)
        ⟨ho10.keep xd (fun p hp e => by have := (ho9.block p hp).1; omega), bd, ((k4.ext xc).keep hw9 (lo9 _ (by omega))).but xd (by omega), ((k5.ext xc).keep hw9 (lo9 _ (by omega))).but xd (by omega), ((k6.ext xc).keep hw9 (lo9 _ (by omega))).but xd (by omega),
          ((ky.ks.ext xc).keep hw9 (lo9 _ (by omega))).but xd (by omega), ((ky.kp.ext xc).keep hw9 (lo9 _ (by omega))).but xd (by omega), ((ky.kn.ext xc).keep hw9 (lo9 _ (by omega))).but xd (by omega), ((ky.de.ext xc).keep hw9 (lo9 _ (by omega))).keep xd (by omega), by omega⟩
        (((hly.ext xc).keep hw9 (lo9 _ (by omega))).keep xd (by omega)) (((hxy'.trans xc).wr (ky.own.ext xc) (by omega) hw9).but xd (by omega))
  · exact ⟨[], none, 0, fun t ht => by rw [ht]; rfl, Nat.zero_le _, hwk0, hlo, xH6⟩
  · rintro v H7 (⟨rst, l, a, cap, hw, hll, k, hl1, hx7⟩ | ⟨pre, hpn, hpp, e, he, hw, k4, k5, hl1, hde7, hx7⟩)
    · refine ⟨.ready, none, by simp, hl1, fun H8 hz8 hx8 => ?_⟩
      have kz := k.sz
      have k8 := k.but hx8 (by omega) (by omega)
      have k2 := k8.k2
      have k4 := k8.k4
      have k5 := k8.k5
      have kd := k8.de
      have hw := hw [] (by simp)
      have hx8' : Ext H H8 := hx7.but hx8 (by omega)
      have hlb : l.length ≤ s.length + 1 := by
        have h1 : ∀ m : List Bs, m.length ≤ glen m := fun m => by
          induction m with
          | nil => exact Nat.zero_le _
          | cons y m ih => rw [show glen (y :: m) = y.length + 1 + glen m by simp [glen], List.length_cons]; omega
        have := h1 (splitF 47 s)
        rw [glen_split] at this; omega
      by_cases hdp : 12 < l.length
      · rw [walkF, if_pos hdp] at hw
        ((conv => whnf); repeat (any_goals (first | (refine Vc.stp ?_; intros; (conv => whnf)) | (refine Vc.spl ?_ ?_ <;> (intro _; (conv => whnf))))))
        rename_i Hc zc bc xc Hd zd bd xd
        refine ⟨(kd.keep xc (by omega)).keep xd (by omega), fun Hf hzf hxf => ?_⟩
        have f4 := (bc.but xd (by omega)).but hxf (by omega)
        have f5 := bd.but hxf (by omega)
        ((conv => whnf); repeat (any_goals (first | (refine Vc.stp ?_; intros; (conv => whnf)) | (refine Vc.spl ?_ ?_ <;> (intro _; (conv => whnf))))))
        exact ⟨.inr ⟨by rw [hw]; simp, by rw [hw]; rfl⟩, ((hx8'.but xc (by omega)).but xd (by omega)).but hxf (by omega)⟩
      · rw [walkF, if_neg hdp] at hw
        ((conv => whnf); repeat (any_goals (first | (refine Vc.stp ?_; intros; (conv => whnf)) | (refine Vc.spl ?_ ?_ <;> (intro _; (conv => whnf))))))
        rename_i Hc zc bc xc Hd zd bd xd
        refine ⟨(kd.keep xc (by omega)).keep xd (by omega), fun Hf hzf hxf => ?_⟩
        have f4 := (bc.but xd (by omega)).but hxf (by omega)
        have f5 := bd.but hxf (by omega)
        ((conv => whnf); repeat (any_goals (first | (refine Vc.stp ?_; intros; (conv => whnf)) | (refine Vc.spl ?_ ?_ <;> (intro _; (conv => whnf))))))
        exact ⟨.inl ⟨by rw [hw], a, cap, by rw [hw]; rfl, by rw [hw]; exact ((((k8.own.keep xc fun p hp e => by have := (k8.own.block p hp).1; omega).keep xd fun p hp e => by have := (k8.own.block p hp).1; omega).keep hxf fun p hp e => by have := (k8.own.block p hp).1; omega).base (by omega))⟩, ((hx8'.but xc (by omega)).but xd (by omega)).but hxf (by omega)⟩
    · refine ⟨.done, some .ret, by simp, hl1, fun H8 hz8 hx8 => ?_⟩
      have g4 := k4.but hx8 (by omega)
      have g5 := k5.but hx8 (by omega)
      ((conv => whnf); repeat (any_goals (first | (refine Vc.stp ?_; intros; (conv => whnf)) | (refine Vc.spl ?_ ?_ <;> (intro _; (conv => whnf))))))
      refine ⟨hde7.keep hx8 (by omega), fun Hf hzf hxf => ?_⟩
      have f4 := g4.but hxf (by omega)
      have f5 := g5.but hxf (by omega)
      ((conv => whnf); repeat (any_goals (first | (refine Vc.stp ?_; intros; (conv => whnf)) | (refine Vc.spl ?_ ?_ <;> (intro _; (conv => whnf))))))
      exact ⟨.inr ⟨by rw [hw]; exact he, by rw [hw]; rfl⟩, (hx7.but hx8 (by omega)).but hxf (by omega)⟩
end Go.Proofs.YtjcmcmogbkdjcaaDoor
/- Slices of a call's own whose whole block holds cells of one kind: an append keeps that. -/
namespace Go.Vc
variable {P : Program} {H H' : Heap}
theorem over_mem : ∀ (l : List Value) (c : Array Value) (o : Nat) (v : Value), v ∈ (over c o l).toList → v ∈ c.toList ∨ v ∈ l
  | [], c, o, v, h => .inl h
  | x :: l, c, o, v, h => by
    rcases over_mem l _ _ v h with h | h
    · rw [Array.toList_setIfInBounds] at h
      rcases List.mem_or_eq_of_mem_set h with h | h
      · exact .inl h
      · exact .inr (by simp [h])
    · exact .inr (by simp [h])
/-- all cells of the address's block are of one kind -/
structure AllQ (Q : Value → Prop) (H : Heap) (a : Option Addr) : Prop where out : ∀ p, a = some p → ∀ o v, hcell H ⟨p.block, o, none⟩ = some v → Q v
theorem AllQ.none (Q : Value → Prop) (H : Heap) : AllQ Q H none := ⟨fun p hp => by cases hp⟩
theorem AllQ.keep {Q : Value → Prop} {F : Nat → Prop} {a : Option Addr} (h : AllQ Q H a) (k : Only F H H') (ha : ∀ p, a = some p → p.block < H.size ∧ ¬ F p.block) : AllQ Q H' a := ⟨fun p hp o v hv => by
  refine h.out p hp o v ?_
  unfold hcell at hv ⊢
  rw [k.same _ (ha p hp).1 (ha p hp).2] at hv; exact hv⟩
theorem AllQ.ext {Q : Value → Prop} {base : Nat} {e : TypeId} {size : Nat} {a : Option Addr} {n cap : Nat} {xs : List Value} (h : AllQ Q H a) (ho : Own H base e size a n cap xs) (k : Ext H H') : AllQ Q H' a := h.keep k fun p hp => ⟨(ho.block p hp).2, id⟩
theorem hcell_cells {b o : Nat} {c : Array Value} {t : TypeId} {fr : Nat × Nat} {v : Value} (h : H[b]? = some (.cells c t fr)) (hv : hcell H ⟨b, o, none⟩ = some v) : v ∈ c.toList := by
  unfold hcell at hv
  rw [h] at hv
  have hv : c[o]? = some v := by simpa using hv
  rw [← Array.getElem?_toList] at hv
  exact List.mem_of_getElem? hv
theorem NextH.appendQ {Q : Value → Prop} {t u e ty : TypeId} {i : TypeInfo} {z : Value} {base : Nat} {a : Option Addr} {n cap : Nat} {xs : List Value} {x : Value} {m : Nat} {news : List Value} {cb : Array Bool} {K : Value → Heap → Prop}
    (ht : P.underlying t = some (.slice e)) (hu : ∃ d, P.underlying u = some d ∧ (∀ k, d ≠ .int k)) (hi : P.info? e = some i) (hz : i.zero = some z) (hzs : z.cells.size = i.size) (hown : Own H base e i.size a n cap xs) (hsrc : Src P H x i.size m news)
    (h63 : n + m ≤ maxLen) (hbytes : (n + m) * i.bytes ≤ 140737488355328) (hbase : base ≤ H.size) (hall : AllQ Q H a) (hxq : ∀ v ∈ xs, Q v) (hnq : ∀ v ∈ news, Q v) (hzq : ∀ v ∈ z.cells.toList, Q v)
    (hk : ∀ a' cap' H', Own H' base e i.size a' (n + m) cap' (xs ++ news) → Wr a H H' → (∀ p, a' = some p → a' = a ∨ H.size ≤ p.block) → AllQ Q H' a' → K (.slice a' (n + m) cap') H') :
    NextH P (builtin .append #[t, u] ty cb #[.slice a n cap, x]) H K := by
  refine ⟨fun w hw => ?_⟩
  obtain ⟨d, hu, hd⟩ := hu
  have hzero : (match d with | .int _ => true | _ => false) = false := by cases d <;> first | rfl | exact absurd rfl (hd _)
  have hsmall : n + m ≤ 9223372036854775807 := by have := h63; simp only [maxLen] at this; omega
  have hlen : (xs ++ news).length = (n + m) * i.size := by rw [List.length_append, hown.len, hsrc.len, Nat.add_mul]
  have goal : ∀ {v w'}, (Builtin.append_ #[t, u] ty #[.slice a n cap, x]).run P w = .ok v w' → Same w w' → K v w'.heap → Nexts P w K ((builtin .append #[t, u] ty cb #[.slice a n cap, x]).run P w) := by
    intro v w' hr hs hk
    simp only [builtin, Sem.run_bind, hr, Result.andThen_ok]
    exact ⟨hs, hk⟩
  by_cases hroom : n + m ≤ cap
  · rcases hown.out with ⟨ha, hn, hc⟩ | ⟨g, cur, ha, hb, hg, hnc, hmc, hcs, htake⟩
    · have hm : m = 0 := by omega
      subst ha hn hc hm
      have hnews : news = [] := List.eq_nil_of_length_eq_zero (by rw [hsrc.len]; simp)
      have hx : xs = [] := List.eq_nil_of_length_eq_zero (by rw [hown.len]; simp)
      subst hnews hx
      refine goal (v := .slice none 0 0) (w' := w) ?_ (Same.refl w) ?_
      · simp [Builtin.append_, underlying_of ht, underlying_of hu, sizeOf_of hi, hzero, hsrc.lenOf, hsrc.first w hw]
      · rw [hw]; exact hk none 0 H (Own.nil _ _ _ _) (Only.refl _ _) (fun p hp => by cases hp) (AllQ.none _ _)
    · subst ha
      obtain ⟨fr, hg1, hg2⟩ := hg.out
      have hfit : n * i.size + news.length ≤ cur.size := by rw [hsrc.len, hcs, ← Nat.add_mul]; exact Nat.mul_le_mul_right _ hroom
      obtain ⟨w', hr, hs, _, hw'⟩ := run_storeCells (P := P) g e fr news (n * i.size) 0 w cur (by rw [hw]; exact hg1) hg2 hsrc.plain (by omega)
      refine goal (v := .slice (some ⟨g, 0, none⟩) (n + m) cap) (w' := w') ?_ hs ?_
      · simp [Builtin.append_, underlying_of ht, underlying_of hu, sizeOf_of hi, hzero, hsrc.lenOf, hroom, hsrc.first w hw, addk, hr]
      · rw [hw', hw]
        have hg' : Blk (H.setIfInBounds g (.cells (over cur (n * i.size + 0) news) e fr)) g (over cur (n * i.size) news) e :=
          ⟨fr, by rw [Array.getElem?_setIfInBounds_self_of_lt hg.lt]; rfl, by rw [over_size]; exact hg2⟩
        refine hk _ _ _ ⟨hlen, .inr ⟨g, _, rfl, hb, hg', hroom, hmc, by rw [over_size]; exact hcs, ?_⟩⟩ (Wr.of_but (Only.set _ _ _)) (fun p hp => .inl rfl) ⟨fun p hp o v hv => ?_⟩
        · apply List.ext_getElem?
          intro j
          rw [List.getElem?_take, Array.getElem?_toList]
          rw [over_get _ _ _ _ hfit, ← htake]
          have hlx : (cur.toList.take (n * i.size)).length = n * i.size := by rw [htake]; exact hown.len
          have hnm : (n + m) * i.size = n * i.size + news.length := by rw [hsrc.len, Nat.add_mul]
          rw [hnm]
          by_cases hj : j < n * i.size
          · rw [if_pos (by omega), if_neg (by omega), List.getElem?_append_left (by omega), List.getElem?_take, if_pos hj, Array.getElem?_toList]
          · by_cases hj2 : j < n * i.size + news.length
            · rw [if_pos hj2, if_pos (by omega), List.getElem?_append_right (by omega), hlx]
            · rw [if_neg hj2, List.getElem?_append_right (by omega), hlx, List.getElem?_eq_none (by omega)]
        · cases hp
          obtain ⟨fr2, hb2, _⟩ := hg'.out
          rcases over_mem _ _ _ _ (hcell_cells hb2 hv) with h | h
          · obtain ⟨o', ho'⟩ := List.mem_iff_getElem?.1 h
            exact hall.out _ rfl o' v (by rw [hg.cell]; simpa using ho')
          · exact hnq v h
  · have hgrow : cap < n + m := by omega
    have h63' : ¬ (9223372036854775807 < ((n : Int) + (m : Int))) := by omega
    have hfit := growslice_fits hgrow hbytes
    have h48 : ¬ (281474976710656 < Builtin.nextslicecap (n + m) cap * i.bytes) := by omega
    have hold : ∀ w' : World, w'.heap = H → (Builtin.firstCells i.size n (.slice a n cap)).run P w' = .ok xs.toArray w' := fun w' hw' => run_firstRow hown.row hown.len w' hw'
    have hge : n + m ≤ grownCap w (n + m) cap e := grownCap_ge w (n + m) cap e
    have hcm : grownCap w (n + m) cap e ≤ maxLen := grownCap_le_maxLen w (n + m) cap e h63
    refine goal (v := .slice (some ⟨w.heap.size, 0, none⟩) (n + m) (grownCap w (n + m) cap e))
      (w' := w.drew.alloc (.cells (xs.toArray ++ news.toArray ++ Builtin.zeroCells z.cells (grownCap w (n + m) cap e - (n + m))) e)) ?_ ⟨rfl, rfl, rfl⟩ ?_
    · have e1 := hold w.drew hw
      have e2 := hsrc.first w.drew hw
      simp [Builtin.append_, underlying_of ht, underlying_of hu, sizeOf_of hi, typeInfo_of hi, hzero, hsrc.lenOf, hroom, h63', h48, Question.forced, e1, e2, zeroValue, hz, newRow, grownCap]
      congr 2
      apply Array.ext'
      simp [List.append_assoc]
    · subst hw
      refine hk _ _ _ ⟨hlen, .inr ⟨w.heap.size, _, rfl, hbase, Blk.new (push_last _ _), hge, hcm, ?_, ?_⟩⟩ (Only.push _ _ _) (fun p hp => .inr (by cases hp; exact Nat.le_refl _)) ⟨fun p hp o v hv => ?_⟩
      · simp only [Array.size_append, List.size_toArray, size_zeroCells, hzs, hown.len, hsrc.len, ← Nat.add_mul]
        congr 1
        omega
      · simp only [Array.toList_append, List.append_assoc]
        rw [← List.append_assoc, ← hlen]
        exact List.take_left
      · cases hp
        have := hcell_cells (c := xs.toArray ++ news.toArray ++ Builtin.zeroCells z.cells (grownCap w (n + m) cap e - (n + m))) (push_last _ _) hv
        simp only [Array.toList_append, List.mem_append] at this
        rcases this with (h | h) | h
        · exact hxq v h
        · exact hnq v h
        · refine hzq v ?_
          unfold Builtin.zeroCells at h
          simp only [Array.toList_map, Array.toList_range, List.mem_map, List.mem_range] at h
          obtain ⟨j, hj, rfl⟩ := h
          have hpos : 0 < z.cells.size := by
            rcases Nat.eq_zero_or_pos z.cells.size with h0 | h0
            · rw [h0] at hj; simp at hj
            · exact h0
          have hlt := Nat.mod_lt j hpos
          rw [getElem!_pos z.cells (j % z.cells.size) hlt]
          exact Array.getElem_mem_toList hlt
theorem NextH.push1q {Q : Value → Prop} {base : Nat} {t u e ty : TypeId} {i : TypeInfo} {z v : Value} {a : Option Addr} {n cap g : Nat} {xs : List Value} {cb : Array Bool} {K : Value → Heap → Prop}
    (hlit : Blk H g #[v] e) (hown : Own H base e 1 a n cap xs) (hx : base ≤ H.size) (hn : n ≤ 4000000000000) (hall : AllQ Q H a) (hxq : ∀ v ∈ xs, Q v) (hvq : Q v) (ht : P.underlying t = some (.slice e)) (hu : ∃ d, P.underlying u = some d ∧ (∀ k, d ≠ .int k)) (hi : P.info? e = some i) (hz : i.zero = some z) (hzs : z.cells.size = i.size) (h1 : i.size = 1)
    (hby : Nat.ble i.bytes 16 = true) (h0 : Nat.ble 1 i.bytes = true) (hp : plainV v = true) (hzq : ∀ v ∈ z.cells.toList, Q v)
    (hk : ∀ a' cap' H', Own H' base e 1 a' (n + 1) cap' (xs ++ [v]) → H.size ≤ H'.size → Wr a H H' → AllQ Q H' a' → K (.slice a' (n + 1) cap') H') :
    NextH P (builtin .append #[t, u] ty cb #[.slice a n cap, .slice (some ⟨g, 0, none⟩) 1 1]) H K := by
  have hby := Nat.le_of_ble_eq_true hby
  have h0 := Nat.le_of_ble_eq_true h0
  have hown : Own H base e i.size a n cap xs := by rw [h1]; exact hown
  have hk : ∀ a' cap' H', Own H' base e i.size a' (n + 1) cap' (xs ++ [v]) → H.size ≤ H'.size → Wr a H H' → AllQ Q H' a' → K (.slice a' (n + 1) cap') H' := fun a' c' H' h => hk a' c' H' (by rw [h1] at h; exact h)
  refine NextH.appendQ (m := 1) (news := [v]) ht hu hi hz hzs hown (Src.row (Blk.row (c := [v]) hlit) (by rw [h1]; rfl) (by simpa using hp)) (by unfold maxLen; omega) ?_ hx hall hxq (by simpa using hvq) hzq fun a' cap' H' h1 h2 _ hq => hk a' cap' H' h1 h2.size h2 hq
  calc (n + 1) * i.bytes ≤ (n + 1) * 16 := Nat.mul_le_mul_left _ hby
    _ ≤ _ := by omega
/-- a text -/
def isStr : Value → Prop | .string _ => True | _ => False
theorem strs_isStr {l : List Bs} : ∀ v ∈ strs l, isStr v := by
  intro v hv
  obtain ⟨x, _, rfl⟩ := List.mem_map.1 hv
  trivial
end Go.Vc
