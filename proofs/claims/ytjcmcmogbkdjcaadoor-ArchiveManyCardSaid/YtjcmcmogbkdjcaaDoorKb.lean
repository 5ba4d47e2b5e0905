import Derived.Test.YtjcmcmogbkdjcaaDoorKa
import Derived.Laws.AppendOwn
import Derived.Laws.OwnMore
import Derived.Laws.IdiomStrings
import Derived.Laws.BytesString
import Derived.Stop.BytesEq
import Derived.OpenShut
import Derived.Laws.Tables
import Derived.Laws.Strings
import Derived.Test.YtjcmcmogbkdjcaaDoorRows
import Derived.KernelRfl
set_option linter.unusedVariables false
set_option linter.unusedSimpArgs false
set_option maxRecDepth 100000
/- Heaps: what a step leaves alone; whole blocks; slices that are read; slices of the call's own; the rules of the operations on memory. -/
namespace Go.Vc
variable {P : Program} {H H' : Heap}

def hcell (H : Heap) (p : Addr) : Option Value :=
  match H[p.block]? with
  | some (.cells c _ _) => if p.spot.isSome then none else c[p.off]?
  | _ => none
theorem cell_heap (w : World) (p : Addr) : w.cell? p = hcell w.heap p := rfl

/-- from H to H' only blocks that meet F have been written; new ones may have come -/
structure Only (F : Nat → Prop) (H H' : Heap) : Prop where
  size : H.size ≤ H'.size
  same : ∀ b, b < H.size → ¬ F b → H'[b]? = H[b]?
abbrev Ext (H H' : Heap) : Prop := Only (fun _ => False) H H'
abbrev But (b : Nat) (H H' : Heap) : Prop := Only (fun x => x = b) H H'

theorem Only.refl (F : Nat → Prop) (H : Heap) : Only F H H := ⟨Nat.le_refl _, fun _ _ _ => rfl⟩
theorem Ext.refl (H : Heap) : Ext H H := Only.refl _ H
theorem Only.trans {F G : Nat → Prop} {A B C : Heap} (h : Only F A B) (k : Only G B C) (hG : ∀ b, b < A.size → G b → F b) : Only F A C :=
  ⟨Nat.le_trans h.size k.size, fun b hb hF => (k.same b (Nat.lt_of_lt_of_le hb h.size) fun g => hF (hG b hb g)).trans (h.same b hb hF)⟩
theorem Ext.trans {A B C : Heap} (h : Ext A B) (k : Ext B C) : Ext A C := Only.trans h k fun _ _ => id
theorem Only.ext {F : Nat → Prop} {A B C : Heap} (h : Only F A B) (k : Ext B C) : Only F A C := Only.trans h k fun _ _ h => h.elim
theorem Ext.but {A B C : Heap} {b : Nat} (h : Ext A B) (k : But b B C) (hb : A.size ≤ b) : Ext A C := Only.trans h k fun x hx e => by subst e; omega
theorem Ext.only {F : Nat → Prop} (h : Ext H H') : Only F H H' := ⟨h.size, fun b hb _ => h.same b hb id⟩
theorem Only.push (F : Nat → Prop) (H : Heap) (o : Obj) : Only F H (H.push o) :=
  ⟨by simp, fun b hb _ => by rw [Array.getElem?_push, if_neg (by omega)]⟩
theorem Only.set (H : Heap) (b : Nat) (o : Obj) : But b H (H.setIfInBounds b o) :=
  ⟨by simp, fun x hx hne => Array.getElem?_setIfInBounds_ne (fun e => hne e.symm)⟩

/-- block b is these cells, nothing of it frozen -/
structure Blk (H : Heap) (b : Nat) (c : Array Value) (t : TypeId) : Prop where out : ∃ fr : Nat × Nat, H[b]? = some (.cells c t fr) ∧ (fr.2 ≤ fr.1 ∨ c.size ≤ fr.1)
theorem Blk.lt {b : Nat} {c : Array Value} {t : TypeId} (h : Blk H b c t) : b < H.size := let ⟨_, h, _⟩ := h.out; (Array.getElem?_eq_some_iff.1 h).1
theorem Blk.new {b : Nat} {c : Array Value} {t : TypeId} (h : H[b]? = some (.cells c t (0, 0))) : Blk H b c t := ⟨_, h, .inl (Nat.le_refl _)⟩
theorem Blk.keep {F : Nat → Prop} {b : Nat} {c : Array Value} {t : TypeId} (h : Blk H b c t) (k : Only F H H') (hb : ¬ F b) : Blk H' b c t := let ⟨fr, h1, h2⟩ := h.out; ⟨fr, (k.same b h.lt hb).trans h1, h2⟩
theorem Blk.ext {b : Nat} {c : Array Value} {t : TypeId} (h : Blk H b c t) (k : Ext H H') : Blk H' b c t := h.keep k id
theorem Blk.but {b g : Nat} {c : Array Value} {t : TypeId} (h : Blk H b c t) (k : But g H H') (hb : b ≠ g) : Blk H' b c t := h.keep k hb
theorem Blk.cell {b : Nat} {c : Array Value} {t : TypeId} (h : Blk H b c t) (i : Nat) : hcell H ⟨b, i, none⟩ = c[i]? := by obtain ⟨fr, h1, _⟩ := h.out; simp [hcell, h1]

theorem hcell_keep {F : Nat → Prop} {p : Addr} {v : Value} (h : hcell H p = some v) (k : Only F H H') (hb : ¬ F p.block) : hcell H' p = some v := by
  have hlt : p.block < H.size := by
    unfold hcell at h
    split at h
    · rename_i hh; exact (Array.getElem?_eq_some_iff.1 hh).1
    · cases h
  unfold hcell at h ⊢
  rw [k.same _ hlt hb]
  exact h
theorem hcell_lt {p : Addr} {v : Value} (h : hcell H p = some v) : p.block < H.size := by
  unfold hcell at h
  split at h
  · rename_i hh; exact (Array.getElem?_eq_some_iff.1 hh).1
  · cases h

/- ---------- loads ---------- -/
theorem SemH.load {t : TypeId} {p : Addr} {v : Value} {K : Value → Heap → Prop} (hT : aggB P t = some false) (hc : hcell H p = some v) (hk : K v H) : SemH P (Instr.loadAt t (.pointer (some p))) H K := by
  refine ⟨fun w hw => ⟨v, w, ?_, Same.refl w, hw ▸ hk⟩⟩
  have hc' : w.cell? p = some v := by rw [cell_heap, hw]; exact hc
  simp [Instr.loadAt, Instr.sureAddr, loadVar, isAgg_of hT, Go.load, Sem.run, hc']

theorem run_loadCellsFrom {w : World} {p : Addr} : ∀ (vs : List Value) (i : Nat) (acc : Array Value), (∀ j v, vs[j]? = some v → w.cell? (p.add (i + j)) = some v) →
    (loadCellsFrom p i vs.length acc).run P w = .ok (acc ++ vs.toArray) w
  | [], i, acc, _ => by simp [loadCellsFrom]
  | x :: vs, i, acc, h => by
    have h0 : w.cell? (p.add i) = some x := h 0 x rfl
    have ih := run_loadCellsFrom vs (i + 1) (acc.push x) fun j v hv => by have := h (j + 1) v (by simpa using hv); rwa [show i + (j + 1) = i + 1 + j by omega] at this
    simp only [List.length_cons, loadCellsFrom, Sem.run_bind]
    have : (Go.load (p.add i)).run P w = .ok x w := by simp [Go.load, Sem.run, h0]
    rw [this]
    simp only [Result.andThen_ok, ih]
    congr 1
    simp
theorem addk (b o k : Nat) : (⟨b, o, none⟩ : Addr).add k = ⟨b, o + k, none⟩ := by unfold Addr.add; split <;> simp_all

theorem SemH.load_agg {t : TypeId} {i : TypeInfo} {b o : Nat} {vs : List Value} {K : Value → Heap → Prop} (hT : aggB P t = some true) (hi : P.info? t = some i) (hn : i.size = vs.length)
    (hc : ∀ j v, vs[j]? = some v → hcell H ⟨b, o + j, none⟩ = some v) (hk : K (.agg vs.toArray) H) : SemH P (Instr.loadAt t (.pointer (some ⟨b, o, none⟩))) H K := by
  refine ⟨fun w hw => ⟨_, w, ?_, Same.refl w, hw ▸ hk⟩⟩
  have := run_loadCellsFrom (P := P) (w := w) (p := ⟨b, o, none⟩) vs 0 #[] fun j v hv => by
    rw [addk, Nat.zero_add, cell_heap, hw]; exact hc j v hv
  simp only [Instr.loadAt, Instr.sureAddr, Sem.run_bind, Sem.run_pure, Result.andThen_ok, loadVar, isAgg_of hT, if_true, sizeOf_of hi, loadCells, hn, this]
  simp
/-- a whole variable -/
theorem SemH.load_blk {t e : TypeId} {i : TypeInfo} {b : Nat} {c : Array Value} {K : Value → Heap → Prop} (hb : Blk H b c e) (hT : aggB P t = some true) (hi : P.info? t = some i) (hn : i.size = c.size)
    (hk : K (.agg c) H) : SemH P (Instr.loadAt t (.pointer (some ⟨b, 0, none⟩))) H K := by
  refine SemH.load_agg (vs := c.toList) hT hi (by simpa using hn) (fun j v hv => ?_) (by simpa using hk)
  rw [Nat.zero_add, hb.cell]; simpa using hv
theorem SemH.load_part {t e : TypeId} {i : TypeInfo} {b o : Nat} {c : Array Value} {K : Value → Heap → Prop} (hb : Blk H b c e) (hT : aggB P t = some true) (hi : P.info? t = some i) (hn : o + i.size ≤ c.size)
    (hk : K (.agg (c.extract o (o + i.size))) H) : SemH P (Instr.loadAt t (.pointer (some ⟨b, o, none⟩))) H K := by
  refine SemH.load_agg (vs := (c.extract o (o + i.size)).toList) hT hi (by rw [Array.length_toList, Array.size_extract]; omega) (fun j v hv => ?_) (by rw [Array.toArray_toList]; exact hk)
  rw [Array.getElem?_toList] at hv
  rw [hb.cell]
  rw [Array.getElem?_extract] at hv
  split at hv
  · exact hv
  · cases hv

/-- a part of a block that is known -/
theorem SemH.load_sub {t e : TypeId} {i : TypeInfo} {b o : Nat} {c cs : Array Value} {K : Value → Heap → Prop} (hb : Blk H b c e) (hT : aggB P t = some true) (hi : P.info? t = some i) (hn : i.size = cs.size) (hc : ∀ j v, cs[j]? = some v → c[o + j]? = some v)
    (hk : K (.agg cs) H) : SemH P (Instr.loadAt t (.pointer (some ⟨b, o, none⟩))) H K := by
  refine SemH.load_agg (vs := cs.toList) hT hi (by simpa using hn) (fun j v hv => ?_) (by simpa using hk)
  rw [hb.cell]
  exact hc j v (by simpa using hv)

/- ---------- stores ---------- -/
/-- cells written over others from i on -/
def over (c : Array Value) : Nat → List Value → Array Value
  | _, [] => c
  | i, v :: vs => over (c.setIfInBounds i v) (i + 1) vs
theorem over_size (vs : List Value) : ∀ (c : Array Value) (i : Nat), (over c i vs).size = c.size := by
  induction vs with
  | nil => intros; rfl
  | cons v vs ih => intro c i; simp [over, ih]
theorem over_get (vs : List Value) : ∀ (c : Array Value) (i k : Nat), i + vs.length ≤ c.size → (over c i vs)[k]? = if i ≤ k ∧ k < i + vs.length then vs[k - i]? else c[k]? := by
  induction vs with
  | nil => intro c i k _; rw [if_neg (by simp only [List.length_nil]; omega)]; rfl
  | cons v vs ih =>
    intro c i k h
    simp only [over, List.length_cons] at *
    rw [ih _ _ _ (by rw [Array.size_setIfInBounds]; omega)]
    by_cases hk : k = i
    · subst hk
      rw [if_neg (by omega), if_pos (by omega), Nat.sub_self, List.getElem?_cons_zero, Array.getElem?_setIfInBounds_self_of_lt (by omega)]
    · rw [Array.getElem?_setIfInBounds_ne (fun e => hk e.symm)]
      by_cases h1 : i + 1 ≤ k ∧ k < i + 1 + vs.length
      · rw [if_pos h1, if_pos (by omega), show k - i = (k - (i + 1)) + 1 by omega, List.getElem?_cons_succ]
      · rw [if_neg h1, if_neg (by omega)]
theorem over_all (c cs : Array Value) (h : c.size = cs.size) : over c 0 cs.toList = cs := by
  apply Array.ext_getElem?
  intro k
  rw [over_get _ _ _ _ (by simp; omega)]
  split
  · simp
  · rename_i hk
    have : cs.size ≤ k := by simp at hk; omega
    rw [Array.getElem?_eq_none (by omega), Array.getElem?_eq_none this]

def plainV : Value → Bool
  | .agg _ => false
  | .tuple _ => false
  | _ => true

theorem set_eq {w : World} {b : Nat} {c : Array Value} {t : TypeId} {fr : Nat × Nat} (h : w.heap[b]? = some (.cells c t fr)) (i : Nat) (v : Value) :
    (w.setCell ⟨b, i, none⟩ v).heap = w.heap.setIfInBounds b (.cells (c.setIfInBounds i v) t fr) := by
  apply Array.ext_getElem?
  intro k
  simp only [World.setCell, Array.getElem?_modify, Array.getElem?_setIfInBounds]
  have hlt := (Array.getElem?_eq_some_iff.1 h).1
  by_cases hk : b = k
  · subst hk
    rw [if_pos rfl, if_pos rfl, h, if_pos hlt]
    rfl
  · rw [if_neg hk, if_neg hk]

theorem run_storeCells (b : Nat) (t : TypeId) (fr : Nat × Nat) : ∀ (vs : List Value) (o i : Nat) (w : World) (c : Array Value), w.heap[b]? = some (.cells c t fr) → (fr.2 ≤ fr.1 ∨ c.size ≤ fr.1) → (∀ v ∈ vs, plainV v = true) → o + i + vs.length ≤ c.size →
    ∃ w', (storeCells ⟨b, o, none⟩ vs i).run P w = .ok () w' ∧ Same w w' ∧ w'.drawn = w.drawn ∧ w'.heap = w.heap.setIfInBounds b (.cells (over c (o + i) vs) t fr)
  | [], o, i, w, c, h, _, _, _ => by
    refine ⟨w, by simp [storeCells], Same.refl w, rfl, ?_⟩
    apply Array.ext_getElem?
    intro k
    rw [Array.getElem?_setIfInBounds]
    have hlt := (Array.getElem?_eq_some_iff.1 h).1
    by_cases hk : b = k
    · subst hk; rw [if_pos rfl, if_pos hlt, h]; rfl
    · rw [if_neg hk]
  | v :: vs, o, i, w, c, h, hfr, hp, hl => by
    have hlt := (Array.getElem?_eq_some_iff.1 h).1
    simp only [List.length_cons] at hl
    have hcell : w.cell? ⟨b, o + i, none⟩ = some c[o + i] := by simp [World.cell?, h]
    have hfz : w.frozen? ⟨b, o + i, none⟩ = false := by
      obtain ⟨lo, hi⟩ := fr
      simp only [World.frozen?, h]
      simp
      simp at hfr
      omega
    have hstore : (Go.store (⟨b, o + i, none⟩ : Addr) v).run P w = .ok () (w.setCell ⟨b, o + i, none⟩ v) := by
      have hv := hp v (by simp)
      cases v <;> first | (cases hv; done) | (simp [Go.store, Sem.run, hcell, hfz]; done)
    have hh := set_eq h (o + i) v
    obtain ⟨w', hr, hs, hd, hw'⟩ := run_storeCells b t fr vs o (i + 1) (w.setCell ⟨b, o + i, none⟩ v) (c.setIfInBounds (o + i) v) (by rw [hh]; simp [hlt]) (by rw [Array.size_setIfInBounds]; exact hfr) (fun u hu => hp u (by simp [hu])) (by simp; omega)
    refine ⟨w', ?_, ⟨hs.os, hs.tape, hs.output⟩, hd, ?_⟩
    · simp only [storeCells, Sem.run_bind, addk, hstore, Result.andThen_ok, hr]
    · rw [hw', hh]
      simp [over, Nat.add_assoc]

theorem DoH.store {t e : TypeId} {i : TypeInfo} {b o : Nat} {c : Array Value} {v : Value} {K : Heap → Prop} (hb : Blk H b c e) (hi : P.info? t = some i) (hn : v.cells.size = i.size) (hp : ∀ u ∈ v.cells.toList, plainV u = true) (hl : o + i.size ≤ c.size)
    (hk : ∀ H', H'.size = H.size → Blk H' b (over c o v.cells.toList) e → But b H H' → K H') : DoH P (Instr.storeAt t (.pointer (some ⟨b, o, none⟩)) v) H K := by
  refine ⟨fun w hw => ?_⟩
  obtain ⟨fr, hb1, hb2⟩ := hb.out
  obtain ⟨w', hr, hs, _, hw'⟩ := run_storeCells (P := P) b e fr v.cells.toList o 0 w c (by rw [hw]; exact hb1) hb2 hp (by simp; omega)
  refine ⟨w', ?_, hs, ?_⟩
  · simp only [Instr.storeAt, Instr.sureAddr, Sem.run_bind, Sem.run_pure, Result.andThen_ok, storeVar, sizeOf_of hi, hn, ne_eq, not_true_eq_false, if_false, hr]
  · rw [hw', hw]
    refine hk _ (by simp) ⟨fr, ?_, by rw [over_size]; exact hb2⟩ (Only.set _ _ _)
    rw [Array.getElem?_setIfInBounds_self_of_lt hb.lt]
    rfl
/-- one cell -/
theorem DoH.store1 {t e : TypeId} {i : TypeInfo} {b o : Nat} {c : Array Value} {v : Value} {K : Heap → Prop} (hb : Blk H b c e) (hi : P.info? t = some i) (hn : i.size = 1) (hp : plainV v = true) (hl : o < c.size)
    (hk : ∀ H', H'.size = H.size → Blk H' b (c.setIfInBounds o v) e → But b H H' → K H') : DoH P (Instr.storeAt t (.pointer (some ⟨b, o, none⟩)) v) H K := by
  have hc : v.cells = #[v] := by cases v <;> first | rfl | (simp [plainV] at hp)
  refine DoH.store hb hi (by rw [hc]; simpa using hn.symm) (by rw [hc]; simpa using hp) (by omega) ?_
  intro H' h1 h2 h3
  refine hk H' h1 ?_ h3
  simpa [hc, over] using h2
/-- a whole variable -/
theorem DoH.store_all {t e : TypeId} {i : TypeInfo} {b : Nat} {c cs : Array Value} {K : Heap → Prop} (hb : Blk H b c e) (hi : P.info? t = some i) (hn : cs.size = i.size) (hc : c.size = cs.size) (hp : ∀ u ∈ cs.toList, plainV u = true)
    (hk : ∀ H', H'.size = H.size → Blk H' b cs e → But b H H' → K H') : DoH P (Instr.storeAt t (.pointer (some ⟨b, 0, none⟩)) (.agg cs)) H K := by
  refine DoH.store hb hi hn hp (by omega) ?_
  intro H' h1 h2 h3
  refine hk H' h1 ?_ h3
  simpa [Value.cells, over_all c cs hc] using h2

/- ---------- new blocks ---------- -/
theorem run_newObj (w : World) (o : Obj) : (newObj o).run P w = .ok w.heap.size { w with heap := w.heap.push o } := rfl
theorem push_last (H : Heap) (o : Obj) : (H.push o)[H.size]? = some o := by simp
theorem SemH.alloc {t : TypeId} {i : TypeInfo} {z : Value} {K : Value → Heap → Prop} (hi : P.info? t = some i) (hz : i.zero = some z)
    (hk : ∀ H', H'.size = H.size + 1 → Blk H' H.size z.cells t → Ext H H' → K (.pointer (some ⟨H.size, 0, none⟩)) H') : SemH P (Instr.alloc t true (.tuple #[])) H K := by
  refine ⟨fun w hw => ⟨.pointer (some ⟨w.heap.size, 0, none⟩), { w with heap := w.heap.push (.cells z.cells t) }, ?_, ⟨rfl, rfl, rfl⟩, ?_⟩⟩
  · simp only [Instr.alloc, zeroValue, Sem.run_bind, typeInfo_of hi, Result.andThen_ok, hz, Sem.run_pure, newVar, newRow, run_newObj]
  · subst hw
    exact hk _ (by simp) (Blk.new (push_last _ _)) (Only.push _ _ _)
theorem SemH.box {t : TypeId} {v : Value} {K : Value → Heap → Prop}
    (hk : ∀ H', H'.size = H.size + 1 → Blk H' H.size v.cells t → Ext H H' → K (.pointer (some ⟨H.size, 0, none⟩)) H') : SemH P (Instr.box t v) H K := by
  refine ⟨fun w hw => ⟨.pointer (some ⟨w.heap.size, 0, none⟩), { w with heap := w.heap.push (.cells v.cells t) }, ?_, ⟨rfl, rfl, rfl⟩, ?_⟩⟩
  · simp only [Instr.box, Sem.run_bind, Sem.run_pure, newVar, newRow, run_newObj, Result.andThen_ok]
  · subst hw
    exact hk _ (by simp) (Blk.new (push_last _ _)) (Only.push _ _ _)

/-- a literal of a slice: its cells are a closed computation -/
theorem SemH.buildSlice {t e : TypeId} {i : TypeInfo} {z : Value} {n : Nat} {parts : Array (Nat × Value)} {cs : Array Value} {K : Value → Heap → Prop} (ht : P.underlying t = some (.slice e)) (hi : P.info? e = some i) (hz : i.zero = some z) (hsm : ¬ n * i.size > 2 ^ 24)
    (hf : Instr.fill (fun j => some (j * i.size, i.size)) ((Array.range (n * i.size)).map ((if n * i.size = 0 then #[] else z.cells)[· % (if n * i.size = 0 then #[] else z.cells).size]!)) parts.toList = some cs)
    (hk : ∀ H', H'.size = H.size + 1 → Blk H' H.size cs e → Ext H H' → K (.slice (some ⟨H.size, 0, none⟩) n n) H') : SemH P (Instr.buildSlice t n parts) H K := by
  refine ⟨fun w hw => ⟨.slice (some ⟨w.heap.size, 0, none⟩) n n, { w with heap := w.heap.push (.cells cs e) }, ?_, ⟨rfl, rfl, rfl⟩, ?_⟩⟩
  · simp only [Instr.buildSlice, Sem.run_bind, underlying_of ht, Result.andThen_ok, sizeOf_of hi, if_neg hsm]
    by_cases h0 : n * i.size = 0
    · simp only [if_pos h0] at hf ⊢
      simp only [Sem.run_bind, Sem.run_pure, Result.andThen_ok]
      rw [hf]
      simp only [Sem.run_bind, newRow, run_newObj, Result.andThen_ok, Sem.run_pure]
    · simp only [if_neg h0] at hf ⊢
      simp only [Sem.run_bind, zeroValue, typeInfo_of hi, hz, Sem.run_pure, Result.andThen_ok]
      rw [hf]
      simp only [Sem.run_bind, newRow, run_newObj, Result.andThen_ok, Sem.run_pure]
  · subst hw
    exact hk _ (by simp) (Blk.new (push_last _ _)) (Only.push _ _ _)


/- ---------- slices that are read ---------- -/
/-- the slice a of n places (its capacity is c) holds these cells -/
structure Row (H : Heap) (a : Option Addr) (cs : List Value) : Prop where
  out : cs = [] ∨ ∃ b o, a = some ⟨b, o, none⟩ ∧ ∀ j v, cs[j]? = some v → hcell H ⟨b, o + j, none⟩ = some v
theorem Blk.row {b : Nat} {c : List Value} {t : TypeId} (h : Blk H b c.toArray t) : Row H (some ⟨b, 0, none⟩) c :=
  ⟨.inr ⟨b, 0, rfl, fun j v hv => by rw [h.cell, Nat.zero_add]; simpa using hv⟩⟩
theorem Row.nil (H : Heap) (a : Option Addr) : Row H a [] := ⟨.inl rfl⟩
theorem Row.keep {F : Nat → Prop} {a : Option Addr} {cs : List Value} (h : Row H a cs) (k : Only F H H') (hF : ∀ p, a = some p → ¬ F p.block) : Row H' a cs := by
  rcases h.out with h | ⟨b, o, ha, h⟩
  · exact ⟨.inl h⟩
  · exact ⟨.inr ⟨b, o, ha, fun j v hv => hcell_keep (h j v hv) k (hF ⟨b, o, none⟩ ha)⟩⟩
theorem Row.keep' {F : Nat → Prop} {a : Option Addr} {cs : List Value} (h : Row H a cs) (k : Only F H H') (hF : cs ≠ [] → ∀ p, a = some p → ¬ F p.block) : Row H' a cs := by
  by_cases h0 : cs = []
  · subst h0; exact Row.nil _ _
  · exact h.keep k (hF h0)
theorem Row.ext {a : Option Addr} {cs : List Value} (h : Row H a cs) (k : Ext H H') : Row H' a cs := h.keep k fun _ _ => id
theorem Row.at {a : Option Addr} {cs : List Value} (h : Row H a cs) (h0 : 0 < cs.length) : ∃ b o, a = some ⟨b, o, none⟩ ∧ b < H.size ∧ ∀ j v, cs[j]? = some v → hcell H ⟨b, o + j, none⟩ = some v := by
  rcases h.out with h | ⟨b, o, ha, h⟩
  · subst h; simp at h0
  · exact ⟨b, o, ha, hcell_lt (h 0 cs[0] (by simp)), h⟩
theorem Row.take {a : Option Addr} {cs : List Value} (h : Row H a cs) (k : Nat) : Row H a (cs.take k) := by
  rcases h.out with h | ⟨b, o, ha, h⟩
  · subst h; simp [Row.nil]
  · refine ⟨.inr ⟨b, o, ha, fun j v hv => h j v ?_⟩⟩
    rw [List.getElem?_take] at hv
    split at hv
    · exact hv
    · cases hv
theorem Row.drop {a : Option Addr} {cs : List Value} (h : Row H a cs) (m l size : Nat) (hl : m = l → cs.length ≤ l * size) : Row H (sliceBase a m l size) (cs.drop (l * size)) := by
  unfold sliceBase
  split
  · rename_i he
    rw [List.drop_eq_nil_of_le (hl he)]
    exact Row.nil _ _
  · rcases h.out with h | ⟨b, o, ha, h⟩
    · subst h; simp [Row.nil]
    · refine ⟨.inr ⟨b, o + l * size, by simp [ha, addk], fun j v hv => ?_⟩⟩
      have := h (l * size + j) v (by simpa [List.getElem?_drop] using hv)
      rwa [Nat.add_assoc]
/-- an element's address -/
theorem IdxA.row {a : Option Addr} {cs : List Value} {n size : Nat} {i : Int} {K : Addr → Prop} (h : Row H a cs) (hl : cs.length = n * size) (hs : 0 < size) (j : Nat) (hi : i = j) (hj : j < n)
    (hk : ∀ b o, b < H.size → a = some ⟨b, o, none⟩ → (∀ m v, cs[j * size + m]? = some v → hcell H ⟨b, o + j * size + m, none⟩ = some v) → K ⟨b, o + j * size, none⟩) : IdxA a n size i K := by
  have hpos : 0 < cs.length := by rw [hl]; exact Nat.mul_pos (by omega) hs
  obtain ⟨b, o, ha, hb, hc⟩ := h.at hpos
  subst hi
  refine ⟨by omega, by omega, ⟨b, o, none⟩, ha, ?_⟩
  rw [addk, Int.toNat_natCast]
  exact hk b o hb ha fun m v hv => by rw [Nat.add_assoc]; exact hc _ _ hv


/- ---------- slices of the call's own ---------- -/
/-- the slice value (a, n, cap) of elements of type e (size cells each) owns these cells: nil, or the head of a block from base on -/
structure Own (H : Heap) (base : Nat) (e : TypeId) (size : Nat) (a : Option Addr) (n cap : Nat) (xs : List Value) : Prop where
  len : xs.length = n * size
  out : (a = none ∧ n = 0 ∧ cap = 0) ∨ ∃ g cur, a = some ⟨g, 0, none⟩ ∧ base ≤ g ∧ Blk H g cur e ∧ n ≤ cap ∧ cap ≤ maxLen ∧ cur.size = cap * size ∧ cur.toList.take (n * size) = xs
/-- only the block that the address leads to has been written -/
abbrev Wr (a : Option Addr) (H H' : Heap) : Prop := Only (fun b => ∃ p, a = some p ∧ p.block = b) H H'
theorem Wr.toBut {g o : Nat} (h : Wr (some ⟨g, o, none⟩) H H') : But g H H' := ⟨h.size, fun b hb hne => h.same b hb fun ⟨p, hp, e⟩ => hne (by cases hp; exact e.symm)⟩
theorem Only.mono {F G : Nat → Prop} (h : Only F H H') (hFG : ∀ b, F b → G b) : Only G H H' := ⟨h.size, fun b hb hn => h.same b hb fun hF => hn (hFG b hF)⟩
theorem Wr.of_but {g o : Nat} (h : But g H H') : Wr (some ⟨g, o, none⟩) H H' := ⟨h.size, fun b hb hne => h.same b hb fun e => hne ⟨_, rfl, e.symm⟩⟩

theorem Own.nil (H : Heap) (base : Nat) (e : TypeId) (size : Nat) : Own H base e size none 0 0 [] := ⟨by simp, .inl ⟨rfl, rfl, rfl⟩⟩
theorem Own.keep {F : Nat → Prop} {base : Nat} {e : TypeId} {size : Nat} {a : Option Addr} {n cap : Nat} {xs : List Value} (h : Own H base e size a n cap xs) (k : Only F H H') (hF : ∀ p, a = some p → ¬ F p.block) : Own H' base e size a n cap xs := by
  refine ⟨h.len, ?_⟩
  rcases h.out with h | ⟨g, cur, ha, hb, hg, r⟩
  · exact .inl h
  · exact .inr ⟨g, cur, ha, hb, hg.keep k (hF ⟨g, 0, none⟩ ha), r⟩
theorem Own.ext {base : Nat} {e : TypeId} {size : Nat} {a : Option Addr} {n cap : Nat} {xs : List Value} (h : Own H base e size a n cap xs) (k : Ext H H') : Own H' base e size a n cap xs := h.keep k fun _ _ => id
theorem Own.block {base : Nat} {e : TypeId} {size : Nat} {a : Option Addr} {n cap : Nat} {xs : List Value} (h : Own H base e size a n cap xs) : ∀ p, a = some p → base ≤ p.block ∧ p.block < H.size := by
  intro p hp
  rcases h.out with ⟨h, _⟩ | ⟨g, cur, ha, hb, hg, r⟩
  · rw [h] at hp; cases hp
  · rw [ha] at hp; cases hp; exact ⟨hb, hg.lt⟩
theorem Own.row {base : Nat} {e : TypeId} {size : Nat} {a : Option Addr} {n cap : Nat} {xs : List Value} (h : Own H base e size a n cap xs) : Row H a xs := by
  rcases h.out with ⟨_, h0, _⟩ | ⟨g, cur, ha, hb, hg, hn, hm, hs, ht⟩
  · have : xs = [] := List.eq_nil_of_length_eq_zero (by rw [h.len, h0]; simp)
    rw [this]; exact Row.nil _ _
  · refine ⟨.inr ⟨g, 0, ha, fun j v hv => ?_⟩⟩
    rw [Nat.zero_add, hg.cell]
    rw [← ht, List.getElem?_take] at hv
    split at hv
    · simpa using hv
    · cases hv
theorem Own.base {base base' : Nat} {e : TypeId} {size : Nat} {a : Option Addr} {n cap : Nat} {xs : List Value} (h : Own H base e size a n cap xs) (hb : base' ≤ base) : Own H base' e size a n cap xs := by
  refine ⟨h.len, ?_⟩
  rcases h.out with h | ⟨g, cur, ha, hb', r⟩
  · exact .inl h
  · exact .inr ⟨g, cur, ha, Nat.le_trans hb hb', r⟩
theorem Own.cap_le {base : Nat} {e : TypeId} {size : Nat} {a : Option Addr} {n cap : Nat} {xs : List Value} (h : Own H base e size a n cap xs) : n ≤ cap := by
  rcases h.out with ⟨_, h0, h1⟩ | ⟨g, cur, ha, hb, hg, hn, _⟩
  · omega
  · exact hn
/-- cut to its first k -/
theorem Own.cut {base : Nat} {e : TypeId} {size : Nat} {a : Option Addr} {n cap : Nat} {xs : List Value} (h : Own H base e size a n cap xs) (k : Nat) (hk : k ≤ n) : Own H base e size a k cap (xs.take (k * size)) := by
  have hks : k * size ≤ n * size := Nat.mul_le_mul_right _ hk
  refine ⟨by rw [List.length_take, h.len]; omega, ?_⟩
  rcases h.out with ⟨h1, h2, h3⟩ | ⟨g, cur, ha, hb, hg, hn, hm, hs, ht⟩
  · exact .inl ⟨h1, by omega, h3⟩
  · refine .inr ⟨g, cur, ha, hb, hg, by omega, hm, hs, ?_⟩
    rw [← ht, List.take_take, Nat.min_eq_left hks]

/-- what an append goes for: m elements of a slice or a string -/
structure Src (P : Program) (H : Heap) (x : Value) (size m : Nat) (news : List Value) : Prop where
  len : news.length = m * size
  plain : ∀ u ∈ news, plainV u = true
  lenOf : ∀ w, (Builtin.lenOf x).run P w = .ok m w
  first : ∀ w : World, w.heap = H → (Builtin.firstCells size m x).run P w = .ok news.toArray w
theorem run_firstRow {a : Option Addr} {size m c : Nat} {news : List Value} (h : Row H a news) (hl : news.length = m * size) (w : World) (hw : w.heap = H) : (Builtin.firstCells size m (.slice a m c)).run P w = .ok news.toArray w := by
  cases a with
  | none =>
    rcases h.out with h | ⟨_, _, ha, _⟩
    · subst h; rfl
    · cases ha
  | some p =>
    simp only [Builtin.firstCells, loadCells, ← hl]
    rcases h.out with h | ⟨b, o, ha, hc⟩
    · subst h; rfl
    · cases ha
      have := run_loadCellsFrom (P := P) (w := w) (p := ⟨b, o, none⟩) news 0 #[] fun j v hv => by rw [addk, Nat.zero_add, cell_heap, hw]; exact hc j v hv
      rw [this]; simp
theorem Src.row {a : Option Addr} {size m c : Nat} {news : List Value} (h : Row H a news) (hl : news.length = m * size) (hp : ∀ u ∈ news, plainV u = true) : Src P H (.slice a m c) size m news :=
  ⟨hl, hp, fun w => rfl, fun w hw => run_firstRow h hl w hw⟩
def strV (l : List UInt8) : List Value := l.map fun b => .int .u8 b.toNat
theorem Src.str (s : ByteArray) : Src P H (.string s) 1 s.size (strV s.data.toList) := by
  refine ⟨by simp [strV], fun u hu => ?_, fun w => rfl, fun w hw => ?_⟩
  · obtain ⟨b, _, rfl⟩ := List.mem_map.1 hu; rfl
  · show Result.ok _ _ = Result.ok _ _
    congr 1
    apply Array.ext'
    have e : s.extract 0 s.size = s := by
      apply ByteArray.ext
      simp
    rw [e]
    simp [strV]

theorem NextH.append {t u e ty : TypeId} {i : TypeInfo} {z : Value} {base : Nat} {a : Option Addr} {n cap : Nat} {xs : List Value} {x : Value} {m : Nat} {news : List Value} {cb : Array Bool} {K : Value → Heap → Prop}
    (ht : P.underlying t = some (.slice e)) (hu : ∃ d, P.underlying u = some d ∧ (∀ k, d ≠ .int k)) (hi : P.info? e = some i) (hz : i.zero = some z) (hzs : z.cells.size = i.size) (hown : Own H base e i.size a n cap xs) (hsrc : Src P H x i.size m news)
    (h63 : n + m ≤ maxLen) (hbytes : (n + m) * i.bytes ≤ 140737488355328) (hbase : base ≤ H.size)
    (hk : ∀ a' cap' H', Own H' base e i.size a' (n + m) cap' (xs ++ news) → Wr a H H' → (∀ p, a' = some p → a' = a ∨ H.size ≤ p.block) → K (.slice a' (n + m) cap') H') :
    NextH P (builtin .append #[t, u] ty cb #[.slice a n cap, x]) H K := by
  refine ⟨fun w hw => ?_⟩
  obtain ⟨d, hu, hd⟩ := hu
  have hzero : (match d with | .int _ => true | _ => false) = false := by cases d <;> first | rfl | exact absurd rfl (hd _)
  have hsmall : n + m ≤ 9223372036854775807 := by have := h63; simp only [maxLen] at this; omega
  have hlen : (xs ++ news).length = (n + m) * i.size := by rw [List.length_append, hown.len, hsrc.len, Nat.add_mul]
  have goal : ∀ {v w'}, (Builtin.append_ #[t, u] ty #[.slice a n cap, x]).run P w = .ok v w' → Same w w' → K v w'.heap → Nexts P w K ((builtin .append #[t, u] ty cb #[.slice a n cap, x]).run P w) := by
    intro v w' hr hs hk
    simp only [builtin, Sem.run_bind, hr, Result.andThen_ok]
    exact ⟨hs, hk⟩
  by_cases hroom : n + m ≤ cap
  · rcases hown.out with ⟨ha, hn, hc⟩ | ⟨g, cur, ha, hb, hg, hnc, hmc, hcs, htake⟩
    · have hm : m = 0 := by omega
      subst ha hn hc hm
      have hnews : news = [] := List.eq_nil_of_length_eq_zero (by rw [hsrc.len]; simp)
      have hx : xs = [] := List.eq_nil_of_length_eq_zero (by rw [hown.len]; simp)
      subst hnews hx
      refine goal (v := .slice none 0 0) (w' := w) ?_ (Same.refl w) ?_
      · simp [Builtin.append_, underlying_of ht, underlying_of hu, sizeOf_of hi, hzero, hsrc.lenOf, hsrc.first w hw]
      · rw [hw]; exact hk none 0 H (Own.nil _ _ _ _) (Only.refl _ _) (fun p hp => by cases hp)
    · subst ha
      obtain ⟨fr, hg1, hg2⟩ := hg.out
      have hfit : n * i.size + news.length ≤ cur.size := by rw [hsrc.len, hcs, ← Nat.add_mul]; exact Nat.mul_le_mul_right _ hroom
      obtain ⟨w', hr, hs, _, hw'⟩ := run_storeCells (P := P) g e fr news (n * i.size) 0 w cur (by rw [hw]; exact hg1) hg2 hsrc.plain (by omega)
      refine goal (v := .slice (some ⟨g, 0, none⟩) (n + m) cap) (w' := w') ?_ hs ?_
      · simp [Builtin.append_, underlying_of ht, underlying_of hu, sizeOf_of hi, hzero, hsrc.lenOf, hroom, hsrc.first w hw, addk, hr]
      · rw [hw', hw]
        have hg' : Blk (H.setIfInBounds g (.cells (over cur (n * i.size + 0) news) e fr)) g (over cur (n * i.size) news) e :=
          ⟨fr, by rw [Array.getElem?_setIfInBounds_self_of_lt hg.lt]; rfl, by rw [over_size]; exact hg2⟩
        refine hk _ _ _ ⟨hlen, .inr ⟨g, _, rfl, hb, hg', hroom, hmc, by rw [over_size]; exact hcs, ?_⟩⟩ (Wr.of_but (Only.set _ _ _)) (fun p hp => .inl rfl)
        apply List.ext_getElem?
        intro j
        rw [List.getElem?_take, Array.getElem?_toList]
        rw [over_get _ _ _ _ hfit, ← htake]
        have hlx : (cur.toList.take (n * i.size)).length = n * i.size := by rw [htake]; exact hown.len
        have hnm : (n + m) * i.size = n * i.size + news.length := by rw [hsrc.len, Nat.add_mul]
        rw [hnm]
        by_cases hj : j < n * i.size
        · rw [if_pos (by omega), if_neg (by omega), List.getElem?_append_left (by omega), List.getElem?_take, if_pos hj, Array.getElem?_toList]
        · by_cases hj2 : j < n * i.size + news.length
          · rw [if_pos hj2, if_pos (by omega), List.getElem?_append_right (by omega), hlx]
          · rw [if_neg hj2, List.getElem?_append_right (by omega), hlx, List.getElem?_eq_none (by omega)]
  · have hgrow : cap < n + m := by omega
    have h63' : ¬ (9223372036854775807 < ((n : Int) + (m : Int))) := by omega
    have hfit := growslice_fits hgrow hbytes
    have h48 : ¬ (281474976710656 < Builtin.nextslicecap (n + m) cap * i.bytes) := by omega
    have hold : ∀ w' : World, w'.heap = H → (Builtin.firstCells i.size n (.slice a n cap)).run P w' = .ok xs.toArray w' := fun w' hw' => run_firstRow hown.row hown.len w' hw'
    have hge : n + m ≤ grownCap w (n + m) cap e := grownCap_ge w (n + m) cap e
    have hcm : grownCap w (n + m) cap e ≤ maxLen := grownCap_le_maxLen w (n + m) cap e h63
    refine goal (v := .slice (some ⟨w.heap.size, 0, none⟩) (n + m) (grownCap w (n + m) cap e))
      (w' := w.drew.alloc (.cells (xs.toArray ++ news.toArray ++ Builtin.zeroCells z.cells (grownCap w (n + m) cap e - (n + m))) e)) ?_ ⟨rfl, rfl, rfl⟩ ?_
    · have e1 := hold w.drew hw
      have e2 := hsrc.first w.drew hw
      simp [Builtin.append_, underlying_of ht, underlying_of hu, sizeOf_of hi, typeInfo_of hi, hzero, hsrc.lenOf, hroom, h63', h48, Question.forced, e1, e2, zeroValue, hz, newRow, grownCap]
      congr 2
      apply Array.ext'
      simp [List.append_assoc]
    · subst hw
      refine hk _ _ _ ⟨hlen, .inr ⟨w.heap.size, _, rfl, hbase, Blk.new (push_last _ _), hge, hcm, ?_, ?_⟩⟩ (Only.push _ _ _) (fun p hp => .inr (by cases hp; exact Nat.le_refl _))
      · simp only [Array.size_append, List.size_toArray, size_zeroCells, hzs, hown.len, hsrc.len, ← Nat.add_mul]
        congr 1
        omega
      · simp only [Array.toList_append, List.append_assoc]
        rw [← List.append_assoc, ← hlen]
        exact List.take_left

end Go.Vc
/- Heaps, more: make, copy, strings and bytes, equality. -/
namespace Go.Vc
variable {P : Program} {H H' : Heap}

/- ---------- strings and bytes ---------- -/
theorem strV_length (l : List UInt8) : (strV l).length = l.length := by simp [strV]
theorem strV_append (l m : List UInt8) : strV (l ++ m) = strV l ++ strV m := by simp [strV]
theorem strV_take (l : List UInt8) (k : Nat) : (strV l).take k = strV (l.take k) := by simp [strV]
theorem strV_drop (l : List UInt8) (k : Nat) : (strV l).drop k = strV (l.drop k) := by simp [strV]
theorem strV_plain (l : List UInt8) : ∀ u ∈ strV l, plainV u = true := by
  intro u hu; obtain ⟨b, _, rfl⟩ := List.mem_map.1 hu; rfl
theorem strV_get {l : List UInt8} {j : Nat} (h : j < l.length) : (strV l)[j]? = some (.int .u8 (l.getD j 0).toNat) := by
  simp [strV, h]

theorem SemH.to_string {s d e : TypeId} {a : Option Addr} {c : Nat} {l : List UInt8} {K : Value → Heap → Prop} (hs : P.underlying s = some (.slice e)) (he : P.underlying e = some (.int .u8)) (hd : P.underlying d = some .string)
    (hr : Row H a (strV l)) (hk : K (.string ⟨l.toArray⟩) H) : SemH P (convert s d (.slice a l.length c)) H K := by
  refine ⟨fun w hw => ⟨_, w, ?_, Same.refl w, hw ▸ hk⟩⟩
  cases a with
  | none =>
    rcases hr.out with h | ⟨_, _, ha, _⟩
    · have : l = [] := by simpa [strV] using h
      subst this
      simp [convert, underlying_of hs, underlying_of hd, underlying_of he, Conv.bytesToString]
      rfl
    · cases ha
  | some p =>
    by_cases h0 : l = []
    · subst h0
      exact run_convert_bytes_back w s d e p c [] hs he hd (fun j hj => by simp at hj)
    · rcases hr.out with h | ⟨b, o, ha, h⟩
      · exact absurd (by simpa [strV] using h) h0
      · cases ha
        refine run_convert_bytes_back w s d e _ c l hs he hd (fun j hj => ?_)
        rw [addk, cell_heap, hw]
        refine h j _ ?_
        rw [strV_get hj]; simp [hj]

theorem SemH.of_string {s d e : TypeId} {t : ByteArray} {K : Value → Heap → Prop} (hs : P.underlying s = some .string) (hd : P.underlying d = some (.slice e)) (he : P.underlying e = some (.int .u8)) (hm : t.size ≤ maxLen)
    (hk : ∀ cap H', Own H' H.size e 1 (some ⟨H.size, 0, none⟩) t.size cap (strV t.data.toList) → Ext H H' → K (.slice (some ⟨H.size, 0, none⟩) t.size cap) H') : SemH P (convert s d (.string t)) H K := by
  refine ⟨fun w hw => ⟨_, _, run_bytes_of_string w s d e t hs hd he, ⟨rfl, rfl, rfl⟩, ?_⟩⟩
  subst hw
  have hge := grownCap_ge w t.size 0 e
  have hcm : grownCap w t.size 0 e ≤ maxLen := grownCap_le_maxLen w t.size 0 e hm
  have hsz : (bytesRow t (grownCap w t.size 0 e)).size = grownCap w t.size 0 e := by
    have : t.data.size = t.size := rfl
    simp [bytesRow, this]; omega
  refine hk _ _ ⟨by simp [strV], .inr ⟨_, bytesRow t (grownCap w t.size 0 e), rfl, Nat.le_refl _, ⟨_, push_last _ _, .inr (Nat.le_refl _)⟩, hge, hcm, by rw [hsz]; simp, ?_⟩⟩ (Only.push _ _ _)
  have : t.data.toList.length = t.size := by simp
  simp [bytesRow, strV, this]

/- ---------- make, copy ---------- -/
theorem SemH.make {t e : TypeId} {i : TypeInfo} {z : Value} {kl kc : IntKind} {n : Nat} {K : Value → Heap → Prop} (ht : P.underlying t = some (.slice e)) (hi : P.info? e = some i) (hz : i.zero = some z) (hb : i.bytes * n ≤ 281474976710656) (hm : n ≤ maxLen)
    (hk : ∀ H', Own H' H.size e i.size (some ⟨H.size, 0, none⟩) n n (madeCells z.cells (n * i.size)).toList → Ext H H' → K (.slice (some ⟨H.size, 0, none⟩) n n) H') : SemH P (Instr.makeSlice t (.int kl n) (.int kc n)) H K := by
  refine ⟨fun w hw => ?_⟩
  have h63' : (n : Int) ≤ 9223372036854775807 := by
    have h := hm
    simp [maxLen] at h
    omega
  have hb' : (i.bytes : Int) * (n : Int) ≤ 281474976710656 := by
    have h : ((i.bytes * n : Nat) : Int) ≤ 281474976710656 := by omega
    rwa [Int.natCast_mul] at h
  have hr := run_make (P := P) w t e i z ht hi hz kl kc n n (by omega) (Int.le_refl _) hb' h63'
  simp only [Int.toNat_natCast] at hr
  subst hw
  have hl : (madeCells z.cells (n * i.size)).size = n * i.size := size_madeCells _ _
  exact ⟨_, _, hr, ⟨rfl, rfl, rfl⟩, hk _ ⟨by simpa using hl, .inr ⟨_, _, rfl, Nat.le_refl _, Blk.new (push_last _ _), Nat.le_refl _, hm, hl, by rw [List.take_of_length_le (by simp [hl])]⟩⟩ (Only.push _ _ _)⟩

/-- copy into a block that is known whole -/
theorem NextH.copy {t u e ty : TypeId} {i : TypeInfo} {a : Option Addr} {n cap m : Nat} {x : Value} {g o : Nat} {cur : Array Value} {et : TypeId} {k : Nat} {cs : List Value} {cb : Array Bool} {K : Value → Heap → Prop}
    (ht : P.underlying t = some (.slice e)) (hi : P.info? e = some i) (hl : ∀ w, (Builtin.lenOf x).run P w = .ok m w) (hkm : k = Nat.min m n) (hlen : cs.length = k * i.size) (hf : ∀ w : World, w.heap = H → (Builtin.firstCells i.size k x).run P w = .ok cs.toArray w)
    (ha : 0 < cs.length → a = some ⟨g, o, none⟩) (hg : Blk H g cur et) (hfit : o + cs.length ≤ cur.size) (hp : ∀ u ∈ cs, plainV u = true)
    (hk : ∀ H', H'.size = H.size → Blk H' g (over cur o cs) et → But g H H' → K (.int .i64 k) H') : NextH P (builtin .copy #[t, u] ty cb #[.slice a n cap, x]) H K := by
  refine ⟨fun w hw => ?_⟩
  have goal : ∀ {w'}, (Builtin.copy_ #[t, u] ty #[.slice a n cap, x]).run P w = .ok (.int .i64 k) w' → Same w w' → K (.int .i64 k) w'.heap → Nexts P w K ((builtin .copy #[t, u] ty cb #[.slice a n cap, x]).run P w) := by
    intro w' hr hs hk
    simp only [builtin, Sem.run_bind, hr, Result.andThen_ok]
    exact ⟨hs, hk⟩
  have hff := hf w hw
  rw [hkm] at hff
  by_cases h0 : cs.length = 0
  · have hcs : cs = [] := List.eq_nil_of_length_eq_zero h0
    subst hcs
    refine goal (w' := w) ?_ (Same.refl w) (by rw [hw]; exact hk H rfl hg (Only.refl _ _))
    simp only [Builtin.copy_, List.getElem?_toArray, List.getElem?_cons_zero, List.getElem?_cons_succ, Sem.run_bind, underlying_of ht, Result.andThen_ok, hl, sizeOf_of hi, hff]
    cases a with
    | none => simp [goInt, hkm]
    | some p => simp [storeCells, goInt, hkm]
  · have ha := ha (by omega)
    subst ha
    obtain ⟨fr, hg1, hg2⟩ := hg.out
    obtain ⟨w', hr, hs, _, hw'⟩ := run_storeCells (P := P) g et fr cs o 0 w cur (by rw [hw]; exact hg1) hg2 hp (by omega)
    refine goal (w' := w') ?_ hs ?_
    · simp only [Builtin.copy_, List.getElem?_toArray, List.getElem?_cons_zero, List.getElem?_cons_succ, Sem.run_bind, underlying_of ht, Result.andThen_ok, hl, sizeOf_of hi, hff, hr]
      simp [goInt, hkm]
    · rw [hw', hw]
      refine hk _ (by simp) ⟨fr, ?_, by rw [over_size]; exact hg2⟩ (Only.set _ _ _)
      rw [Array.getElem?_setIfInBounds_self_of_lt hg.lt]
      rfl

/- ---------- stores into slices of the call's own ---------- -/
theorem DoH.store_own {t e : TypeId} {i : TypeInfo} {base g n cap : Nat} {xs : List Value} {o : Nat} {v : Value} {K : Heap → Prop} (ho : Own H base e 1 (some ⟨g, 0, none⟩) n cap xs) (hi : P.info? t = some i) (hn : i.size = 1) (hp : plainV v = true) (hl : o < n)
    (hk : ∀ H', H'.size = H.size → Own H' base e 1 (some ⟨g, 0, none⟩) n cap (xs.set o v) → But g H H' → K H') : DoH P (Instr.storeAt t (.pointer (some ⟨g, o, none⟩)) v) H K := by
  rcases ho.out with ⟨ha, _⟩ | ⟨g', cur, ha, hb, hg, hnc, hmc, hcs, htake⟩
  · cases ha
  · cases ha
    refine DoH.store1 hg hi hn hp (by omega) fun H' h1 h2 h3 => hk H' h1 ⟨by simpa using ho.len, .inr ⟨_, _, rfl, hb, h2, hnc, hmc, by simpa using hcs, ?_⟩⟩ h3
    rw [← htake, Nat.mul_one, Array.toList_setIfInBounds]
    apply List.ext_getElem?
    intro j
    simp only [List.getElem?_take, List.getElem?_set, List.length_take]
    have hsz : cur.toList.length = cap := by simpa using hcs
    by_cases hj : o = j
    · subst hj
      rw [if_pos hl, if_pos rfl, if_pos rfl, if_pos (by omega), if_pos (by omega)]
    · rw [if_neg hj, if_neg hj]

/- ---------- literals of slices ---------- -/
theorem fold_over (cs : Array Value) : ∀ (l : List Value) (off j : Nat) (c : Array Value), (l.zipIdx j).foldl (fun cs (p : Value × Nat) => cs.setIfInBounds (off + p.2) p.1) c = over c (off + j) l
  | [], _, _, _ => rfl
  | x :: l, off, j, c => by
    simp only [List.zipIdx_cons, List.foldl_cons, over]
    exact fold_over cs l off (j + 1) _
theorem over_append : ∀ (l m : List Value) (c : Array Value) (o : Nat), over c o (l ++ m) = over (over c o l) (o + l.length) m
  | [], m, c, o => rfl
  | x :: l, m, c, o => by
    simp only [List.cons_append, over, List.length_cons]
    rw [over_append l m, show o + (l.length + 1) = o + 1 + l.length by omega]
theorem fill_parts (s : Nat) : ∀ (vs : List Value) (k : Nat) (c : Array Value), (∀ v ∈ vs, v.cells.size = s) → (k + vs.length) * s ≤ c.size →
    Instr.fill (fun j => some (j * s, s)) c ((List.range' k vs.length).zip vs) = some (over c (k * s) (vs.flatMap fun v => v.cells.toList))
  | [], k, c, _, _ => rfl
  | v :: vs, k, c, h, hl => by
    have hv : v.cells.size = s := h v (by simp)
    simp only [List.length_cons, List.range'_succ, List.zip_cons_cons, Instr.fill]
    have h1 : (k + 1) * s ≤ (k + (vs.length + 1)) * s := Nat.mul_le_mul_right _ (by omega)
    rw [Nat.add_mul, Nat.one_mul] at h1
    simp only [List.length_cons] at hl
    rw [if_neg (by simp [hv]; omega)]
    have e : v.cells.zipIdx.foldl (fun cs (p : Value × Nat) => cs.setIfInBounds (k * s + p.2) p.1) c = over c (k * s) v.cells.toList := by
      have := fold_over #[] v.cells.toList (k * s) 0 c
      rw [Nat.add_zero] at this
      rw [← this, ← Array.foldl_toList, Array.toList_zipIdx]
    rw [e]
    rw [fill_parts s vs (k + 1) (over c (k * s) v.cells.toList) (fun u hu => h u (by simp [hu])) (by rw [over_size]; rwa [show k + 1 + vs.length = k + (vs.length + 1) by omega])]
    rw [List.flatMap_cons, over_append]
    congr 2
    rw [Array.length_toList, hv, Nat.add_mul, Nat.one_mul]
theorem flat_len {s : Nat} : ∀ {vs : List Value}, (∀ v ∈ vs, v.cells.size = s) → (vs.flatMap fun v => v.cells.toList).length = vs.length * s
  | [], _ => by simp
  | v :: vs, h => by
    rw [List.flatMap_cons, List.length_append, flat_len (fun u hu => h u (by simp [hu])), Array.length_toList, h v (by simp), List.length_cons, Nat.add_mul]
    omega
theorem SemH.lit {t e : TypeId} {i : TypeInfo} {z : Value} {n : Nat} {parts : Array (Nat × Value)} {vs : List Value} {K : Value → Heap → Prop} (ht : P.underlying t = some (.slice e)) (hi : P.info? e = some i) (hz : i.zero = some z) (hn : vs.length = n)
    (hp : parts.toList = (List.range' 0 vs.length).zip vs) (hsm : Nat.ble (n * i.size) 16777216 = true) (hc : (vs.all fun v => Nat.beq v.cells.size i.size) = true)
    (hk : ∀ H', H'.size = H.size + 1 → Blk H' H.size (vs.flatMap fun v => v.cells.toList).toArray e → Ext H H' → K (.slice (some ⟨H.size, 0, none⟩) n n) H') : SemH P (Instr.buildSlice t n parts) H K := by
  have hsm := Nat.le_of_ble_eq_true hsm
  have hc : ∀ v ∈ vs, v.cells.size = i.size := fun v hv => Nat.eq_of_beq_eq_true (List.all_eq_true.1 hc v hv)
  refine SemH.buildSlice (cs := (vs.flatMap fun v => v.cells.toList).toArray) ht hi hz (by omega) ?_ hk
  rw [hp, fill_parts i.size vs 0 _ hc (by rw [hn]; simp)]
  congr 1
  have h0 : 0 * i.size = 0 := Nat.zero_mul _
  rw [h0]
  refine over_all _ (vs.flatMap fun v => v.cells.toList).toArray ?_
  simp only [List.size_toArray, Array.size_map, Array.size_range]
  rw [flat_len hc, hn]

/- ---------- bytes that are read ---------- -/
theorem IdxA.bytes {a : Option Addr} {l : List UInt8} {n : Nat} {i : Int} {K : Addr → Prop} (h : Row H a (strV l)) (hn : l.length = n) (h0 : 0 ≤ i) (h1 : i < n)
    (hk : ∀ b o, a = some ⟨b, o, none⟩ → hcell H ⟨b, o + i.toNat, none⟩ = some (.int .u8 (l.getD i.toNat 0).toNat) → K ⟨b, o + i.toNat, none⟩) : IdxA a n 1 i K := by
  obtain ⟨b, o, ha, hb, hc⟩ := h.at (by rw [strV_length]; omega)
  refine ⟨h0, h1, ⟨b, o, none⟩, ha, ?_⟩
  rw [addk, Nat.mul_one]
  exact hk b o ha (hc _ _ (strV_get (by omega)))
theorem ElemH.bytes {l : List UInt8} {j : Nat} {K : Value → Prop} (h : j < l.length) (hk : K (.int .u8 (l.getD j 0).toNat)) : ElemH (strV l).toArray j K :=
  ⟨_, by rw [← strV_get h]; simp, hk⟩
theorem SemH.load_at {t e : TypeId} {b o : Nat} {c : Array Value} {v : Value} {K : Value → Heap → Prop} (hb : Blk H b c e) (hT : aggB P t = some false) (hv : c[o]? = some v) (hk : K v H) : SemH P (Instr.loadAt t (.pointer (some ⟨b, o, none⟩))) H K :=
  SemH.load hT (by rw [hb.cell]; exact hv) hk

/- ---------- arrays that are filled ---------- -/
def fillA (n : Nat) (f : Nat → Value) (z : Value) (k : Nat) : Array Value := Array.ofFn (n := n) fun i => if i.val < k then f i.val else z
theorem fillA_size (n : Nat) (f : Nat → Value) (z : Value) (k : Nat) : (fillA n f z k).size = n := by simp [fillA]
theorem fillA_get (n : Nat) (f : Nat → Value) (z : Value) (k i : Nat) (h : i < n) : (fillA n f z k)[i]? = some (if i < k then f i else z) := by
  simp [fillA, h]
theorem fillA_lo (n : Nat) (f : Nat → Value) (z : Value) (k i : Nat) (h : i < n) (hk : i < k) : (fillA n f z k)[i]? = some (f i) := by
  rw [fillA_get _ _ _ _ _ h, if_pos hk]
theorem fillA_hi (n : Nat) (f : Nat → Value) (z : Value) (k i : Nat) (h : i < n) (hk : k ≤ i) : (fillA n f z k)[i]? = some z := by
  rw [fillA_get _ _ _ _ _ h, if_neg (by omega)]
theorem fillA_set (n : Nat) (f : Nat → Value) (z : Value) (k : Nat) (h : k < n) : (fillA n f z k).setIfInBounds k (f k) = fillA n f z (k + 1) := by
  apply Array.ext_getElem?
  intro i
  by_cases hi : i < n
  · rw [fillA_get _ _ _ _ _ hi]
    by_cases hk : k = i
    · subst hk
      rw [Array.getElem?_setIfInBounds_self_of_lt (by rw [fillA_size]; exact h), if_pos (by omega)]
    · rw [Array.getElem?_setIfInBounds_ne hk, fillA_get _ _ _ _ _ hi]
      by_cases h1 : i < k
      · rw [if_pos h1, if_pos (by omega)]
      · rw [if_neg h1, if_neg (by omega)]
  · rw [Array.getElem?_eq_none (by rw [Array.size_setIfInBounds, fillA_size]; omega), Array.getElem?_eq_none (by rw [fillA_size]; omega)]
theorem fillA_zero (n : Nat) (f : Nat → Value) (z : Value) : fillA n f z 0 = Array.replicate n z := by
  apply Array.ext_getElem?
  intro i
  by_cases hi : i < n
  · rw [fillA_get _ _ _ _ _ hi, if_neg (by omega)]; simp [hi]
  · rw [Array.getElem?_eq_none (by rw [fillA_size]; omega), Array.getElem?_eq_none (by simp; omega)]
theorem fillA_strV (n : Nat) (l : List UInt8) (hl : l.length = n) (z : Value) : fillA n (fun i => .int .u8 (l.getD i 0).toNat) z n = (strV l).toArray := by
  apply Array.ext_getElem?
  intro i
  by_cases hi : i < n
  · rw [fillA_lo _ _ _ _ _ hi hi, List.getElem?_toArray, strV_get (by omega)]
  · rw [Array.getElem?_eq_none (by rw [fillA_size]; omega), Array.getElem?_eq_none (by simp [strV]; omega)]

/-- a table of n values -/
def tab (n : Nat) (f : Nat → Value) : Array Value := Array.ofFn (n := n) fun i => f i.val
theorem tab_size (n : Nat) (f : Nat → Value) : (tab n f).size = n := by simp [tab]
theorem tab_get (n : Nat) (f : Nat → Value) (i : Nat) (h : i < n) : (tab n f)[i]? = some (f i) := by simp [tab, h]
theorem tab_get0 (n : Nat) (f : Nat → Value) (i : Nat) (h : i < n) : (tab n f)[0 + i]? = some (f i) := by rw [Nat.zero_add]; exact tab_get n f i h
theorem tab_set (n : Nat) (f g : Nat → Value) (k : Nat) (v : Value) (hv : g k = v) (h : ∀ i, i < n → i ≠ k → f i = g i) : (tab n f).setIfInBounds k v = tab n g := by
  apply Array.ext_getElem?
  intro i
  by_cases hi : i < n
  · rw [tab_get _ _ _ hi]
    by_cases hk : k = i
    · subst hk
      rw [Array.getElem?_setIfInBounds_self_of_lt (by rw [tab_size]; exact hi), hv]
    · rw [Array.getElem?_setIfInBounds_ne hk, tab_get _ _ _ hi, h i hi (fun e => hk e.symm)]
  · rw [Array.getElem?_eq_none (by rw [Array.size_setIfInBounds, tab_size]; omega), Array.getElem?_eq_none (by rw [tab_size]; omega)]
theorem tab_congr (n : Nat) (f g : Nat → Value) (h : ∀ i, i < n → f i = g i) : tab n f = tab n g := by
  apply Array.ext_getElem?
  intro i
  by_cases hi : i < n
  · rw [tab_get _ _ _ hi, tab_get _ _ _ hi, h i hi]
  · rw [Array.getElem?_eq_none (by rw [tab_size]; omega), Array.getElem?_eq_none (by rw [tab_size]; omega)]
theorem tab_replicate (n : Nat) (z : Value) : tab n (fun _ => z) = Array.replicate n z := by
  apply Array.ext_getElem?
  intro i
  by_cases hi : i < n
  · rw [tab_get _ _ _ hi]; simp [hi]
  · rw [Array.getElem?_eq_none (by rw [tab_size]; omega), Array.getElem?_eq_none (by simp; omega)]
theorem tab_plain (n : Nat) (f : Nat → Value) (h : ∀ i, plainV (f i) = true) : ∀ u ∈ (tab n f).toList, plainV u = true := by
  intro u hu
  simp [tab, List.mem_ofFn] at hu
  obtain ⟨i, rfl⟩ := hu
  exact h _
theorem tab_strV (n : Nat) (f : Nat → UInt8) : tab n (fun i => .int .u8 (f i).toNat) = (strV ((List.range n).map f)).toArray := by
  apply Array.ext_getElem?
  intro i
  by_cases hi : i < n
  · rw [tab_get _ _ _ hi, List.getElem?_toArray, strV_get (by simpa using hi)]; simp [hi]
  · rw [Array.getElem?_eq_none (by rw [tab_size]; omega), Array.getElem?_eq_none (by simp [strV]; omega)]

/- ---------- equality ---------- -/
theorem cell_strV (l : List UInt8) : l.map Extern.Stop.cell = strV l := rfl
theorem PureH.eql_bytes {t e : TypeId} {i : TypeInfo} {n : Nat} {ox oy : Operand} {xs ys : List UInt8} {K : Value → Prop} (ht : P.underlying t = some (.array n e)) (he : P.underlying e = some (.int .u8)) (hi : P.info? e = some i) (h1 : i.size = 1)
    (hg : P.eqGuardType P.depth t = false) (hx : xs.length = n) (hy : ys.length = n) (hk : K (.bool (xs == ys))) :
    PureH P (do eqGuard .eql t ox oy (.agg (strV xs).toArray) (.agg (strV ys).toArray); binOp .eql t (.agg (strV xs).toArray) (.agg (strV ys).toArray)) K := by
  refine ⟨_, fun w => ?_, hk⟩
  simp only [Sem.run_bind, run_eqGuard_agg w .eql t ox oy _ _ hg, Result.andThen_ok]
  exact run_eql_bytes w t e n ht he (fun w => by rw [sizeOf_of hi, h1]) xs ys hx hy
theorem PureH.neq_bytes {t e : TypeId} {i : TypeInfo} {n : Nat} {ox oy : Operand} {xs ys : List UInt8} {K : Value → Prop} (ht : P.underlying t = some (.array n e)) (he : P.underlying e = some (.int .u8)) (hi : P.info? e = some i) (h1 : i.size = 1)
    (hg : P.eqGuardType P.depth t = false) (hx : xs.length = n) (hy : ys.length = n) (hk : K (.bool (!(xs == ys)))) :
    PureH P (do eqGuard .neq t ox oy (.agg (strV xs).toArray) (.agg (strV ys).toArray); binOp .neq t (.agg (strV xs).toArray) (.agg (strV ys).toArray)) K := by
  refine ⟨_, fun w => ?_, hk⟩
  simp only [Sem.run_bind, run_eqGuard_agg w .neq t ox oy _ _ hg, Result.andThen_ok]
  rw [run_neq_struct]
  have := run_equalIn_bytes w 9998 t e n ht he (fun w => by rw [sizeOf_of hi, h1]) xs ys hx hy
  rw [cell_strV, cell_strV] at this
  rw [this]
  rfl

end Go.Vc
/- Heaps, more: small laws. -/
namespace Go.Vc
theorem made_strV (n : Nat) : (madeCells (Value.int .u8 0).cells (n * 1)).toList = strV (List.replicate n 0) := by
  apply List.ext_getElem?
  intro j
  rw [Nat.mul_one, Array.getElem?_toList]
  simp only [madeCells, Array.getElem?_map, Array.getElem?_range, strV, List.map_replicate, List.getElem?_replicate]
  split
  · show some ((#[Value.int .u8 0])[j % 1]!) = _; rw [Nat.mod_one]; rfl
  · simp
theorem strV_set (l : List UInt8) (k : Nat) (v : Int) (h0 : 0 ≤ v) (h1 : v < 256) : (strV l).set k (.int .u8 v) = strV (l.set k (UInt8.ofNat v.toNat)) := by
  unfold strV
  rw [List.map_set]
  congr 2
  rw [UInt8.toNat_ofNat']
  omega
theorem IdxA.at1 {g o n : Nat} {i : Int} {K : Addr → Prop} (j : Nat) (hi : i = j) (hj : j < n) (hk : K ⟨g, o + j, none⟩) : IdxA (some ⟨g, o, none⟩) n 1 i K := by
  subst hi
  exact ⟨by omega, by omega, _, rfl, by rw [addk, Int.toNat_natCast, Nat.mul_one]; exact hk⟩
theorem tmod_bound (a : Int) (n : Nat) : -(n : Int) ≤ a.tmod (n + 1) ∧ a.tmod (n + 1) ≤ n := by
  have h1 := Int.tmod_lt_of_pos a (b := (n : Int) + 1) (by omega)
  have h2 := Int.tmod_lt_of_pos (-a) (b := (n : Int) + 1) (by omega)
  rw [Int.neg_tmod] at h2
  omega

theorem Own.hcell {H : Heap} {base g n cap : Nat} {e : TypeId} {size : Nat} {xs : List Value} (h : Own H base e size (some ⟨g, 0, none⟩) n cap xs) {i : Nat} {v : Value} (hv : xs[i]? = some v) : hcell H ⟨g, 0 + i, none⟩ = some v := by
  rcases h.row.out with h0 | ⟨b, o, ha, hc⟩
  · subst h0; cases hv
  · cases ha; exact hc i v hv
theorem to_string' {P : Program} {H : Heap} {s d e : TypeId} {a : Option Addr} {n c : Nat} {l : List UInt8} {K : Value → Heap → Prop} (hs : P.underlying s = some (.slice e)) (he : P.underlying e = some (.int .u8)) (hd : P.underlying d = some .string)
    (hr : Row H a (strV l)) (hn : l.length = n) (hk : K (.string ⟨l.toArray⟩) H) : SemH P (convert s d (.slice a n c)) H K := by
  subst hn; exact SemH.to_string hs he hd hr hk
theorem xor_u8 (x y : Int) : 0 ≤ bitB .u8 .xor x y ∧ bitB .u8 .xor x y < 256 := by
  have h := bounds_u8 (wf_bits .xor .u8 x y)
  have e : bitB .u8 .xor x y = bits .xor .u8 x y := rfl
  omega
theorem bytes_mk (s : ByteArray) : (⟨s.data.toList.toArray⟩ : ByteArray) = s := by cases s; simp


theorem SemH.load_cut {P : Program} {H : Heap} {t e : TypeId} {i : TypeInfo} {b o : Nat} {c cs : Array Value} {K : Value → Heap → Prop} (hb : Blk H b c e) (hT : aggB P t = some true) (hi : P.info? t = some i) (hn : o + i.size ≤ c.size)
    (he : c.extract o (o + i.size) = cs) (hk : K (.agg cs) H) : SemH P (Instr.loadAt t (.pointer (some ⟨b, o, none⟩))) H K := SemH.load_part hb hT hi hn (by rw [he]; exact hk)
theorem own_new {H : Heap} {g base : Nat} {e : TypeId} {size : Nat} (h : Blk H g #[] e) (hb : base ≤ g) : Own H base e size (some ⟨g, 0, none⟩) 0 0 [] :=
  ⟨by simp, .inr ⟨g, #[], rfl, hb, h, Nat.le_refl _, Nat.zero_le _, by simp, by simp⟩⟩
theorem PureH.build {P : Program} {t : TypeId} {parts : Array (Nat × Value)} {K : Value → Prop} (cells : Array Value) (h : P.built t parts.toList = some cells) (hk : K (.agg cells)) : PureH P (Instr.build t parts) K :=
  ⟨_, fun w => run_build w t parts cells h, hk⟩
/-- a whole variable, its cells written out -/
theorem DoH.put_all {P : Program} {H : Heap} {t e : TypeId} {i : TypeInfo} {b : Nat} {c cs : Array Value} {K : Heap → Prop} (hb : Blk H b c e) (hi : P.info? t = some i) (hn : cs.size = i.size) (hc : c.size = cs.size) (hp : cs.toList.all plainV = true)
    (hk : ∀ H', H'.size = H.size → Blk H' b cs e → But b H H' → K H') : DoH P (Instr.storeAt t (.pointer (some ⟨b, 0, none⟩)) (.agg cs)) H K := DoH.store_all hb hi hn hc (List.all_eq_true.1 hp) hk
end Go.Vc
/- A region that draws its order, walked in one order of our own, where loads that a call is not ordered with are read again behind it. -/
namespace Go.Lx
section
variable {P : Program} {ops : Array Oper}

def look : List (Nat × List Nat) → Nat → List Nat
  | [], _ => []
  | (j, l) :: r, i => match Nat.beq i j with
    | true => l
    | false => look r i
def isHeld (held : List (Nat × List Nat)) (x : Nat) : Bool := held.any fun p => p.2.contains x
theorem look_held {held : List (Nat × List Nat)} {i m : Nat} (h : m ∈ look held i) : isHeld held m = true := by
  induction held with
  | nil => simp [look] at h
  | cons p r ih =>
    obtain ⟨j, l⟩ := p
    unfold look at h
    unfold isHeld
    rw [List.any_cons, Bool.or_eq_true]
    split at h
    · exact .inl (by simpa using h)
    · exact .inr (ih h)

/-- read again, the load j tells what its slot holds -/
def ReY (P : Program) (ops : Array Oper) (j : Nat) (a : Act) (w : World) : Prop :=
  ∃ o, ops[j]? = some o ∧ ∃ u, YieldsR P ops w o u a ∧ ∀ d, o.dst = some d → a.tmps.size ≤ d ∨ a.tmps[d]? = some u

def TH (P : Program) (ops : Array Oper) (held : List (Nat × List Nat)) (K : Act → World → Prop) : List Nat → Act → World → Prop
  | [] => K
  | i :: l => step P ops i fun a w => (∀ j ∈ look held i, ReY P ops j a w) ∧ TH P ops held K l a w

/-- y does not write what the load m looks at, nor its slot -/
def halfB (ops : Array Oper) (m y : Oper) : Bool := match y.dst with
  | some d => !(m.looksAt ops).contains d && m.dst != some d
  | none => true
def ownB (ops : Array Oper) (m : Oper) : Bool := match m.dst with
  | some d => !(m.looksAt ops).contains d
  | none => true
theorem halfB_spec {m y : Oper} (h : halfB ops m y = true) : ∀ d, y.dst = some d → d ∉ m.looksAt ops ∧ m.dst ≠ some d := by
  intro d hd
  unfold halfB at h
  rw [hd] at h
  simp only [Bool.and_eq_true, Bool.not_eq_true', bne_iff_ne] at h
  refine ⟨fun hm => ?_, h.2⟩
  have := h.1
  rw [List.contains_eq_mem] at this
  simp [hm] at this
theorem ownB_spec {m : Oper} (h : ownB ops m = true) : ∀ d, m.dst = some d → d ∉ m.looksAt ops := by
  intro d hd hm
  unfold ownB at h
  rw [hd] at h
  simp [hm] at h

theorem tmps_put_ne {a : Act} {d : Option Tmp} {v : Value} {i : Nat} (h : d ≠ some i) : (a.put d v).tmps[i]? = a.tmps[i]? := by
  cases d with
  | none => rfl
  | some t =>
    simp only [Act.put]
    rw [Array.getElem?_setIfInBounds, if_neg (fun e => h (by rw [e]))]
theorem tmps_put_size {a : Act} {d : Option Tmp} {v : Value} : (a.put d v).tmps.size = a.tmps.size := by cases d <;> simp [Act.put]

theorem ReY.put {m : Nat} {om y : Oper} (hm : ops[m]? = some om) (hs : noSel om) (hh : halfB ops om y = true) {a : Act} {w : World} {v : Value} : ReY P ops m (a.put y.dst v) w ↔ ReY P ops m a w := by
  have h1 := halfB_spec hh
  have hsl : ∀ d, om.dst = some d → y.dst ≠ some d := fun d hd he => (h1 d he).2 hd
  constructor
  · rintro ⟨o, ho, u, hy, hsl'⟩
    have : o = om := Option.some.inj (ho.symm.trans hm)
    subst this
    refine ⟨o, ho, u, (yieldsR_put hs (fun d hd => (h1 d hd).1)).1 hy, fun d hd => ?_⟩
    have := hsl' d hd
    rwa [tmps_put_size, tmps_put_ne (hsl d hd)] at this
  · rintro ⟨o, ho, u, hy, hsl'⟩
    have : o = om := Option.some.inj (ho.symm.trans hm)
    subst this
    refine ⟨o, ho, u, (yieldsR_put hs (fun d hd => (h1 d hd).1)).2 hy, fun d hd => ?_⟩
    rw [tmps_put_size, tmps_put_ne (hsl d hd)]
    exact hsl' d hd

theorem put_same_slot {a : Act} {d : Option Tmp} {u v : Value} (h : ∀ t, d = some t → (a.put d v).tmps.size ≤ t ∨ (a.put d v).tmps[t]? = some u) : a.put d v = a.put d u := by
  cases d with
  | none => rfl
  | some t =>
    rcases h t rfl with h | h
    · simp only [Act.put] at h ⊢
      rw [Array.size_setIfInBounds] at h
      rw [Array.setIfInBounds_eq_of_size_le h, Array.setIfInBounds_eq_of_size_le h]
    · simp only [Act.put] at h ⊢
      have hlt : t < a.tmps.size := by
        have := (Array.getElem?_eq_some_iff.1 h).1
        rwa [Array.size_setIfInBounds] at this
      rw [Array.getElem?_setIfInBounds_self_of_lt hlt] at h
      rw [Option.some.inj h]

variable {held : List (Nat × List Nat)} {K : Act → World → Prop}

theorem pullH (pos : Nat → Nat) (hsel : ∀ (j : Nat) (o : Oper), ops[j]? = some o → noSel o) (hlook : ∀ (j : Nat) (o : Oper), ops[j]? = some o → kind P o.op ≠ 2 → look held j = [])
    {i : Nat} {oi : Oper} (hi : ops[i]? = some oi) (post : List Nat) :
    ∀ (pre : List Nat), pre.Pairwise (fun x y => pos x < pos y) →
      (∀ x ∈ pre, ∃ ox, ops[x]? = some ox ∧ (comm P ops ox oi = true ∨ (kind P ox.op = 1 ∧ kind P oi.op = 2 ∧ x ∈ look held i ∧ ox.apart ops oi = true ∧ ownB ops ox = true))) →
      (∀ x ∈ pre, ∀ m ∈ look held x, ∃ om, ops[m]? = some om ∧ halfB ops om oi = true) →
      (∀ m ∈ look held i, ∀ y ∈ pre, (pos m < pos y ∨ m ∉ pre) → ∃ om oy, ops[m]? = some om ∧ ops[y]? = some oy ∧ halfB ops om oy = true) →
      ∀ (a : Act) (w : World), TH P ops held K (pre ++ i :: post) a w → step P ops i (fun a w => (∀ m ∈ look held i, m ∉ pre → ReY P ops m a w) ∧ TH P ops held K (pre ++ post) a w) a w
  | [], _, _, _, _, a, w, h => step_mono (fun a w hk => ⟨fun m hm _ => hk.1 m hm, hk.2⟩) h
  | x :: pre, hsort, hc, hx4, hx3, a, w, h => by
    obtain ⟨hxs, hsort'⟩ := List.pairwise_cons.1 hsort
    have hxn : x ∉ pre := fun hm => by have := hxs x hm; omega
    obtain ⟨ox, hox, hcx⟩ := hc x (by simp)
    have ih := pullH pos hsel hlook hi post pre hsort' (fun y hy => hc y (by simp [hy])) (fun y hy => hx4 y (by simp [hy])) (fun m hm y hy hor => hx3 m hm y (by simp [hy]) (by
      rcases hor with h | h
      · exact .inl h
      · by_cases hmx : m = x
        · subst hmx; exact .inl (hxs y hy)
        · exact .inr (by simp [hmx, h])))
    have h' : step P ops x (fun a w => (∀ m ∈ look held x, ReY P ops m a w) ∧ step P ops i (fun a w => (∀ m ∈ look held i, m ∉ pre → ReY P ops m a w) ∧ TH P ops held K (pre ++ post) a w) a w) a w :=
      step_mono (fun a w hk => ⟨hk.1, ih a w hk.2⟩) h
    clear h ih
    -- what is known of the loads held by i goes back over a put of x
    have back : ∀ (a1 : Act) (w1 : World) (v : Value), (∀ m ∈ look held i, m ∉ pre → ReY P ops m (a1.put ox.dst v) w1) → ∀ m ∈ look held i, m ∉ x :: pre → ReY P ops m a1 w1 := by
      intro a1 w1 v hC m hm hn
      obtain ⟨om, oy, hom, hoy, hh⟩ := hx3 m hm x (by simp) (.inr hn)
      have : oy = ox := Option.some.inj (hoy.symm.trans hox)
      subst this
      exact (ReY.put hom (hsel _ _ hom) hh).1 (hC m hm fun h => hn (by simp [h]))
    rcases hcx with hcx | ⟨k1, k2, hxi, hap, hown⟩
    · by_cases kx : kind P ox.op = 2
      · have ki : kind P oi.op = 0 := by
          simp only [comm, Bool.and_eq_true, Bool.or_eq_true, beq_iff_eq] at hcx
          omega
        have hli := hlook i oi hi (by omega)
        have h2 : step P ops x (step P ops i (fun a w => (∀ m ∈ look held x, ReY P ops m a w) ∧ TH P ops held K (pre ++ post) a w)) a w := by
          refine step_mono (fun a1 w1 hk => ?_) h'
          obtain ⟨hC, hk⟩ := hk
          unfold step at hk ⊢
          simp only [hi, ki, if_true] at hk ⊢
          obtain ⟨v, hy, hk⟩ := hk
          refine ⟨v, hy, fun m hm => ?_, hk.2⟩
          obtain ⟨om, hom, hh⟩ := hx4 x (by simp) m hm
          exact (ReY.put hom (hsel _ _ hom) hh).2 (hC m hm)
        refine step_mono (fun a1 w1 hk => ⟨fun m hm => ?_, hk⟩) (swap hox hi (hsel _ _ hox) (hsel _ _ hi) hcx h2)
        rw [hli] at hm; cases hm
      · have hlx := hlook x ox hox kx
        have h2 : step P ops x (step P ops i (fun a w => (∀ m ∈ look held i, m ∉ pre → ReY P ops m a w) ∧ TH P ops held K (pre ++ post) a w)) a w := step_mono (fun _ _ hk => hk.2) h'
        refine step_mono (fun a1 w1 hk => ?_) (swap hox hi (hsel _ _ hox) (hsel _ _ hi) hcx h2)
        have triv : ∀ a w, ∀ m ∈ look held x, ReY P ops m a w := fun a w m hm => by rw [hlx] at hm; cases hm
        refine ⟨?_, step_mono (fun a w hk => ⟨triv a w, hk.2⟩) hk⟩
        have k01 : kind P ox.op = 0 ∨ kind P ox.op = 1 := by
          have : kind P ox.op ≤ 2 := by
            unfold kind
            repeat' split
            all_goals omega
          omega
        unfold step at hk
        simp only [hox] at hk
        rcases k01 with k0 | k1
        · simp only [k0, if_true] at hk
          obtain ⟨v, _, hk⟩ := hk
          exact back a1 w1 v hk.1
        · simp only [k1, if_true, Nat.one_ne_zero, if_false] at hk
          obtain ⟨v, _, hk⟩ := hk
          exact back a1 w1 v hk.1
    · obtain ⟨h1, h2, h3⟩ := Oper.apart_spec hap
      have hlx := hlook x ox hox (by omega)
      have triv : ∀ a w, ∀ m ∈ look held x, ReY P ops m a w := fun a w m hm => by rw [hlx] at hm; cases hm
      have hsx := hsel _ _ hox
      have hsi := hsel _ _ hi
      unfold step at h'
      simp only [hox, k1, Nat.one_ne_zero, if_false, if_true] at h'
      obtain ⟨v, hy, _, h'⟩ := h'
      -- behind i the load is read again
      have fin : ∀ (a1 : Act) (w1 : World), (∀ m ∈ look held i, m ∉ pre → ReY P ops m (a1.put ox.dst v) w1) ∧ TH P ops held K (pre ++ post) (a1.put ox.dst v) w1 →
          (∀ m ∈ look held i, m ∉ x :: pre → ReY P ops m a1 w1) ∧ TH P ops held K (x :: (pre ++ post)) a1 w1 := by
        intro a1 w1 ⟨hC, hT⟩
        refine ⟨back a1 w1 v hC, ?_⟩
        obtain ⟨o, ho, u, hyu, hsl⟩ := hC x hxi hxn
        have : o = ox := Option.some.inj (ho.symm.trans hox)
        subst this
        have heq := put_same_slot hsl
        show step P ops x _ a1 w1
        unfold step
        simp only [hox, k1, Nat.one_ne_zero, if_false, if_true]
        refine ⟨u, (yieldsR_put hsx (ownB_spec hown)).1 hyu, triv _ _, ?_⟩
        rw [← heq]
        exact hT
      unfold step
      have k20 : (kind P oi.op = 0) = False := by simp [k2]
      have k21 : (kind P oi.op = 1) = False := by simp [k2]
      simp only [hi, k20, k21, if_false] at h' ⊢
      rw [wanted_put oi a ox.dst v h1] at h'
      split
      · rename_i hw
        rw [if_pos hw, wp_put hsi h1 h2] at h'
        exact Oper.wp_mono (fun a1 w1 hk => fin a1 w1 hk) h'
      · rename_i hw
        rw [if_neg hw] at h'
        refine fin _ _ ?_
        rw [← Act.put_comm a v undef h2]
        exact h'

/- ---------- the check ---------- -/
def sortedB (pos : Nat → Nat) : List Nat → Bool
  | [] => true
  | x :: l => l.all (fun y => decide (pos x < pos y)) && sortedB pos l
theorem sortedB_spec {pos : Nat → Nat} : ∀ {l : List Nat}, sortedB pos l = true → l.Pairwise fun x y => pos x < pos y
  | [], _ => List.Pairwise.nil
  | x :: l, h => by
    simp only [sortedB, Bool.and_eq_true, List.all_eq_true, decide_eq_true_eq] at h
    exact List.pairwise_cons.2 ⟨h.1, sortedB_spec h.2⟩
def posOf (π : List Nat) (i : Nat) : Nat := π.idxOf i
/-- is x ordered ahead of y, looked for along the order π -/
def heldOk (P : Program) (ops : Array Oper) (π : List Nat) (held : List (Nat × List Nat)) : Bool :=
  Region.noSelect ops && decide (π.length = ops.size) && sortedB (posOf π) π && π.all (fun j => decide (j < ops.size)) && (List.range ops.size).all (fun j => π.contains j) &&
  (List.range ops.size).all fun y => match ops[y]? with
    | none => false
    | some oy =>
      oy.after.all (fun e => !Region.binds .any e || (decide (posOf π e.on < posOf π y) && decide (e.on < ops.size))) &&
      (kind P oy.op == 2 || (look held y).isEmpty) &&
      (look held y).all (fun m => decide (posOf π m < posOf π y)) &&
      (List.range ops.size).all fun x => !decide (posOf π x < posOf π y) || match ops[x]? with
        | none => false
        | some ox =>
          (comm P ops ox oy || ancC (clo ops π []) y x || (kind P ox.op == 1 && kind P oy.op == 2 && (look held y).contains x && ox.apart ops oy && ownB ops ox)) &&
          (!isHeld held x || halfB ops ox oy) && (!isHeld held y || (ancC (clo ops π []) y x || halfB ops oy ox))

theorem heldOk_spec {π : List Nat} (h : heldOk P ops π held = true) : Region.noSelect ops = true ∧ π.length = ops.size ∧ π.Pairwise (fun x y => posOf π x < posOf π y) ∧ (∀ j ∈ π, j < ops.size) ∧ (∀ j, j < ops.size → j ∈ π) ∧
    ∀ y oy, ops[y]? = some oy → (∀ e ∈ oy.after, Region.binds .any e = true → posOf π e.on < posOf π y ∧ e.on < ops.size) ∧ (kind P oy.op ≠ 2 → look held y = []) ∧ (∀ m ∈ look held y, posOf π m < posOf π y) ∧
      ∀ x, x < ops.size → posOf π x < posOf π y → ∃ ox, ops[x]? = some ox ∧
        (comm P ops ox oy = true ∨ ancC (clo ops π []) y x = true ∨ (kind P ox.op = 1 ∧ kind P oy.op = 2 ∧ x ∈ look held y ∧ ox.apart ops oy = true ∧ ownB ops ox = true)) ∧
        (isHeld held x = true → halfB ops ox oy = true) ∧ (isHeld held y = true → ancC (clo ops π []) y x = true ∨ halfB ops oy ox = true) := by
  simp only [heldOk, Bool.and_eq_true, List.all_eq_true, List.mem_range, decide_eq_true_eq] at h
  obtain ⟨⟨⟨⟨⟨h1, h2⟩, h3⟩, h4⟩, h5⟩, h6⟩ := h
  refine ⟨h1, h2, sortedB_spec h3, h4, fun j hj => by simpa using h5 j hj, fun y oy hy => ?_⟩
  have hlt : y < ops.size := (Array.getElem?_eq_some_iff.1 hy).1
  have h7 := h6 y hlt
  simp only [hy, Bool.and_eq_true, List.all_eq_true, List.mem_range, Array.all_eq_true_iff_forall_mem, decide_eq_true_eq] at h7
  obtain ⟨⟨⟨ha, hb⟩, hc⟩, hd⟩ := h7
  refine ⟨fun e he hbd => ?_, fun hk => ?_, hc, fun x hx hp => ?_⟩
  · have := ha e he
    simp [hbd] at this
    exact this
  · simp only [Bool.or_eq_true, beq_iff_eq, List.isEmpty_iff] at hb
    exact hb.resolve_left hk
  · have := hd x hx
    simp only [hp, decide_true, Bool.not_true, Bool.false_or] at this
    cases hox : ops[x]? with
    | none => simp [hox] at this
    | some ox =>
      simp only [hox, Bool.and_eq_true, Bool.or_eq_true, beq_iff_eq, Bool.not_eq_true'] at this
      obtain ⟨⟨q1, q2⟩, q3⟩ := this
      refine ⟨ox, rfl, ?_, fun hh => ?_, fun hh => ?_⟩
      · rcases q1 with (q | q) | ⟨⟨⟨⟨q, q'⟩, q''⟩, q3⟩, q4⟩
        · exact .inl q
        · exact .inr (.inl q)
        · exact .inr (.inr ⟨q, q', by simpa using q'', q3, q4⟩)
      · exact q2.resolve_left (by simp [hh])
      · exact q3.resolve_left (by simp [hh])

structure InvH (ops : Array Oper) (pos : Nat → Nat) (l : List Nat) (listed : Array Bool) : Prop where
  sorted : l.Pairwise fun x y => pos x < pos y
  inside : ∀ j ∈ l, j < ops.size
  mem : ∀ j, j < ops.size → (listed.getD j true = false ↔ j ∈ l)
  size : listed.size = ops.size
  closed : ∀ j oj, ops[j]? = some oj → listed.getD j false = true → ∀ e ∈ oj.after, Region.binds .any e = true → listed.getD e.on false = true

theorem wpAny_of_TH {Q : Exit → Act → World → Prop} {π : List Nat} (hB : heldOk P ops π held = true) (hK : ∀ a w, K a w → Q .normal a w) : ∀ (n : Nat) (l : List Nat) (listed : Array Bool) (a : Act) (w : World), l.length = n → InvH ops (posOf π) l listed → TH P ops held K l a w →
    wpAny P .any ops Q n listed a w := by
  obtain ⟨hsel, -, -, -, -, hspec⟩ := heldOk_spec hB
  have hns : ∀ (j : Nat) (o : Oper), ops[j]? = some o → noSel o := fun j o ho cs b => Region.noSelect_spec hsel j o cs b ho
  intro n
  induction n with
  | zero =>
    intro l listed a w hn inv h
    have : l = [] := by simpa using hn
    subst this
    refine ⟨?_, hK _ _ h⟩
    apply List.eq_nil_iff_forall_not_mem.2
    intro j hj
    obtain ⟨hun, o, ho, _⟩ := mem_ready.1 hj
    have := (inv.mem j (Array.getElem?_eq_some_iff.1 ho).1).1 hun
    cases this
  | succ n ih =>
    intro l listed a w hn inv h
    have unlisted : ∀ j, listed.getD j true = false → listed.getD j false = true → False := by
      intro j h1 h2
      rcases Nat.lt_or_ge j listed.size with h' | h'
      · simp [h'] at h1 h2; rw [h1] at h2; cases h2
      · simp [Array.getElem?_eq_none h'] at h1
    refine ⟨fun hr => ?_, fun i hi => ?_⟩
    · exfalso
      match l, hn with
      | i0 :: l', _ =>
        have hlt := inv.inside i0 (by simp)
        have : i0 ∈ Region.ready .any ops listed := by
          refine mem_ready.2 ⟨(inv.mem i0 hlt).2 (by simp), ops[i0], by simp [hlt], fun e he hb => ?_⟩
          obtain ⟨hlt2, hsz2⟩ := (hspec i0 _ (by simp [hlt])).1 e he hb
          have hnot : e.on ∉ i0 :: l' := by
            intro hm
            rcases List.mem_cons.1 hm with h | h
            · rw [h] at hlt2; omega
            · have := (List.pairwise_cons.1 inv.sorted).1 _ h; omega
          have hsz : e.on < listed.size := by rw [inv.size]; omega
          have hnf : ¬ listed.getD e.on true = false := fun hf => hnot ((inv.mem _ (by omega)).1 hf)
          simp [hsz] at hnf ⊢
          exact hnf
        rw [hr] at this
        cases this
    · obtain ⟨hun, oi, hoi, hall⟩ := mem_ready.1 hi
      have hlt := (Array.getElem?_eq_some_iff.1 hoi).1
      have hmem := (inv.mem i hlt).1 hun
      obtain ⟨pre, post, rfl⟩ := List.append_of_mem hmem
      have hp := inv.sorted
      rw [List.pairwise_append] at hp
      have hpre : ∀ x ∈ pre, posOf π x < posOf π i := fun x hx => hp.2.2 x hx i (by simp)
      have noanc : ∀ x ∈ pre, ∀ (y : Nat) (oy : Oper), ops[y]? = some oy → (listed.getD y false = true ∨ y = i) → ancC (clo ops π []) y x = true → False := by
        intro x hx y oy hy hly hanc
        have hlx : listed.getD x false = true := by
          rcases hly with hly | rfl
          · exact ancC_listed inv.closed _ y x oy hy (inv.closed y oy hy hly) hanc
          · have := Option.some.inj (hoi.symm.trans hy); subst this
            exact ancC_listed inv.closed _ y x oi hoi hall hanc
        exact unlisted x ((inv.mem x (inv.inside x (by simp [hx]))).2 (by simp [hx])) hlx
      have hpull := pullH (K := K) (posOf π) hns (fun j o ho hk => (hspec j o ho).2.1 hk) hoi post pre hp.1 (fun x hx => ?_) (fun x hx m hm => ?_) (fun m hm y hy hor => ?_) a w h
      · refine wpOp_of_step (step_mono (fun a' w' hk => ih (pre ++ post) _ a' w' (by simp at hn ⊢; omega) ?_ hk.2) hpull)
        refine ⟨?_, fun j hj => inv.inside j (by simp at hj ⊢; rcases hj with h | h <;> simp [h]), fun j hj => ?_, by simp [inv.size], fun j oj hoj hl e he hb => ?_⟩
        · rw [List.pairwise_append]
          exact ⟨hp.1, (List.pairwise_cons.1 hp.2.1).2, fun x hx y hy => hp.2.2 x hx y (by simp [hy])⟩
        · by_cases hij : i = j
          · subst hij
            have hnd : i ∉ pre ++ post := by
              intro hm
              rcases List.mem_append.1 hm with h | h
              · have := hpre _ h; omega
              · have := (List.pairwise_cons.1 hp.2.1).1 _ h; omega
            have hsz : i < listed.size := by rw [inv.size]; exact hlt
            simp only [hnd, iff_false]
            simp [hsz]
          · rw [getD_set_ne true hij, inv.mem j hj]
            simp
            constructor
            · rintro (h | h | h)
              · exact .inl h
              · exact absurd h.symm hij
              · exact .inr h
            · rintro (h | h)
              · exact .inl h
              · exact .inr (.inr h)
        · by_cases hij : i = j
          · subst hij
            have : oj = oi := Option.some.inj (hoj.symm.trans hoi)
            subst this
            exact getD_set_true (hall e he hb)
          · rw [getD_set_ne false hij] at hl
            exact getD_set_true (inv.closed j oj hoj hl e he hb)
      · obtain ⟨ox, hox, hc, _⟩ := (hspec i oi hoi).2.2.2 x (inv.inside x (by simp [hx])) (hpre x hx)
        refine ⟨ox, hox, ?_⟩
        rcases hc with hc | hc | hc
        · exact .inl hc
        · exact (noanc x hx i oi hoi (.inr rfl) hc).elim
        · exact .inr hc
      · have hxl := inv.inside x (by simp [hx])
        obtain ⟨_, _, hmp, _⟩ := hspec x ops[x] (by simp [hxl])
        have hpm := hmp m hm
        have hpi := hpre x hx
        by_cases hml : m < ops.size
        · obtain ⟨om, hom, _, hh, _⟩ := (hspec i oi hoi).2.2.2 m hml (by omega)
          exact ⟨om, hom, hh (look_held hm)⟩
        · exfalso
          have hn : m ∉ π := fun h => hml ((heldOk_spec hB).2.2.2.1 m h)
          have h1 : posOf π m = π.length := List.idxOf_eq_length hn
          have h2 : posOf π x ≤ π.length := List.idxOf_le_length
          omega
      · have hyl := inv.inside y (by simp [hy])
        have hpm := (hspec i oi hoi).2.2.1 m hm
        have hml : m < ops.size := by
          rcases Nat.lt_or_ge m ops.size with h | h
          · exact h
          · exfalso
            have hn : m ∉ π := fun h' => by have := (heldOk_spec hB).2.2.2.1 m h'; omega
            have h1 : posOf π m = π.length := List.idxOf_eq_length hn
            have h2 : posOf π i ≤ π.length := List.idxOf_le_length
            omega
        by_cases hlt3 : posOf π m < posOf π y
        · obtain ⟨om, hom, _, hh, _⟩ := (hspec y ops[y] (by simp [hyl])).2.2.2 m hml hlt3
          exact ⟨om, ops[y], hom, by simp [hyl], hh (look_held hm)⟩
        · have hnp : m ∉ pre := hor.resolve_left hlt3
          have hne : m ≠ y := fun e => hnp (e ▸ hy)
          have hyp : posOf π y < posOf π m := by
            have hym : y ∈ π := (heldOk_spec hB).2.2.2.2.1 y hyl
            have hmm : m ∈ π := (heldOk_spec hB).2.2.2.2.1 m hml
            have hneq : posOf π y ≠ posOf π m := fun e => by
              have h1 : π[posOf π y]? = some y := by unfold posOf; rw [List.getElem?_eq_getElem (List.idxOf_lt_length_of_mem hym), List.getElem_idxOf]
              have h2 : π[posOf π m]? = some m := by unfold posOf; rw [List.getElem?_eq_getElem (List.idxOf_lt_length_of_mem hmm), List.getElem_idxOf]
              rw [e] at h1
              exact hne (Option.some.inj (h2.symm.trans h1))
            omega
          obtain ⟨oy, hoy, _, _, hh⟩ := (hspec m ops[m] (by simp [hml])).2.2.2 y hyl hyp
          rcases hh (look_held hm) with hh | hh
          · exfalso
            have hmi : m ≠ i := fun e => by rw [e] at hpm; omega
            have hmpost : m ∉ post := fun hmp => by have := (List.pairwise_cons.1 hp.2.1).1 m hmp; omega
            have hlm : listed.getD m false = true := by
              have hsz : m < listed.size := by rw [inv.size]; exact hml
              have : ¬ listed.getD m true = false := fun hf => by
                have := (inv.mem m hml).1 hf
                simp [hnp, hmi, hmpost] at this
              simp [hsz] at this ⊢
              exact this
            exact noanc y hy m ops[m] (by simp [hml]) (.inl hlm) hh
          · exact ⟨ops[m], oy, by simp [hml], hoy, hh⟩

end
end Go.Lx
/- Regions that draw their order, walked in an order of our own. -/
namespace Go.Vc
open Go.Lx

/-- read again, the cell holds what it held -/
structure StillH (P : Program) (t : TypeId) (vx v : Value) (H : Heap) (k : Prop) : Prop where
  now : SemH P (Instr.loadAt t vx) H fun u _ => u = v
  rest : k

def vcStill (P : Program) (ops : List Oper) (env : Env) (H : Heap) (k : Prop) : List Nat → Prop
  | [] => k
  | j :: js => match nth ops j with
    | some o => match wants ops env o with
      | some true => match o.op with
        | .load t x => match ev env x with
          | some vx => match o.dst with
            | some d => match get env d with
              | some v => StillH P t vx v H (vcStill P ops env H k js)
              | none => False
            | none => False
          | none => False
        | _ => False
      | some false => match o.dst with
        | some d => NeedH (get env d = some undef) (vcStill P ops env H k js)
        | none => vcStill P ops env H k js
      | none => False
    | none => False

/-- what is read again, one load at a time (a head of its own: the kernel must not run through vcStill) -/
structure StillsH (P : Program) (ops : List Oper) (env : Env) (H : Heap) (k : Prop) (js : List Nat) : Prop where
  out : vcStill P ops env H k js
def vcHold (P : Program) (ops : List Oper) (env : Env) (H : Heap) (k : Prop) (js : List Nat) : Prop :=
  match js with
  | [] => k
  | j :: l => StillsH P ops env H k (j :: l)
theorem vcHold_out {P : Program} {ops : List Oper} {env : Env} {H : Heap} {k : Prop} {js : List Nat} (h : vcHold P ops env H k js) : vcStill P ops env H k js := by
  cases js with
  | nil => exact h
  | cons j l => exact h.out
theorem StillsH.nil {P : Program} {ops : List Oper} {env : Env} {H : Heap} {k : Prop} (h : k) : StillsH P ops env H k [] := ⟨h⟩
theorem StillsH.load {P : Program} {ops : List Oper} {env : Env} {H : Heap} {k : Prop} {js : List Nat} {j : Nat} {o : Oper} {t : TypeId} {x : Operand} {vx v : Value} {d : Nat} (hj : nth ops j = some o) (hw : wants ops env o = some true) (ho : o.op = .load t x) (hx : ev env x = some vx) (hd : o.dst = some d) (hv : get env d = some v)
    (now : SemH P (Instr.loadAt t vx) H fun u _ => u = v) (rest : StillsH P ops env H k js) : StillsH P ops env H k (j :: js) := by
  refine ⟨?_⟩
  unfold vcStill; simp only [hj, hw, ho, hx, hd, hv]; exact ⟨now, rest.out⟩
/-- a load that was not wanted -/
theorem StillsH.skip {P : Program} {ops : List Oper} {env : Env} {H : Heap} {k : Prop} {js : List Nat} {j : Nat} {o : Oper} {d : Nat} (hj : nth ops j = some o) (hw : wants ops env o = some false) (hd : o.dst = some d) (hv : get env d = some undef)
    (rest : StillsH P ops env H k js) : StillsH P ops env H k (j :: js) := by
  refine ⟨?_⟩
  unfold vcStill; simp only [hj, hw, hd]; exact ⟨hv, rest.out⟩

def vcOrd (P : Program) (ops : List Oper) (held : List (Nat × List Nat)) : List Nat → Env → Heap → (Env → Heap → Prop) → Prop
  | [], env, H, k => k env H
  | i :: l, env, H, k => match nth ops i with
    | some o => match wants ops env o with
      | some true => match o.dst with
        | some d => match isSrc ops i with
          | true => vcOp P o env H NoX fun v H' => vcSplit true v fun v => vcHold P ops ((d, v) :: env) H' (vcOrd P ops held l ((d, v) :: env) H' k) (Lx.look held i)
          | false => vcOp P o env H NoX fun v H' => vcHold P ops ((d, v) :: env) H' (vcOrd P ops held l ((d, v) :: env) H' k) (Lx.look held i)
        | none => vcOp P o env H NoX fun _ H' => vcHold P ops env H' (vcOrd P ops held l env H' k) (Lx.look held i)
      | some false => match o.dst with
        | some d => vcHold P ops ((d, undef) :: env) H (vcOrd P ops held l ((d, undef) :: env) H k) (Lx.look held i)
        | none => vcHold P ops env H (vcOrd P ops held l env H k) (Lx.look held i)
      | none => False
    | none => False

theorem vcStill_sound {P : Program} {ops : Array Oper} {env : Env} {H : Heap} {k : Prop} {a : Act} {w : World} (ha : Agrees env a) (hw : w.heap = H) : ∀ {js : List Nat}, vcStill P ops.toList env H k js → (∀ j ∈ js, ReY P ops j a w) ∧ k
  | [], h => ⟨fun j hj => (by cases hj), h⟩
  | j :: js, h => by
    unfold vcStill at h
    split at h
    · rename_i o hj
      rw [nth_eq] at hj
      have hj : ops[j]? = some o := by simpa using hj
      split at h
      · rename_i hwt
        have hwt := wants_spec hwt ha
        split at h
        · rename_i t x hop
          split at h
          · rename_i vx hvx
            split at h
            · rename_i d hd
              split at h
              · rename_i v hv
                obtain ⟨hr, hk⟩ := vcStill_sound ha hw h.rest
                refine ⟨fun m hm => ?_, hk⟩
                rcases List.mem_cons.1 hm with rfl | hm
                · obtain ⟨u, w', hrun, _, hu⟩ := h.now.out w hw
                  subst hu
                  have hx : (execOp a.eval o).run P w = .ok (.value u) w' := by
                    unfold execOp
                    simp only [hop, ha.ev hvx, Sem.run_bind, hrun, Result.andThen_ok, Sem.run_pure]
                  obtain ⟨rfl, _⟩ := readOp o (by rw [hop]; rfl) (by rw [hop]; rfl) hx
                  refine ⟨o, hj, u, .inl ⟨hwt, hx⟩, fun d' hd' => ?_⟩
                  rw [hd] at hd'; cases hd'
                  exact .inr (ha _ _ hv)
                · exact hr m hm
              · exact h.elim
            · exact h.elim
          · exact h.elim
        · exact h.elim
      · rename_i hwt
        have hwt := wants_spec hwt ha
        split at h
        · rename_i d hd
          obtain ⟨hg, h⟩ := h.out
          obtain ⟨hr, hk⟩ := vcStill_sound ha hw h
          refine ⟨fun m hm => ?_, hk⟩
          rcases List.mem_cons.1 hm with rfl | hm
          · refine ⟨o, hj, undef, .inr ⟨hwt, rfl⟩, fun d' hd' => ?_⟩
            rw [hd] at hd'; cases hd'
            exact .inr (ha _ _ hg)
          · exact hr m hm
        · rename_i hd
          obtain ⟨hr, hk⟩ := vcStill_sound ha hw h
          refine ⟨fun m hm => ?_, hk⟩
          rcases List.mem_cons.1 hm with rfl | hm
          · exact ⟨o, hj, undef, .inr ⟨hwt, rfl⟩, fun d' hd' => by rw [hd] at hd'; cases hd'⟩
          · exact hr m hm
      · exact h.elim
    · exact h.elim

theorem vcOrd_sound {P : Program} {ops : Array Oper} {held : List (Nat × List Nat)} {n : Nat} {k : Env → Heap → Prop} {w0 : World} {a0 : Act} (hfit : ∀ o ∈ ops.toList, fitsO n o = true) :
    ∀ (l : List Nat) (env : Env) (H : Heap), vcOrd P ops.toList held l env H k → ∀ (a : Act) (w : World), Agrees env a → a.defers = a0.defers → a.tmps.size = n → Same w0 w →
      (∀ i, i ∉ modsO ops.toList → a.tmps[i]? = a0.tmps[i]?) → w.heap = H → TH P ops held (Lift w0 n a0 (modsO ops.toList) k) l a w
  | [], env, H, h, a, w, ha, hd, hn, hs, hfr, hw => ⟨hd, hn, hs, hfr, env, ha, hw ▸ h⟩
  | i :: l, env, H, h, a, w, ha, hd, hn, hs, hfr, hw => by
    show Lx.step P ops i (fun a w => (∀ j ∈ Lx.look held i, ReY P ops j a w) ∧ TH P ops held _ l a w) a w
    unfold vcOrd at h
    split at h
    · rename_i o ho
      rw [nth_eq] at ho
      have ho : ops[i]? = some o := by simpa using ho
      have hmem : o ∈ ops.toList := by
        have := Array.mem_of_getElem? ho
        simpa using this
      have hf := hfit o hmem
      have hm : ∀ t, o.dst = some t → t ∈ modsO ops.toList := fun t ht => modsO_mem hmem ht
      split at h
      · rename_i hwt
        have hwt := wants_spec hwt ha
        have h : vcOp P o env H NoX fun v H' => vcSplit (isSrc ops.toList i && o.dst.isSome) v fun v => vcHold P ops.toList (putE env o.dst v) H' (vcOrd P ops.toList held l (putE env o.dst v) H' k) (Lx.look held i) := by
          cases hd : o.dst with
          | none => simp only [hd] at h; simpa [vcSplit, putE] using h
          | some d =>
            simp only [hd] at h
            cases hs : isSrc ops.toList i
            · simp only [hs] at h; simpa [vcSplit, putE] using h
            · simp only [hs] at h; simpa [putE] using h
        refine step_of_comes ho hwt (vcOp_sound h ha hw) ?_
        intro v w' hsame hk
        have hk := vcSplit_sound hk
        have ha' := ha.putE hn hf v
        obtain ⟨h1, h2⟩ := vcStill_sound ha' rfl (vcHold_out hk)
        exact ⟨h1, vcOrd_sound hfit l _ _ h2 _ _ ha' (by rw [put_defers']; exact hd) (by rw [put_size]; exact hn) (hs.trans hsame) (put_frame hfr hm v) rfl⟩
      · rename_i hwt
        have hwt := wants_spec hwt ha
        have h : vcHold P ops.toList (putE env o.dst undef) H (vcOrd P ops.toList held l (putE env o.dst undef) H k) (Lx.look held i) := by
          cases hd : o.dst with
          | none => simp only [hd] at h; simpa [putE] using h
          | some d => simp only [hd] at h; simpa [putE] using h
        have ha' := ha.putE hn hf undef
        obtain ⟨h1, h2⟩ := vcStill_sound ha' hw (vcHold_out h)
        have hrest := vcOrd_sound hfit l _ _ h2 _ _ ha' (by rw [put_defers']; exact hd) (by rw [put_size]; exact hn) hs (put_frame hfr hm undef) hw
        unfold Lx.step
        simp only [ho, hwt, Bool.false_eq_true, if_false]
        split
        · exact ⟨_, .inr ⟨hwt, rfl⟩, h1, hrest⟩
        · split
          · exact ⟨_, .inr ⟨hwt, rfl⟩, h1, hrest⟩
          · exact ⟨h1, hrest⟩
      · exact h.elim
    · exact h.elim

/-- A REGION THAT DRAWS ITS ORDER, walked in the order π: what the loads tell that others are not ordered with is read again behind these. -/
theorem DrawH.held {P : Program} {n id : Nat} {ops : Array Oper} {env : Env} {H : Heap} {k : Env → Heap → Prop} (π : List Nat) (held : List (Nat × List Nat)) (hm : P.follows .mixedOrders = true) (hB : heldOk P ops π held = true)
    (h : vcOrd P ops.toList held π env H k) : DrawH P n id ops env H k := by
  refine ⟨fun hf => ⟨fun w0 a w ha hd hn hs hw => wp_region_any hm ?_⟩⟩
  have hf : ∀ o ∈ ops.toList, fitsO n o = true := List.all_eq_true.1 hf
  have hT := vcOrd_sound (a0 := a) (w0 := w0) hf π env H h a { w with drawn := w.drawn + 1 } ha hd hn (hs.trans ⟨rfl, rfl, rfl⟩) (fun _ _ => rfl) hw
  obtain ⟨_, hlen, hsort, hin, hall, _⟩ := heldOk_spec hB
  refine wpAny_of_TH hB (Q := LiftQ w0 n a (mods (.region id ops true)) fun e env H => e = .normal ∧ k env H) (fun a w h => Lift.mono h fun _ _ h => ⟨rfl, h⟩) ops.size π (Array.replicate ops.size false) a _ hlen ?_ hT
  refine ⟨hsort, hin, fun j hj => ?_, by simp, fun j oj hoj hl => ?_⟩
  · have := hall j hj
    simp [hj, this]
  · exfalso
    rw [getD_replicate] at hl
    cases hl
end Go.Vc
/- Regions that draw their order, told apart by which of two operations comes first. -/
namespace Go.Vc
open Go.Lx

/-- one edge more: y behind x -/
def addE1 (ops : Array Oper) (x y : Nat) : Array Oper := ops.modify y fun o => { o with after := o.after.push { on := x, ground := .data } }
def addE (ops : Array Oper) : List (Nat × Nat) → Array Oper
  | [] => ops
  | e :: es => addE1 (addE ops es) e.1 e.2

inductive Lin (ops : Array Oper) : Nat → Array Bool → List Nat → Prop
  | stop {listed : Array Bool} : Lin ops 0 listed []
  | done {n : Nat} {listed : Array Bool} (h : Region.ready .any ops listed = []) : Lin ops (n + 1) listed []
  | step {n : Nat} {listed : Array Bool} {i : Nat} {l : List Nat} (h : i ∈ Region.ready .any ops listed) (hl : Lin ops n (listed.setIfInBounds i true) l) : Lin ops (n + 1) listed (i :: l)

theorem go_lin (ops : Array Oper) : ∀ (fuel t : Nat) (listed : Array Bool), Lin ops fuel listed (Region.linearise.go .any ops fuel t listed [])
  | 0, t, listed => by simp only [Region.linearise.go, List.reverse_nil]; exact .stop
  | fuel + 1, t, listed => by
    simp only [Region.linearise.go]
    change Lin ops (fuel + 1) listed (match (Region.ready .any ops listed)[t % (Region.ready .any ops listed).length]? with
      | some i => Region.linearise.go .any ops fuel (t / (Region.ready .any ops listed).length) (listed.setIfInBounds i true) [i]
      | none => [].reverse)
    cases hi : (Region.ready .any ops listed)[t % (Region.ready .any ops listed).length]? with
    | none =>
      have hnil : Region.ready .any ops listed = [] := by
        cases hr : Region.ready .any ops listed with
        | nil => rfl
        | cons x xs =>
          rw [hr] at hi
          have hlt : t % (x :: xs).length < (x :: xs).length := Nat.mod_lt _ (by simp)
          rw [List.getElem?_eq_none_iff] at hi
          omega
      exact .done hnil
    | some i =>
      dsimp only
      rw [linearise_go_acc, List.reverse_singleton, List.singleton_append]
      exact .step (List.mem_of_getElem? hi) (go_lin ops fuel _ _)

theorem wpOps_of_any {P : Program} {ops : Array Oper} {Q : Exit → Act → World → Prop} {n : Nat} {listed : Array Bool} {l : List Nat} (hl : Lin ops n listed l) : ∀ {a : Act} {w : World}, wpAny P .any ops Q n listed a w → wpOps P ops Q l a w := by
  induction hl with
  | stop => intro a w h; exact h.2
  | done hr => intro a w h; exact h.1 hr
  | step hi _ ih => intro a w h; rw [wpOps_cons]; exact wpOp_mono (fun a w h => ih h) (h.2 _ hi)

theorem addE1_get {ops : Array Oper} {x y j : Nat} : (addE1 ops x y)[j]? = if y = j then (ops[j]?).map fun o => { o with after := o.after.push { on := x, ground := .data } } else ops[j]? := by
  unfold addE1
  rw [Array.getElem?_modify]
theorem ready_addE1 {ops : Array Oper} {x y j : Nat} {listed : Array Bool} (h : j ∈ Region.ready .any (addE1 ops x y) listed) : j ∈ Region.ready .any ops listed := by
  rw [mem_ready] at h ⊢
  obtain ⟨h1, o, ho, h2⟩ := h
  refine ⟨h1, ?_⟩
  rw [addE1_get] at ho
  split at ho
  · cases hj : ops[j]? with
    | none => rw [hj] at ho; cases ho
    | some o' =>
      rw [hj] at ho
      simp only [Option.map_some, Option.some.injEq] at ho
      refine ⟨o', rfl, fun e he hb => h2 e ?_ hb⟩
      rw [← ho]
      exact Array.mem_push.2 (.inl he)
  · exact ⟨o, ho, h2⟩
theorem ready_addE1_of {ops : Array Oper} {x y j : Nat} {listed : Array Bool} (h : j ∈ Region.ready .any ops listed) (hx : y ≠ j ∨ listed.getD x false = true) : j ∈ Region.ready .any (addE1 ops x y) listed := by
  rw [mem_ready] at h ⊢
  obtain ⟨h1, o, ho, h2⟩ := h
  refine ⟨h1, ?_⟩
  rw [addE1_get]
  split
  · rename_i hy
    rw [ho]
    refine ⟨_, rfl, fun e he hb => ?_⟩
    rcases Array.mem_push.1 he with he | he
    · exact h2 e he hb
    · rw [he]; exact hx.resolve_left (fun hn => hn hy)
  · exact ⟨o, ho, h2⟩
theorem lin_listed {ops : Array Oper} {x y : Nat} {n : Nat} {listed : Array Bool} {l : List Nat} (h : Lin ops n listed l) : listed.getD x false = true → Lin (addE1 ops x y) n listed l := by
  induction h with
  | stop => exact fun _ => .stop
  | done hr =>
    intro hx
    refine .done (List.eq_nil_iff_forall_not_mem.2 fun j hj => ?_)
    have := ready_addE1 hj
    rw [hr] at this; cases this
  | step hi _ ih => exact fun hx => .step (ready_addE1_of hi (.inr hx)) (ih (getD_set_true hx))
theorem unlisted_lt {listed : Array Bool} {i : Nat} (h : listed.getD i true = false) : i < listed.size := by
  rcases Nat.lt_or_ge i listed.size with h' | h'
  · exact h'
  · simp [Array.getElem?_eq_none h'] at h
theorem lin_split {ops : Array Oper} {x y : Nat} (hxy : x ≠ y) {n : Nat} {listed : Array Bool} {l : List Nat} (h : Lin ops n listed l) : listed.getD x true = false → listed.getD y true = false → Lin (addE1 ops x y) n listed l ∨ Lin (addE1 ops y x) n listed l := by
  induction h with
  | stop => exact fun _ _ => .inl .stop
  | done hr =>
    intro _ _
    refine .inl (.done (List.eq_nil_iff_forall_not_mem.2 fun j hj => ?_))
    have := ready_addE1 hj
    rw [hr] at this; cases this
  | @step n listed i l hi hl ih =>
    intro hx hy
    by_cases h1 : i = x
    · subst h1
      refine .inl (.step (ready_addE1_of hi (.inl fun e => hxy e.symm)) (lin_listed hl ?_))
      have := unlisted_lt hx
      simp [this]
    · by_cases h2 : i = y
      · subst h2
        refine .inr (.step (ready_addE1_of hi (.inl fun e => hxy e)) (lin_listed hl ?_))
        have := unlisted_lt hy
        simp [this]
      · rcases ih (by rw [getD_set_ne _ h1]; exact hx) (by rw [getD_set_ne _ h2]; exact hy) with h | h
        · exact .inl (.step (ready_addE1_of hi (.inl fun e => h2 e.symm)) h)
        · exact .inr (.step (ready_addE1_of hi (.inl fun e => h1 e.symm)) h)

/-- lists of operations that differ in their edges alone -/
structure EdgeAlike (ops ops' : Array Oper) : Prop where
  size : ops'.size = ops.size
  get : ∀ (i : Nat) (o : Oper), ops[i]? = some o → ∃ z, ops'[i]? = some { o with after := z }
theorem EdgeAlike.refl (ops : Array Oper) : EdgeAlike ops ops := ⟨rfl, fun i o h => ⟨o.after, h⟩⟩
theorem EdgeAlike.addE1 {ops ops' : Array Oper} (h : EdgeAlike ops ops') (x y : Nat) : EdgeAlike ops (addE1 ops' x y) := by
  refine ⟨by simp [Vc.addE1, h.size], fun i o ho => ?_⟩
  obtain ⟨z, hz⟩ := h.get i o ho
  rw [addE1_get, hz]
  split
  · exact ⟨_, rfl⟩
  · exact ⟨z, rfl⟩
theorem EdgeAlike.addE (ops : Array Oper) : ∀ es, EdgeAlike ops (addE ops es)
  | [] => EdgeAlike.refl ops
  | e :: es => (EdgeAlike.addE ops es).addE1 _ _
theorem EdgeAlike.yielded {ops ops' : Array Oper} (h : EdgeAlike ops ops') (tmps : Array Value) : yielded ops' tmps = yielded ops tmps := by
  funext j
  unfold Go.yielded
  cases hj : ops[j]? with
  | none =>
    have : ops'[j]? = none := by rw [Array.getElem?_eq_none_iff, h.size]; exact Array.getElem?_eq_none_iff.1 hj
    rw [this]
  | some o =>
    obtain ⟨z, hz⟩ := h.get j o hj
    rw [hz]; rfl
theorem EdgeAlike.wpOps {P : Program} {ops ops' : Array Oper} (h : EdgeAlike ops ops') {Q : Exit → Act → World → Prop} : ∀ {l : List Nat} {a : Act} {w : World}, wpOps P ops' Q l a w → Go.wpOps P ops Q l a w
  | [], a, w, hh => hh
  | i :: l, a, w, hh => by
    unfold Go.wpOps at hh ⊢
    cases hi : ops[i]? with
    | none =>
      have : ops'[i]? = none := by rw [Array.getElem?_eq_none_iff, h.size]; exact Array.getElem?_eq_none_iff.1 hi
      rw [this] at hh
      exact h.wpOps hh
    | some o =>
      obtain ⟨z, hz⟩ := h.get i o hi
      rw [hz, h.yielded] at hh
      dsimp only at hh ⊢
      have hw : Region.wanted { o with after := z } (Go.yielded ops a.tmps) = Region.wanted o (Go.yielded ops a.tmps) := rfl
      rw [hw] at hh
      split
      · rename_i hwt
        rw [if_pos hwt] at hh
        refine hh.imp (fun hh => ?_) id
        exact Oper.wp_mono (fun a w hh => h.wpOps hh) hh
      · rename_i hwt
        rw [if_neg hwt] at hh
        exact h.wpOps hh

/-- an operation without its edges -/
def bare (o : Oper) : Oper := { o with after := #[] }
theorem nth_bare : ∀ (l : List Oper) (i : Nat), nth (l.map bare) i = (nth l i).map bare
  | [], _ => rfl
  | o :: l, 0 => rfl
  | o :: l, i + 1 => nth_bare l i
theorem isSrc_bare : ∀ (l : List Oper) (i : Nat), isSrc (l.map bare) i = isSrc l i
  | [], _ => rfl
  | o :: l, i => by
    simp only [List.map_cons, isSrc, isSrc_bare l i]
    rfl
theorem wants_bare (l : List Oper) (env : Env) (o : Oper) : wants (l.map bare) env (bare o) = wants l env o := by
  obtain ⟨dst, op, type, pos, after, guard⟩ := o
  cases guard with
  | none => rfl
  | some g =>
    obtain ⟨j, want⟩ := g
    simp only [wants, bare, nth_bare]
    cases nth l j <;> rfl
theorem vcStill_bare (P : Program) (l : List Oper) (env : Env) (H : Heap) (k : Prop) : ∀ js, vcStill P (l.map bare) env H k js = vcStill P l env H k js
  | [] => rfl
  | j :: js => by
    unfold vcStill
    rw [nth_bare]
    cases nth l j with
    | none => rfl
    | some o =>
      simp only [Option.map_some, wants_bare, vcStill_bare P l env H k js]
      rfl
theorem vcHold_bare (P : Program) (l : List Oper) (env : Env) (H : Heap) (k : Prop) (js : List Nat) : vcHold P (l.map bare) env H k js ↔ vcHold P l env H k js := by
  cases js with
  | nil => exact Iff.rfl
  | cons j js => exact ⟨fun h => ⟨by rw [← vcStill_bare]; exact h.out⟩, fun h => ⟨by rw [vcStill_bare]; exact h.out⟩⟩
theorem vcOrd_bare (P : Program) (l : List Oper) (held : List (Nat × List Nat)) (k : Env → Heap → Prop) : ∀ (π : List Nat) (env : Env) (H : Heap), vcOrd P (l.map bare) held π env H k = vcOrd P l held π env H k
  | [], _, _ => rfl
  | i :: π, env, H => by
    unfold vcOrd
    rw [nth_bare]
    cases nth l i with
    | none => rfl
    | some o =>
      have e : ∀ env H, vcOrd P (l.map bare) held π env H k = vcOrd P l held π env H k := vcOrd_bare P l held k π
      have e2 : ∀ env H js, vcHold P (l.map bare) env H (vcOrd P l held π env H k) js = vcHold P l env H (vcOrd P l held π env H k) js := fun env H js => propext (vcHold_bare P l env H _ js)
      simp only [Option.map_some, wants_bare, isSrc_bare, e, e2]
      obtain ⟨dst, op, type, pos, after, guard⟩ := o
      rfl
theorem EdgeAlike.bare {ops ops' : Array Oper} (h : EdgeAlike ops ops') : ops'.toList.map Vc.bare = ops.toList.map Vc.bare := by
  apply List.ext_getElem?
  intro i
  simp only [List.getElem?_map, Array.getElem?_toList]
  cases hi : ops[i]? with
  | none =>
    have : ops'[i]? = none := by rw [Array.getElem?_eq_none_iff, h.size]; exact Array.getElem?_eq_none_iff.1 hi
    rw [this]
  | some o =>
    obtain ⟨z, hz⟩ := h.get i o hi
    rw [hz]; rfl

/-- a region that draws its order, under these edges more -/
structure DrawL (P : Program) (n : Nat) (ops : Array Oper) (es : List (Nat × Nat)) (env : Env) (H : Heap) (k : Env → Heap → Prop) : Prop where
  out : (∀ o ∈ ops.toList, fitsO n o = true) → ∀ (w0 : World) (a : Act) (w : World), Agrees env a → a.defers = a.defers → a.tmps.size = n → Same w0 w → w.heap = H → ∀ l, Lin (addE ops es) ops.size (Array.replicate ops.size false) l →
    wpOps P ops (fun e a' w' => e = .normal ∧ Lift w0 n a (modsO ops.toList) k a' w') l a w

theorem wpOps_monoQ {P : Program} {ops : Array Oper} {Q Q' : Exit → Act → World → Prop} (h : ∀ e a w, Q e a w → Q' e a w) : ∀ {l : List Nat} {a : Act} {w : World}, wpOps P ops Q l a w → wpOps P ops Q' l a w
  | [], a, w, hh => h _ _ _ hh
  | i :: l, a, w, hh => by
    unfold Go.wpOps at hh ⊢
    cases hi : ops[i]? with
    | none => rw [hi] at hh; exact wpOps_monoQ h hh
    | some o =>
      rw [hi] at hh
      dsimp only at hh ⊢
      split
      · rename_i hwt
        rw [if_pos hwt] at hh
        refine hh.imp (fun hh => ?_) fun hh => ⟨hh.1, ?_⟩
        · have := Oper.wp_mono (fun a w hh => wpOps_monoQ (Q' := Q') h hh) hh
          unfold Oper.wp at this ⊢
          generalize (execOp a.eval o).run P w = r at this
          cases r with
          | ok n w' =>
            cases n <;> simp only [Oper.upon] at this ⊢ <;> first | exact this | skip
            exact Calls.mono this fun e w'' he => by
              cases e <;> first | exact he | exact h _ _ _ he | exact (he.elim fun a h1 => h1.elim fun w h1 => ⟨a, w, h _ _ _ h1⟩)
          | halt x w' => cases x <;> first | exact this | exact h _ _ _ this
        · exact (hh.2.elim fun a h1 => h1.elim fun w h1 => ⟨a, w, h _ _ _ h1⟩)
      · rename_i hwt
        rw [if_neg hwt] at hh
        exact wpOps_monoQ h hh
theorem DrawH.lin {P : Program} {n id : Nat} {ops : Array Oper} {env : Env} {H : Heap} {k : Env → Heap → Prop} (hm : P.follows .mixedOrders = true) (h : DrawL P n ops [] env H k) : DrawH P n id ops env H k := by
  refine ⟨fun hf => ⟨fun w0 a w ha hd hn hs hw => wp_region_draw fun t => ?_⟩⟩
  have hf : ∀ o ∈ ops.toList, fitsO n o = true := List.all_eq_true.1 hf
  simp only [Region.schedule, hm, Bool.true_or, if_true]
  have := h.out hf w0 a { w with drawn := w.drawn + 1 } ha hd hn (hs.trans ⟨rfl, rfl, rfl⟩) hw _ (go_lin ops ops.size t _)
  refine wpOps_monoQ ?_ this
  rintro e a' w' ⟨he, hl⟩
  exact Lift.mono hl fun _ _ h => ⟨he, h⟩
theorem DrawL.split {P : Program} {n : Nat} {ops : Array Oper} {es : List (Nat × Nat)} {env : Env} {H : Heap} {k : Env → Heap → Prop} (x y : Nat) (hx : x < ops.size) (hy : y < ops.size) (hxy : x ≠ y) (h1 : DrawL P n ops ((x, y) :: es) env H k) (h2 : DrawL P n ops ((y, x) :: es) env H k) : DrawL P n ops es env H k := by
  refine ⟨fun hf w0 a w ha hd hn hs hw l hl => ?_⟩
  rcases lin_split hxy hl (by simp [hx]) (by simp [hy]) with h | h
  · exact h1.out hf w0 a w ha hd hn hs hw l h
  · exact h2.out hf w0 a w ha hd hn hs hw l h
theorem DrawL.held {P : Program} {n : Nat} {ops : Array Oper} {es : List (Nat × Nat)} {env : Env} {H : Heap} {k : Env → Heap → Prop} (π : List Nat) (held : List (Nat × List Nat)) (hB : heldOk P (addE ops es) π held = true)
    (h : vcOrd P ops.toList held π env H k) : DrawL P n ops es env H k := by
  have h : vcOrd P (addE ops es).toList held π env H k := by rw [← vcOrd_bare, (EdgeAlike.addE ops es).bare, vcOrd_bare]; exact h
  refine ⟨fun hf w0 a w ha hd hn hs hw l hl => (EdgeAlike.addE ops es).wpOps (wpOps_of_any hl ?_)⟩
  have hA := EdgeAlike.addE ops es
  have hf' : ∀ o ∈ (addE ops es).toList, fitsO n o = true := by
    intro o ho
    obtain ⟨i, hi, rfl⟩ := List.getElem_of_mem ho
    have hi' : i < ops.size := by rw [← hA.size]; simpa using hi
    obtain ⟨z, hz⟩ := hA.get i ops[i] (by simp [hi'])
    have : (addE ops es).toList[i] = { ops[i] with after := z } := by
      have hi2 : i < (addE ops es).size := by simpa using hi
      rw [Array.getElem?_eq_getElem hi2] at hz
      simpa using hz
    rw [this]
    exact hf ops[i] (by simp)
  have hmods : modsO (addE ops es).toList = modsO ops.toList := by
    have key : ∀ (l l' : List Oper), l'.length = l.length → (∀ (i : Nat) (o : Oper), l[i]? = some o → ∃ z, l'[i]? = some { o with after := z }) → modsO l' = modsO l := by
      intro l
      induction l with
      | nil => intro l' h _; rw [List.eq_nil_of_length_eq_zero h]
      | cons o l ih =>
        intro l' hl h
        match l', hl with
        | o' :: l', hl =>
          obtain ⟨z, hz⟩ := h 0 o rfl
          have e : o' = { o with after := z } := by simpa using hz
          have := ih l' (by simpa using hl) (fun i o ho => by simpa using h (i + 1) o (by simpa using ho))
          subst e
          simp only [modsO, this]
    exact key _ _ (by simp [hA.size]) fun i o ho => by
      have ho : ops[i]? = some o := by simpa using ho
      obtain ⟨z, hz⟩ := hA.get i o ho
      exact ⟨z, by simpa using hz⟩
  have hT := vcOrd_sound (a0 := a) (w0 := w0) hf' π env H h a w ha hd hn hs (fun _ _ => rfl) hw
  obtain ⟨_, hlen, hsort, hin, hall, _⟩ := heldOk_spec hB
  have hany := wpAny_of_TH hB (Q := fun e a' w' => e = .normal ∧ Lift w0 n a (modsO (addE ops es).toList) k a' w') (fun a w h => ⟨rfl, h⟩) (addE ops es).size π (Array.replicate (addE ops es).size false) a w hlen ?_ hT
  · rw [hA.size, hmods] at hany
    exact hany
  · refine ⟨hsort, hin, fun j hj => ?_, by simp, fun j oj hoj hl => ?_⟩
    · have := hall j hj
      simp [hj, this]
    · exfalso
      rw [getD_replicate] at hl
      cases hl
end Go.Vc
/- Walks that go by themselves: conditions told apart, facts of old heaps found again. -/
namespace Go.Vc
theorem CondH.dec {p : Prop} [Decidable p] {A B : Prop} (h1 : p → A) (h2 : ¬ p → B) : CondH (decide p) A B := ⟨fun e => h1 (of_decide_eq_true e), fun e => h2 (of_decide_eq_false e)⟩
theorem CondH.beqI {a b : Int} {A B : Prop} (h1 : a = b → A) (h2 : a ≠ b → B) : CondH (a == b) A B := ⟨fun e => h1 (by simpa using e), fun e => h2 (by simpa using e)⟩
theorem CondH.bneI {a b : Int} {A B : Prop} (h1 : a ≠ b → A) (h2 : a = b → B) : CondH (a != b) A B := ⟨fun e => h1 (by simpa using e), fun e => h2 (by simpa using e)⟩
theorem CondH.bool {b : Bool} {A B : Prop} (h1 : b = true → A) (h2 : b = false → B) : CondH b A B := ⟨h1, h2⟩
theorem SplitH.dec {p : Prop} [Decidable p] {K : Bool → Prop} (h1 : p → K true) (h2 : ¬ p → K false) : SplitH (decide p) K := ⟨fun e => h1 (of_decide_eq_true e), fun e => h2 (of_decide_eq_false e)⟩
theorem SplitH.beqI {a b : Int} {K : Bool → Prop} (h1 : a = b → K true) (h2 : a ≠ b → K false) : SplitH (a == b) K := ⟨fun e => h1 (by simpa using e), fun e => h2 (by simpa using e)⟩
theorem SplitH.bneI {a b : Int} {K : Bool → Prop} (h1 : a ≠ b → K true) (h2 : a = b → K false) : SplitH (a != b) K := ⟨fun e => h1 (by simpa using e), fun e => h2 (by simpa using e)⟩
theorem SplitH.bool {b : Bool} {K : Bool → Prop} (h1 : b = true → K true) (h2 : b = false → K false) : SplitH b K := ⟨h1, h2⟩
theorem SplitH.notT {b : Bool} {K : Bool → Prop} (hb : b = true) (h : K false) : SplitH (!b) K := SplitH.neg (by rw [hb]; rfl) h
theorem SplitH.notF {b : Bool} {K : Bool → Prop} (hb : b = false) (h : K true) : SplitH (!b) K := SplitH.pos (by rw [hb]; rfl) h
theorem SplitH.bnot {b : Bool} {K : Bool → Prop} (h1 : b = false → K true) (h2 : b = true → K false) : SplitH (!b) K := ⟨fun e => h1 (by simpa using e), fun e => h2 (by simpa using e)⟩
/-- equality of strings -/
theorem str_beq {s t : ByteArray} : (s.toList == t.toList) = decide (s = t) := by
  rw [Bool.eq_iff_iff, beq_iff_eq, decide_eq_true_eq, ByteArray.toList_eq, ByteArray.toList_eq]
  constructor
  · intro h; exact ByteArray.ext (Array.toList_inj.1 h)
  · intro h; rw [h]
theorem CondH.str {s t : ByteArray} {A B : Prop} (h1 : s = t → A) (h2 : s ≠ t → B) : CondH (s.toList == t.toList) A B := by rw [str_beq]; exact CondH.dec h1 h2
theorem SplitH.str {s t : ByteArray} {K : Bool → Prop} (h1 : s = t → K true) (h2 : s ≠ t → K false) : SplitH (s.toList == t.toList) K := by rw [str_beq]; exact SplitH.dec h1 h2
theorem str_self (s : ByteArray) : (s.toList == s.toList) = true := beq_self_eq_true _
theorem CondH.same {s : ByteArray} {A B : Prop} (h : A) : CondH (s.toList == s.toList) A B := CondH.pos (str_self s) h
theorem SplitH.same {s : ByteArray} {K : Bool → Prop} (h : K true) : SplitH (s.toList == s.toList) K := SplitH.pos (str_self s) h
theorem SplitH.nsame {s : ByteArray} {K : Bool → Prop} (h : K false) : SplitH (!(s.toList == s.toList)) K := SplitH.neg (by rw [str_self]; rfl) h
theorem CondH.eqI {a : Int} {A B : Prop} (h : A) : CondH (a == a) A B := CondH.pos (beq_self_eq_true _) h
theorem CondH.neI {a : Int} {A B : Prop} (h : B) : CondH (a != a) A B := CondH.neg (bne_self_eq_false a) h
theorem SplitH.eqI {a : Int} {K : Bool → Prop} (h : K true) : SplitH (a == a) K := SplitH.pos (beq_self_eq_true _) h
theorem SplitH.neI {a : Int} {K : Bool → Prop} (h : K false) : SplitH (a != a) K := SplitH.neg (bne_self_eq_false a) h
theorem DoH.store1' {P : Program} {H : Heap} {t e : TypeId} {i : TypeInfo} {b o : Nat} {c : Array Value} {v : Value} {K : Heap → Prop} (hb : Blk H b c e) (hi : P.info? t = some i) (hn : i.size = 1) (hp : plainV v = true) (hl : Nat.blt o c.size = true)
    (hk : ∀ H', H'.size = H.size → Blk H' b (c.setIfInBounds o v) e → But b H H' → K H') : DoH P (Instr.storeAt t (.pointer (some ⟨b, o, none⟩)) v) H K :=
  DoH.store1 hb hi hn hp (Nat.le_of_ble_eq_true hl) hk
/-- one cell, its value computed -/
theorem SemH.load_n {P : Program} {H : Heap} {t e : TypeId} {b o : Nat} {c : Array Value} {v : Value} {K : Value → Heap → Prop} (hb : Blk H b c e) (hT : aggB P t = some false) (hv : nth c.toList o = some v) (hk : K v H) : SemH P (Instr.loadAt t (.pointer (some ⟨b, o, none⟩))) H K :=
  SemH.load_at hb hT (by rw [nth_eq] at hv; simpa using hv) hk
theorem Ext.butz {A B C : Heap} {b : Nat} (h : Ext A B) (k : But b B C) (hb : A.size ≤ b) : Ext A C := h.but k hb
end Go.Vc
/- Strings as lists of bytes; slices that grow. -/
namespace Go.Vc
variable {P : Program} {H H' H0 : Heap}

abbrev Bs := List UInt8
/-- the string of these bytes -/
abbrev mkS (l : Bs) : ByteArray := ⟨l.toArray⟩
theorem mkS_size (l : Bs) : (mkS l).size = l.length := rfl
theorem mkS_data (s : ByteArray) : mkS s.data.toList = s := by cases s; simp [mkS]
theorem mkS_inj {l m : Bs} : mkS l = mkS m ↔ l = m := by
  constructor
  · intro h
    have := congrArg (fun s => s.data.toList) h
    simpa using this
  · intro h; rw [h]
theorem mkS_app (l m : Bs) : mkS l ++ mkS m = mkS (l ++ m) := by
  apply ByteArray.ext
  apply Array.ext'
  simp [mkS]
theorem mkS_ext (l : Bs) (a b : Nat) : (mkS l).extract a b = mkS ((l.drop a).take (b - a)) := by
  have h : ((mkS l).extract a b).data = l.toArray.extract a b := by simp [mkS]
  apply ByteArray.ext
  rw [h]
  apply Array.ext'
  simp [mkS, List.extract_eq_take_drop]
theorem mkS_drop (l : Bs) (k : Nat) : (mkS l).extract k (mkS l).size = mkS (l.drop k) := by
  rw [mkS_ext, mkS_size, List.take_of_length_le (by simp)]
theorem mkS_take (l : Bs) (k : Nat) : (mkS l).extract 0 k = mkS (l.take k) := by
  rw [mkS_ext, List.drop_zero, Nat.sub_zero]
def strs (l : List Bs) : List Value := l.map fun w => .string (mkS w)
theorem strs_length (l : List Bs) : (strs l).length = l.length := by simp [strs]
theorem strs_append (l m : List Bs) : strs (l ++ m) = strs l ++ strs m := by simp [strs]
theorem strs_plain (l : List Bs) : ∀ u ∈ strs l, plainV u = true := by
  intro u hu; obtain ⟨b, _, rfl⟩ := List.mem_map.1 hu; rfl
theorem strs_get {l : List Bs} {j : Nat} (h : j < l.length) : (strs l)[j]? = some (.string (mkS (l.getD j []))) := by
  simp [strs, List.getElem?_eq_getElem h, List.getD_eq_getElem?_getD]

/-- a byte of a string -/
theorem IdxH.str {s : ByteArray} {i : Int} {k : Value → Prop} (j : Nat) (c : UInt8) (hi : i = j) (hc : s.data.toList[j]? = some c) (hk : k (.int .u8 c.toNat)) : IdxH i s.size fun n => k (.int .u8 (s.data.toList.getD n 0).toNat) := by
  have hlt : j < s.size := by have := (List.getElem?_eq_some_iff.1 hc).1; simpa using this
  refine IdxH.nat j hi hlt ?_
  rw [List.getD_eq_getElem?_getD, hc]; exact hk
theorem u8_eq {c : UInt8} {n : Nat} (h : n < 256) : ((c.toNat : Int) = n) ↔ c = UInt8.ofNat n := by
  constructor
  · intro e; apply UInt8.toNat_inj.1; rw [UInt8.toNat_ofNat']; omega
  · intro e; subst e; rw [UInt8.toNat_ofNat']; omega
theorem CondH.u8 {c d : UInt8} {n : Int} {A B : Prop} (hn : n = d.toNat) (h1 : c = d → A) (h2 : c ≠ d → B) : CondH ((c.toNat : Int) == n) A B :=
  CondH.beqI (fun e => h1 (UInt8.toNat_inj.1 (by omega))) (fun e => h2 fun e' => e (by rw [e', hn]))
theorem SplitH.u8 {c d : UInt8} {n : Int} {K : Bool → Prop} (hn : n = d.toNat) (h1 : c = d → K true) (h2 : c ≠ d → K false) : SplitH ((c.toNat : Int) == n) K :=
  SplitH.beqI (fun e => h1 (UInt8.toNat_inj.1 (by omega))) (fun e => h2 fun e' => e (by rw [e', hn]))

/-- a slice that grows in blocks of the call's own -/
theorem Ext.wr {A B C : Heap} {base : Nat} {e : TypeId} {size : Nat} {a : Option Addr} {n cap : Nat} {xs : List Value} (h : Ext A B) (ho : Own B base e size a n cap xs) (hb : A.size ≤ base) (k : Wr a B C) : Ext A C :=
  Only.trans h k fun x hx ⟨p, hp, e⟩ => by have := (ho.block p hp).1; omega
theorem NextH.push {t u e ty : TypeId} {i : TypeInfo} {z : Value} {a : Option Addr} {n cap : Nat} {xs : List Value} {x : Value} {m : Nat} {news : List Value} {cb : Array Bool} {K : Value → Heap → Prop}
    (hown : Own H H0.size e i.size a n cap xs) (hx : Ext H0 H) (hsrc : Src P H x i.size m news) (ht : P.underlying t = some (.slice e)) (hu : ∃ d, P.underlying u = some d ∧ (∀ k, d ≠ .int k)) (hi : P.info? e = some i) (hz : i.zero = some z) (hzs : z.cells.size = i.size)
    (hbytes : (n + m) * i.bytes ≤ 140737488355328) (h0 : Nat.ble 1 i.bytes = true)
    (hk : ∀ a' cap' H', Own H' H0.size e i.size a' (n + m) cap' (xs ++ news) → Ext H0 H' → K (.slice a' (n + m) cap') H') :
    NextH P (builtin .append #[t, u] ty cb #[.slice a n cap, x]) H K := by
  refine NextH.append ht hu hi hz hzs hown hsrc ?_ hbytes hx.size fun a' cap' H' h1 h2 _ => hk a' cap' H' h1 (hx.wr hown (Nat.le_refl _) h2)
  have : n + m ≤ (n + m) * i.bytes := Nat.le_mul_of_pos_right _ (Nat.le_of_ble_eq_true h0)
  unfold maxLen; omega
/-- one element more, of one cell -/
theorem NextH.push1 {t u e ty : TypeId} {i : TypeInfo} {z v : Value} {a : Option Addr} {n cap g : Nat} {xs : List Value} {cb : Array Bool} {K : Value → Heap → Prop}
    (hlit : Blk H g #[v] e) (hown : Own H H0.size e 1 a n cap xs) (hx : Ext H0 H) (hn : n ≤ 4000000000000) (ht : P.underlying t = some (.slice e)) (hu : ∃ d, P.underlying u = some d ∧ (∀ k, d ≠ .int k)) (hi : P.info? e = some i) (hz : i.zero = some z) (hzs : z.cells.size = i.size) (h1 : i.size = 1)
    (hby : Nat.ble i.bytes 16 = true) (h0 : Nat.ble 1 i.bytes = true) (hp : plainV v = true)
    (hk : ∀ a' cap' H', Own H' H0.size e 1 a' (n + 1) cap' (xs ++ [v]) → Ext H0 H' → K (.slice a' (n + 1) cap') H') :
    NextH P (builtin .append #[t, u] ty cb #[.slice a n cap, .slice (some ⟨g, 0, none⟩) 1 1]) H K := by
  have hby := Nat.le_of_ble_eq_true hby
  have hown : Own H H0.size e i.size a n cap xs := by rw [h1]; exact hown
  have hk : ∀ a' cap' H', Own H' H0.size e i.size a' (n + 1) cap' (xs ++ [v]) → Ext H0 H' → K (.slice a' (n + 1) cap') H' := fun a' c' H' h => hk a' c' H' (by rw [h1] at h; exact h)
  refine NextH.push (m := 1) (news := [v]) hown hx (Src.row (Blk.row (c := [v]) hlit) (by rw [h1]; rfl) (by simpa using hp)) ht hu hi hz hzs ?_ h0 hk
  calc (n + 1) * i.bytes ≤ (n + 1) * 16 := Nat.mul_le_mul_left _ hby
    _ ≤ _ := by omega
/-- an element of a row of strings -/
theorem IdxA.strD {a : Option Addr} {ws : List Bs} {n : Nat} {i : Int} {K : Addr → Prop} (h : Row H a (strs ws)) (hn : ws.length = n) (j : Nat) (hi : i = j) (hj : j < n)
    (hk : ∀ b o, b < H.size → a = some ⟨b, o, none⟩ → hcell H ⟨b, o + j, none⟩ = some (.string (mkS (ws.getD j []))) → K ⟨b, o + j, none⟩) : IdxA a n 1 i K := by
  refine (IdxA.row (size := 1) h (by rw [strs_length, hn, Nat.mul_one]) (by decide) j hi hj fun b o h1 h2 h3 => ?_)
  have h3 := h3 0 _ (by rw [Nat.mul_one, Nat.add_zero]; exact strs_get (by omega))
  rw [Nat.mul_one]
  rw [Nat.mul_one] at h3
  exact hk b o h1 h2 (by simpa using h3)
theorem IdxA.strv {a : Option Addr} {ws : List Bs} {n : Nat} {i : Int} {K : Addr → Prop} (h : Row H a (strs ws)) (hn : ws.length = n) (j : Nat) (w : Bs) (hi : i = j) (hw : ws[j]? = some w)
    (hk : ∀ b o, b < H.size → a = some ⟨b, o, none⟩ → hcell H ⟨b, o + j, none⟩ = some (.string (mkS w)) → K ⟨b, o + j, none⟩) : IdxA a n 1 i K := by
  have hj := (List.getElem?_eq_some_iff.1 hw).1
  refine IdxA.strD h hn j hi (by omega) fun b o h1 h2 h3 => hk b o h1 h2 ?_
  rw [List.getD_eq_getElem?_getD, hw] at h3; exact h3
theorem str_mk (p q : Bs) : ((mkS p).toList == (mkS q).toList) = decide (p = q) := by rw [str_beq, Bool.eq_iff_iff, decide_eq_true_eq, decide_eq_true_eq]; exact mkS_inj
/-- a struct of no parts, of one -/
theorem PureH.build0 {t : TypeId} {l : List Nat} {K : Value → Prop} (cells : Array Value) (h : P.built t [] = some cells) (hk : K (.agg cells)) : PureH P (Instr.build t (l.zip ([] : List Value)).toArray) K :=
  PureH.build cells (by rw [List.zip_nil_right]; exact h) hk
theorem PureH.build1 {t : TypeId} {l : List Nat} {v : Value} {K : Value → Prop} (cells : Array Value) (h : P.built t (l.zip [v]) = some cells) (hk : K (.agg cells)) : PureH P (Instr.build t (l.zip [v]).toArray) K :=
  PureH.build cells h hk
/-- a cell that was known of an older heap -/
theorem SemH.load_old {t : TypeId} {p : Addr} {v : Value} {K : Value → Heap → Prop} (hT : aggB P t = some false) (hc : hcell H0 p = some v) (hx : Ext H0 H) (hk : K v H) : SemH P (Instr.loadAt t (.pointer (some p))) H K := SemH.load hT (hcell_keep hc hx id) hk
theorem Own.nil' (H : Heap) (base : Nat) (e : TypeId) (size : Nat) : Own H base e size none 0 0 ([] : List Value) := Own.nil H base e size
end Go.Vc
/- Ranging over strings. -/
namespace Go.Vc
variable {P : Program} {H H' : Heap}

/-- block b is an iterator over this string, so far on -/
structure Iter (H : Heap) (b : Nat) (s : ByteArray) (pos : Nat) : Prop where out : H[b]? = some (.stringIter s pos)
theorem Iter.lt {b : Nat} {s : ByteArray} {pos : Nat} (h : Iter H b s pos) : b < H.size := (Array.getElem?_eq_some_iff.1 h.out).1
theorem Iter.ext {b : Nat} {s : ByteArray} {pos : Nat} (h : Iter H b s pos) (k : Ext H H') : Iter H' b s pos := ⟨(k.same b h.lt id).trans h.out⟩
theorem SemH.range_str {t : TypeId} {s : ByteArray} {K : Value → Heap → Prop} (ht : P.underlying t = some .string)
    (hk : ∀ H', H'.size = H.size + 1 → Iter H' H.size s 0 → Ext H H' → K (.pointer (some ⟨H.size, 0, none⟩)) H') : SemH P (Instr.range t (.string s)) H K := by
  refine ⟨fun w hw => ⟨.pointer (some ⟨w.heap.size, 0, none⟩), { w with heap := w.heap.push (.stringIter s 0) }, ?_, ⟨rfl, rfl, rfl⟩, ?_⟩⟩
  · simp only [Instr.range, Sem.run_bind, underlying_of ht, Result.andThen_ok, Sem.run_pure, run_newObj]
  · subst hw; exact hk _ (by simp) ⟨push_last _ _⟩ (Only.push _ _ _)
theorem SemH.next_str {b : Nat} {s : ByteArray} {pos : Nat} {ty : TypeId} {K : Value → Heap → Prop} (hI : Iter H b s pos) (h : pos < s.size)
    (hk : ∀ H', H'.size = H.size → Iter H' b s (pos + (Utf8.decode s pos).2) → But b H H' → K (.tuple #[.bool true, .int .i64 pos, .int .i32 (Utf8.decode s pos).1]) H') : SemH P (Instr.next (.pointer (some ⟨b, 0, none⟩)) true ty) H K := by
  refine ⟨fun w hw => ?_⟩
  have hI' := hI.out
  have hlt := hI.lt
  subst hw
  refine ⟨.tuple #[.bool true, .int .i64 pos, .int .i32 (Utf8.decode s pos).1], { w with heap := w.heap.setIfInBounds b (.stringIter s (pos + (Utf8.decode s pos).2)) }, ?_, ⟨rfl, rfl, rfl⟩, hk _ (by simp) ⟨by simp [hlt]⟩ (Only.set _ _ _)⟩
  simp only [Instr.next, getObj, setObj, Sem.run_bind, Sem.run, hI', Result.andThen, h, if_true]
  simp [goInt, Sem.run, hI', Result.andThen]
theorem SemH.next_end {b : Nat} {s : ByteArray} {pos : Nat} {ty : TypeId} {K : Value → Heap → Prop} (hI : Iter H b s pos) (h : ¬ pos < s.size) (hk : K (.tuple #[.bool false]) H) : SemH P (Instr.next (.pointer (some ⟨b, 0, none⟩)) true ty) H K := by
  refine ⟨fun w hw => ⟨_, w, ?_, Same.refl w, hw ▸ hk⟩⟩
  have hI := hI.out
  subst hw
  simp [Instr.next, getObj, Sem.run, hI, h]

/- runes: such as are no ASCII are made of bytes that are none -/
theorem get_mk (l : Bs) (n : Nat) : (mkS l).get! n = l.getD n 0 := by
  show (l.toArray)[n]! = _
  rw [List.getElem!_toArray, List.getElem!_eq_getElem?_getD, List.getD_eq_getElem?_getD]; rfl
structure Runes (l : Bs) (pos c w : Nat) : Prop where
  w1 : 1 ≤ w
  le : pos + w ≤ l.length
  lo : (l.getD pos 0).toNat < 128 → c = (l.getD pos 0).toNat ∧ w = 1
  hi : 128 ≤ (l.getD pos 0).toNat → 128 ≤ c ∧ ∀ j, pos ≤ j → j < pos + w → 128 ≤ (l.getD j 0).toNat
theorem decode_runes (l : Bs) (pos : Nat) (h : pos < l.length) : Runes l pos (Utf8.decode (mkS l) pos).1 (Utf8.decode (mkS l) pos).2 := by
  have hs : (mkS l).size = l.length := rfl
  have one : ∀ c, 128 ≤ (l.getD pos 0).toNat → 128 ≤ c → Runes l pos c 1 := fun c h0 hc => ⟨Nat.le_refl _, h, fun h1 => by omega, fun _ => ⟨hc, fun j h1 h2 => by
    have : j = pos := by omega
    rw [this]; exact h0⟩⟩
  unfold Utf8.decode
  simp only [get_mk, hs, Nat.add_zero]
  by_cases h0 : (l.getD pos 0).toNat < 128
  · rw [if_pos h0]
    exact ⟨Nat.le_refl _, h, fun _ => ⟨rfl, rfl⟩, fun h1 => by omega⟩
  · rw [if_neg h0]
    have h1 : 128 ≤ (l.getD pos 0).toNat := by omega
    have hr : 128 ≤ Utf8.runeError := by decide
    split
    · rename_i hc
      simp only [Bool.and_eq_true, decide_eq_true_eq, beq_iff_eq] at hc
      split
      · rename_i hge
        refine ⟨by omega, by omega, fun h2 => by omega, fun _ => ⟨hge, fun j h3 h4 => ?_⟩⟩
        obtain rfl | rfl : j = pos ∨ j = pos + 1 := by omega
        · exact h1
        · omega
      · exact one _ h1 hr
    · split
      · rename_i hc
        simp only [Bool.and_eq_true, decide_eq_true_eq, beq_iff_eq] at hc
        split
        · rename_i hge
          simp only [Bool.and_eq_true, decide_eq_true_eq] at hge
          refine ⟨by omega, by omega, fun h2 => by omega, fun _ => ⟨Nat.le_trans (by decide) hge.1, fun j h3 h4 => ?_⟩⟩
          obtain rfl | rfl | rfl : j = pos ∨ j = pos + 1 ∨ j = pos + 2 := by omega
          · exact h1
          · omega
          · omega
        · exact one _ h1 hr
      · split
        · rename_i hc
          simp only [Bool.and_eq_true, decide_eq_true_eq, beq_iff_eq] at hc
          split
          · rename_i hge
            simp only [Bool.and_eq_true, decide_eq_true_eq] at hge
            refine ⟨by omega, by omega, fun h2 => by omega, fun _ => ⟨Nat.le_trans (by decide) hge.1, fun j h3 h4 => ?_⟩⟩
            obtain rfl | rfl | rfl | rfl : j = pos ∨ j = pos + 1 ∨ j = pos + 2 ∨ j = pos + 3 := by omega
            · exact h1
            · omega
            · omega
            · omega
          · exact one _ h1 hr
        · exact one _ h1 hr
end Go.Vc
/- One step of a walk as one lemma, whose last premise finds itself. -/
namespace Go.Vc
structure Bx (q : Prop) : Prop where out : q
theorem sts {p q : Prop} (hq : q) (h : Bx q → p := by (intro hq; first | (with_reducible first | exact Go.Vc.SeqH.go hq.out | exact Go.Vc.StillsH.nil hq.out | exact Go.Vc.CallX.of hq.out | exact Go.Vc.NextX.of hq.out | exact Go.Vc.DrawH.text mixed (by decide +kernel) hq.out | exact Go.Vc.ArithH.i64 (by omega) hq.out | exact Go.Vc.ArithH.u8 (by omega) hq.out | exact Go.Vc.ArithH.u64 (by omega) hq.out | exact Go.Vc.ArithH.u32 (by omega) hq.out | exact Go.Vc.NeedH.mk ⟨by omega, hq.out⟩ | exact Go.Vc.QuoH.i64 (by omega) hq.out | exact Go.Vc.RemH.pos (by omega) hq.out | exact Go.Vc.CondH.bnot hq.out | exact Go.Vc.CondH.lit_t hq.out | exact Go.Vc.CondH.lit_f hq.out | exact Go.Vc.SplitH.lit_t hq.out | exact Go.Vc.SplitH.lit_f hq.out | exact Go.Vc.CondH.pos (by first | (rw [decide_eq_true_eq]; omega) | (rw [beq_iff_eq]; omega) | (rw [bne_iff_ne]; omega)) hq.out | exact Go.Vc.CondH.neg (by first | (rw [decide_eq_false_iff_not]; omega) | (rw [beq_eq_false_iff_ne]; omega) | (rw [bne_eq_false_iff_eq]; omega)) hq.out))) : p := h ⟨hq⟩
theorem stt {p q : Prop} (hq : q) (h : Bx q → p := by (intro hq; first | (with_reducible first | exact Go.Vc.StillsH.nil hq.out | exact Go.Vc.CallX.of hq.out | exact Go.Vc.NextX.of hq.out | exact Go.Vc.DrawH.text mixed (by decide +kernel) hq.out | exact Go.Vc.ArithH.i64 (by omega) hq.out | exact Go.Vc.ArithH.u8 (by omega) hq.out | exact Go.Vc.ArithH.u64 (by omega) hq.out | exact Go.Vc.ArithH.u32 (by omega) hq.out | exact Go.Vc.NeedH.mk ⟨by omega, hq.out⟩ | exact Go.Vc.QuoH.i64 (by omega) hq.out | exact Go.Vc.RemH.pos (by omega) hq.out | exact Go.Vc.CondH.bnot hq.out | exact Go.Vc.CondH.lit_t hq.out | exact Go.Vc.CondH.lit_f hq.out | exact Go.Vc.SplitH.lit_t hq.out | exact Go.Vc.SplitH.lit_f hq.out | exact Go.Vc.CondH.pos (by first | (rw [decide_eq_true_eq]; omega) | (rw [beq_iff_eq]; omega) | (rw [bne_iff_ne]; omega)) hq.out | exact Go.Vc.CondH.neg (by first | (rw [decide_eq_false_iff_not]; omega) | (rw [beq_eq_false_iff_ne]; omega) | (rw [bne_eq_false_iff_eq]; omega)) hq.out))) : p := h ⟨hq⟩
theorem stp {p q : Prop} (hq : q) (h : Bx q → p := by (intro hq; first | (with_reducible first | exact Go.Vc.SeqH.go hq.out | exact Go.Vc.StillsH.nil hq.out | exact Go.Vc.CallX.of hq.out | exact Go.Vc.NextX.of hq.out | exact Go.Vc.DrawH.text mixed (by decide +kernel) hq.out | exact Go.Vc.ArithH.i64 (by omega) hq.out | exact Go.Vc.ArithH.u8 (by omega) hq.out | exact Go.Vc.ArithH.u64 (by omega) hq.out | exact Go.Vc.ArithH.u32 (by omega) hq.out | exact Go.Vc.NeedH.mk ⟨by omega, hq.out⟩ | exact Go.Vc.NeedH.mk ⟨rfl, hq.out⟩ | exact Go.Vc.QuoH.i64 (by omega) hq.out | exact Go.Vc.RemH.pos (by omega) hq.out | exact Go.Vc.CondH.bnot hq.out | exact Go.Vc.CondH.lit_t hq.out | exact Go.Vc.CondH.lit_f hq.out | exact Go.Vc.SplitH.lit_t hq.out | exact Go.Vc.SplitH.lit_f hq.out | exact Go.Vc.CondH.pos (by assumption) hq.out | exact Go.Vc.CondH.neg (by assumption) hq.out | exact Go.Vc.SplitH.pos (by assumption) hq.out | exact Go.Vc.SplitH.neg (by assumption) hq.out | exact Go.Vc.CondH.pos (by first | (rw [decide_eq_true_eq]; omega) | (rw [beq_iff_eq]; omega) | (rw [bne_iff_ne]; omega)) hq.out | exact Go.Vc.CondH.neg (by first | (rw [decide_eq_false_iff_not]; omega) | (rw [beq_eq_false_iff_ne]; omega) | (rw [bne_eq_false_iff_eq]; omega)) hq.out | exact Go.Vc.SplitH.pos (by first | (rw [decide_eq_true_eq]; omega) | (rw [beq_iff_eq]; omega) | (rw [bne_iff_ne]; omega)) hq.out | exact Go.Vc.SplitH.neg (by first | (rw [decide_eq_false_iff_not]; omega) | (rw [beq_eq_false_iff_ne]; omega) | (rw [bne_eq_false_iff_eq]; omega)) hq.out | exact Go.Vc.CondH.same hq.out | exact Go.Vc.SplitH.same hq.out | exact Go.Vc.SplitH.nsame hq.out | exact Go.Vc.SplitH.notT (by assumption) hq.out | exact Go.Vc.SplitH.notF (by assumption) hq.out | exact Go.Vc.CondH.eqI hq.out | exact Go.Vc.CondH.neI hq.out | exact Go.Vc.SplitH.eqI hq.out | exact Go.Vc.SplitH.neI hq.out | exact Go.Vc.CondH.pos (by first | decide | (dsimp only; decide)) hq.out | exact Go.Vc.CondH.neg (by first | decide | (dsimp only; decide)) hq.out | exact Go.Vc.SplitH.pos (by first | decide | (dsimp only; decide)) hq.out | exact Go.Vc.SplitH.neg (by first | decide | (dsimp only; decide)) hq.out) | ((with_reducible apply Go.Vc.SemH.load_n); (focus (repeat (first | assumption | ((with_reducible apply Go.Vc.Blk.ext); (case k => assumption)) | ((with_reducible apply Go.Vc.Blk.but); (case k => assumption); (case hb => omega))))); (focus rfl); (focus rfl); exact hq.out) | ((with_reducible apply Go.Vc.SemH.load_blk); (focus (repeat (first | assumption | ((with_reducible apply Go.Vc.Blk.ext); (case k => assumption)) | ((with_reducible apply Go.Vc.Blk.but); (case k => assumption); (case hb => omega))))); (focus rfl); (focus rfl); (focus rfl); exact hq.out) | ((with_reducible apply Go.Vc.StillsH.load); (focus rfl); (focus rfl); (focus rfl); (focus rfl); (focus rfl); (focus rfl); (focus (first | ((with_reducible apply Go.Vc.SemH.load_n); (focus (repeat (first | assumption | ((with_reducible apply Go.Vc.Blk.ext); (case k => assumption)) | ((with_reducible apply Go.Vc.Blk.but); (case k => assumption); (case hb => omega))))); (focus rfl); (focus rfl); rfl) | ((with_reducible apply Go.Vc.SemH.load_blk); (focus (repeat (first | assumption | ((with_reducible apply Go.Vc.Blk.ext); (case k => assumption)) | ((with_reducible apply Go.Vc.Blk.but); (case k => assumption); (case hb => omega))))); (focus rfl); (focus rfl); (focus rfl); rfl) | ((with_reducible apply Go.Vc.SemH.load_old); (focus rfl); (focus assumption); (focus (repeat (first | assumption | exact Go.Vc.Ext.refl _ | ((with_reducible apply Go.Vc.Ext.trans); (case k => assumption)) | ((with_reducible apply Go.Vc.Ext.but); (case k => assumption); (case hb => omega))))); rfl))); exact hq.out) | ((with_reducible apply Go.Vc.StillsH.skip rfl rfl rfl rfl); exact hq.out) | ((with_reducible apply Go.Vc.SemH.box); exact hq.out) | ((with_reducible apply Go.Vc.SemH.alloc); (focus rfl); (focus rfl); exact hq.out) | ((with_reducible apply Go.Vc.DoH.store1'); (focus (repeat (first | assumption | ((with_reducible apply Go.Vc.Blk.ext); (case k => assumption)) | ((with_reducible apply Go.Vc.Blk.but); (case k => assumption); (case hb => omega))))); (focus rfl); (focus rfl); (focus rfl); (focus rfl); exact hq.out) | ((with_reducible apply Go.Vc.DoH.put_all); (focus (repeat (first | assumption | ((with_reducible apply Go.Vc.Blk.ext); (case k => assumption)) | ((with_reducible apply Go.Vc.Blk.but); (case k => assumption); (case hb => omega))))); (focus rfl); (focus rfl); (focus rfl); (focus rfl); exact hq.out) | ((with_reducible apply Go.Vc.SemH.load_old); (focus rfl); (focus assumption); (focus (repeat (first | assumption | exact Go.Vc.Ext.refl _ | ((with_reducible apply Go.Vc.Ext.trans); (case k => assumption)) | ((with_reducible apply Go.Vc.Ext.but); (case k => assumption); (case hb => omega))))); exact hq.out) | ((with_reducible apply Go.Vc.SemH.lit (vs := [_])); (focus rfl); (focus rfl); (focus rfl); (focus rfl); (focus rfl); (focus rfl); (focus rfl); exact hq.out) | ((with_reducible apply Go.Vc.SemH.lit (vs := [_, _])); (focus rfl); (focus rfl); (focus rfl); (focus rfl); (focus rfl); (focus rfl); (focus rfl); exact hq.out) | ((with_reducible apply Go.Vc.SemH.lit (vs := [_, _, _])); (focus rfl); (focus rfl); (focus rfl); (focus rfl); (focus rfl); (focus rfl); (focus rfl); exact hq.out) | ((with_reducible apply Go.Vc.SemH.lit (vs := [_, _, _, _])); (focus rfl); (focus rfl); (focus rfl); (focus rfl); (focus rfl); (focus rfl); (focus rfl); exact hq.out) | ((with_reducible apply Go.Vc.NextH.push1); (focus (repeat (first | assumption | ((with_reducible apply Go.Vc.Blk.ext); (case k => assumption)) | ((with_reducible apply Go.Vc.Blk.but); (case k => assumption); (case hb => omega))))); (focus (repeat (first | assumption | ((with_reducible apply Go.Vc.Own.ext); (case k => assumption)) | ((with_reducible apply Go.Vc.Own.but); (case k => assumption); (case hb => omega))))); (focus (repeat (first | assumption | exact Go.Vc.Ext.refl _ | ((with_reducible apply Go.Vc.Ext.trans); (case k => assumption)) | ((with_reducible apply Go.Vc.Ext.but); (case k => assumption); (case hb => omega))))); (focus omega); (focus rfl); (focus (exact ⟨_, rfl, fun _ h => by cases h⟩)); (focus rfl); (focus rfl); (focus rfl); (focus rfl); (focus rfl); (focus rfl); (focus rfl); exact hq.out))) : p := h ⟨hq⟩
theorem stq {p q : Prop} (hq : q) (h : Bx q → p := by (intro hq; first | (with_reducible first | exact Go.Vc.StillsH.nil hq.out | exact Go.Vc.CallX.of hq.out | exact Go.Vc.NextX.of hq.out | exact Go.Vc.DrawH.text mixed (by decide +kernel) hq.out | exact Go.Vc.ArithH.i64 (by omega) hq.out | exact Go.Vc.ArithH.u8 (by omega) hq.out | exact Go.Vc.ArithH.u64 (by omega) hq.out | exact Go.Vc.ArithH.u32 (by omega) hq.out | exact Go.Vc.NeedH.mk ⟨by omega, hq.out⟩ | exact Go.Vc.NeedH.mk ⟨rfl, hq.out⟩ | exact Go.Vc.QuoH.i64 (by omega) hq.out | exact Go.Vc.RemH.pos (by omega) hq.out | exact Go.Vc.CondH.bnot hq.out | exact Go.Vc.CondH.lit_t hq.out | exact Go.Vc.CondH.lit_f hq.out | exact Go.Vc.SplitH.lit_t hq.out | exact Go.Vc.SplitH.lit_f hq.out | exact Go.Vc.CondH.pos (by assumption) hq.out | exact Go.Vc.CondH.neg (by assumption) hq.out | exact Go.Vc.SplitH.pos (by assumption) hq.out | exact Go.Vc.SplitH.neg (by assumption) hq.out | exact Go.Vc.CondH.pos (by first | (rw [decide_eq_true_eq]; omega) | (rw [beq_iff_eq]; omega) | (rw [bne_iff_ne]; omega)) hq.out | exact Go.Vc.CondH.neg (by first | (rw [decide_eq_false_iff_not]; omega) | (rw [beq_eq_false_iff_ne]; omega) | (rw [bne_eq_false_iff_eq]; omega)) hq.out | exact Go.Vc.SplitH.pos (by first | (rw [decide_eq_true_eq]; omega) | (rw [beq_iff_eq]; omega) | (rw [bne_iff_ne]; omega)) hq.out | exact Go.Vc.SplitH.neg (by first | (rw [decide_eq_false_iff_not]; omega) | (rw [beq_eq_false_iff_ne]; omega) | (rw [bne_eq_false_iff_eq]; omega)) hq.out | exact Go.Vc.CondH.same hq.out | exact Go.Vc.SplitH.same hq.out | exact Go.Vc.SplitH.nsame hq.out | exact Go.Vc.SplitH.notT (by assumption) hq.out | exact Go.Vc.SplitH.notF (by assumption) hq.out | exact Go.Vc.CondH.eqI hq.out | exact Go.Vc.CondH.neI hq.out | exact Go.Vc.SplitH.eqI hq.out | exact Go.Vc.SplitH.neI hq.out | exact Go.Vc.CondH.pos (by first | decide | (dsimp only; decide)) hq.out | exact Go.Vc.CondH.neg (by first | decide | (dsimp only; decide)) hq.out | exact Go.Vc.SplitH.pos (by first | decide | (dsimp only; decide)) hq.out | exact Go.Vc.SplitH.neg (by first | decide | (dsimp only; decide)) hq.out) | ((with_reducible apply Go.Vc.SemH.load_n); (focus (repeat (first | assumption | ((with_reducible apply Go.Vc.Blk.ext); (case k => assumption)) | ((with_reducible apply Go.Vc.Blk.but); (case k => assumption); (case hb => omega))))); (focus rfl); (focus rfl); exact hq.out) | ((with_reducible apply Go.Vc.SemH.load_blk); (focus (repeat (first | assumption | ((with_reducible apply Go.Vc.Blk.ext); (case k => assumption)) | ((with_reducible apply Go.Vc.Blk.but); (case k => assumption); (case hb => omega))))); (focus rfl); (focus rfl); (focus rfl); exact hq.out) | ((with_reducible apply Go.Vc.StillsH.load); (focus rfl); (focus rfl); (focus rfl); (focus rfl); (focus rfl); (focus rfl); (focus (first | ((with_reducible apply Go.Vc.SemH.load_n); (focus (repeat (first | assumption | ((with_reducible apply Go.Vc.Blk.ext); (case k => assumption)) | ((with_reducible apply Go.Vc.Blk.but); (case k => assumption); (case hb => omega))))); (focus rfl); (focus rfl); rfl) | ((with_reducible apply Go.Vc.SemH.load_blk); (focus (repeat (first | assumption | ((with_reducible apply Go.Vc.Blk.ext); (case k => assumption)) | ((with_reducible apply Go.Vc.Blk.but); (case k => assumption); (case hb => omega))))); (focus rfl); (focus rfl); (focus rfl); rfl) | ((with_reducible apply Go.Vc.SemH.load_old); (focus rfl); (focus assumption); (focus (repeat (first | assumption | exact Go.Vc.Ext.refl _ | ((with_reducible apply Go.Vc.Ext.trans); (case k => assumption)) | ((with_reducible apply Go.Vc.Ext.but); (case k => assumption); (case hb => omega))))); rfl))); exact hq.out) | ((with_reducible apply Go.Vc.StillsH.skip rfl rfl rfl rfl); exact hq.out) | ((with_reducible apply Go.Vc.SemH.box); exact hq.out) | ((with_reducible apply Go.Vc.SemH.alloc); (focus rfl); (focus rfl); exact hq.out) | ((with_reducible apply Go.Vc.DoH.store1'); (focus (repeat (first | assumption | ((with_reducible apply Go.Vc.Blk.ext); (case k => assumption)) | ((with_reducible apply Go.Vc.Blk.but); (case k => assumption); (case hb => omega))))); (focus rfl); (focus rfl); (focus rfl); (focus rfl); exact hq.out) | ((with_reducible apply Go.Vc.DoH.put_all); (focus (repeat (first | assumption | ((with_reducible apply Go.Vc.Blk.ext); (case k => assumption)) | ((with_reducible apply Go.Vc.Blk.but); (case k => assumption); (case hb => omega))))); (focus rfl); (focus rfl); (focus rfl); (focus rfl); exact hq.out) | ((with_reducible apply Go.Vc.SemH.load_old); (focus rfl); (focus assumption); (focus (repeat (first | assumption | exact Go.Vc.Ext.refl _ | ((with_reducible apply Go.Vc.Ext.trans); (case k => assumption)) | ((with_reducible apply Go.Vc.Ext.but); (case k => assumption); (case hb => omega))))); exact hq.out) | ((with_reducible apply Go.Vc.SemH.lit (vs := [_])); (focus rfl); (focus rfl); (focus rfl); (focus rfl); (focus rfl); (focus rfl); (focus rfl); exact hq.out) | ((with_reducible apply Go.Vc.SemH.lit (vs := [_, _])); (focus rfl); (focus rfl); (focus rfl); (focus rfl); (focus rfl); (focus rfl); (focus rfl); exact hq.out) | ((with_reducible apply Go.Vc.SemH.lit (vs := [_, _, _])); (focus rfl); (focus rfl); (focus rfl); (focus rfl); (focus rfl); (focus rfl); (focus rfl); exact hq.out) | ((with_reducible apply Go.Vc.SemH.lit (vs := [_, _, _, _])); (focus rfl); (focus rfl); (focus rfl); (focus rfl); (focus rfl); (focus rfl); (focus rfl); exact hq.out) | ((with_reducible apply Go.Vc.NextH.push1); (focus (repeat (first | assumption | ((with_reducible apply Go.Vc.Blk.ext); (case k => assumption)) | ((with_reducible apply Go.Vc.Blk.but); (case k => assumption); (case hb => omega))))); (focus (repeat (first | assumption | ((with_reducible apply Go.Vc.Own.ext); (case k => assumption)) | ((with_reducible apply Go.Vc.Own.but); (case k => assumption); (case hb => omega))))); (focus (repeat (first | assumption | exact Go.Vc.Ext.refl _ | ((with_reducible apply Go.Vc.Ext.trans); (case k => assumption)) | ((with_reducible apply Go.Vc.Ext.but); (case k => assumption); (case hb => omega))))); (focus omega); (focus rfl); (focus (exact ⟨_, rfl, fun _ h => by cases h⟩)); (focus rfl); (focus rfl); (focus rfl); (focus rfl); (focus rfl); (focus rfl); (focus rfl); exact hq.out))) : p := h ⟨hq⟩
theorem spl {p a b : Prop} (ha : a) (hb : b) (h : Bx a → Bx b → p := by (intro ha hb; with_reducible first | exact Go.Vc.CondH.dec ha.out hb.out | exact Go.Vc.CondH.beqI ha.out hb.out | exact Go.Vc.CondH.bneI ha.out hb.out | exact Go.Vc.CondH.str ha.out hb.out | exact Go.Vc.SplitH.dec ha.out hb.out | exact Go.Vc.SplitH.beqI ha.out hb.out | exact Go.Vc.SplitH.bneI ha.out hb.out | exact Go.Vc.SplitH.str ha.out hb.out | exact Go.Vc.SplitH.bnot ha.out hb.out | exact Go.Vc.CondH.bool ha.out hb.out | exact Go.Vc.SplitH.bool ha.out hb.out)) : p := h ⟨ha⟩ ⟨hb⟩
end Go.Vc
/- Build scripts, plain: words, lines, blocks. -/
namespace Go.Scr
abbrev Txt := List UInt8
def isB (c : UInt8) : Bool := c == 32 || c == 9

/-- behind an opening quote: the text, what stands behind the closing one -/
def quotedF : Txt → Option (Txt × Txt)
  | [] => none
  | c :: t =>
    if c = 34 then some ([], t)
    else if c = 92 then match t with
      | [] => none
      | d :: u =>
        if d = 34 ∨ d = 92 then (quotedF u).map fun p => (d :: p.1, p.2)
        else if d = 110 then (quotedF u).map fun p => (10 :: p.1, p.2)
        else none
    else (quotedF t).map fun p => (c :: p.1, p.2)
theorem quotedF_len : ∀ (n : Nat) (l : Txt), l.length ≤ n → ∀ {w r : Txt}, quotedF l = some (w, r) → r.length < l.length
  | _, [], _, _, _, h => by simp [quotedF] at h
  | 0, c :: t, hn, _, _, _ => by simp at hn
  | n + 1, c :: t, hn, w, r, h => by
    simp only [List.length_cons] at hn ⊢
    unfold quotedF at h
    split at h
    · cases h; omega
    · split at h
      · split at h
        · cases h
        · rename_i d u
          simp only [List.length_cons] at hn ⊢
          split at h
          · cases hq : quotedF u with
            | none => rw [hq] at h; cases h
            | some p => rw [hq] at h; cases h; have := quotedF_len n u (by omega) (w := p.1) (r := p.2) hq; omega
          · split at h
            · cases hq : quotedF u with
              | none => rw [hq] at h; cases h
              | some p => rw [hq] at h; cases h; have := quotedF_len n u (by omega) (w := p.1) (r := p.2) hq; omega
            · cases h
      · cases hq : quotedF t with
        | none => rw [hq] at h; cases h
        | some p => rw [hq] at h; cases h; have := quotedF_len n t (by omega) (w := p.1) (r := p.2) hq; omega

theorem dropWhile_len {p : UInt8 → Bool} : ∀ l : Txt, (l.dropWhile p).length ≤ l.length
  | [] => Nat.le_refl _
  | c :: t => by
    rw [List.dropWhile_cons]
    split
    · have := dropWhile_len (p := p) t; simp only [List.length_cons]; omega
    · exact Nat.le_refl _
def wordsN : Nat → Txt → Option (List Txt)
  | _, [] => some []
  | 0, _ => none
  | n + 1, c :: t =>
    if isB c then wordsN n t
    else if c = 34 then match quotedF t with
      | none => none
      | some (w, r) => if r ≠ [] ∧ ¬ isB (r.headD 0) = true then none else (wordsN n r).map fun l => (34 :: w) :: l
    else (wordsN n (t.dropWhile fun x => !isB x)).map fun l => (c :: t.takeWhile fun x => !isB x) :: l
def wordsF (l : Txt) : Option (List Txt) := wordsN l.length l
theorem wordsN_big : ∀ (n m : Nat) (l : Txt), l.length ≤ n → l.length ≤ m → wordsN n l = wordsN m l
  | n, m, [], _, _ => by cases n <;> cases m <;> rfl
  | 0, m, c :: t, h, _ => by simp at h
  | n + 1, 0, c :: t, _, h => by simp at h
  | n + 1, m + 1, c :: t, h1, h2 => by
    simp only [List.length_cons] at h1 h2
    unfold wordsN
    have hd := dropWhile_len (p := fun x => !isB x) t
    split
    · exact wordsN_big n m t (by omega) (by omega)
    · split
      · cases hq : quotedF t with
        | none => rfl
        | some p =>
          obtain ⟨w, r⟩ := p
          have := quotedF_len _ t (Nat.le_refl _) hq
          dsimp only
          rw [wordsN_big n m r (by omega) (by omega)]
      · rw [wordsN_big n m _ (by omega) (by omega)]
theorem wordsF_nil : wordsF [] = some [] := rfl
theorem wordsF_blank {c : UInt8} {t : Txt} (h : isB c = true) : wordsF (c :: t) = wordsF t := by
  show wordsN (t.length + 1) (c :: t) = _
  unfold wordsN
  rw [if_pos h]; rfl
theorem wordsF_quote {t : Txt} : wordsF (34 :: t) = match quotedF t with
    | none => none
    | some (w, r) => if r ≠ [] ∧ ¬ isB (r.headD 0) = true then none else (wordsF r).map fun l => (34 :: w) :: l := by
  show wordsN (t.length + 1) (34 :: t) = _
  unfold wordsN
  rw [if_neg (by decide), if_pos rfl]
  cases hq : quotedF t with
  | none => rfl
  | some p =>
    obtain ⟨w, r⟩ := p
    have := quotedF_len _ t (Nat.le_refl _) hq
    dsimp only
    rw [wordsN_big t.length r.length r (by omega) (Nat.le_refl _)]
    rfl
theorem wordsF_word {c : UInt8} {t : Txt} (h1 : isB c = false) (h2 : c ≠ 34) : wordsF (c :: t) = (wordsF (t.dropWhile fun x => !isB x)).map fun l => (c :: t.takeWhile fun x => !isB x) :: l := by
  show wordsN (t.length + 1) (c :: t) = _
  unfold wordsN
  rw [if_neg (by rw [h1]; decide), if_neg h2]
  have hd := dropWhile_len (p := fun x => !isB x) t
  rw [wordsN_big t.length _ _ hd (Nat.le_refl _)]
  rfl
theorem wordsF_drop : ∀ l : Txt, wordsF (l.dropWhile isB) = wordsF l
  | [] => rfl
  | c :: t => by
    rw [List.dropWhile_cons]
    split
    · rename_i h; rw [wordsF_drop t, wordsF_blank h]
    · rfl

/-- a line -/
structure Ln where
  k : Nat
  a : Txt
  b : Txt
  tx : Txt
  n : Nat
  nt : Bool
deriving DecidableEq
def kws : List Txt := [[99, 111, 112, 121], [119, 114, 105, 116, 101], [97, 112, 112, 101, 110, 100], [109, 107, 100, 105, 114], [114, 101, 109, 111, 118, 101], [114, 101, 110, 97, 109, 101], [115, 101, 116], [105, 102], [114, 101, 112, 101, 97, 116], [101, 108, 115, 101], [101, 110, 100], [102, 97, 105, 108]]
def wNot : Txt := [110, 111, 116]
def wExists : Txt := [101, 120, 105, 115, 116, 115]
def kindF (w : Txt) : Nat := kws.findIdx (· == w)
/-- is a word unquoted -/
def plainW (w : Txt) : Bool := w.head? != some 34
def numL : Nat → Txt → Option Nat
  | n, [] => some n
  | n, c :: t => if 48 ≤ c.toNat ∧ c.toNat ≤ 57 then numL (10 * n + (c.toNat - 48)) t else none
def numberF (w : Txt) : Option Nat := if 9 < w.length then none else match numL 0 w with
  | none => none
  | some n => if n ≤ 1000 then some n else none
def twoF (k : Nat) : List Txt → Option Ln
  | [x, y] => if plainW x ∧ plainW y then some ⟨k, x, y, [], 0, false⟩ else none
  | _ => none
def textF (k : Nat) : List Txt → Option Ln
  | [x, y] => if plainW x ∧ ¬ plainW y then some ⟨k, x, [], y.tail, 0, false⟩ else none
  | _ => none
def oneF (k : Nat) : List Txt → Option Ln
  | [x] => if plainW x then some ⟨k, x, [], [], 0, false⟩ else none
  | _ => none
def askedF : List Txt → Option Ln
  | [e, x] => if e = wExists ∧ plainW x then some ⟨7, x, [], [], 0, false⟩ else none
  | [n, e, x] => if n = wNot ∧ e = wExists ∧ plainW x then some ⟨7, x, [], [], 0, true⟩ else none
  | _ => none
def repeatF : List Txt → Option Ln
  | [x] => (numberF x).map fun n => ⟨8, [], [], [], n, false⟩
  | _ => none
def bareF (k : Nat) : List Txt → Option Ln
  | [] => some ⟨k, [], [], [], 0, false⟩
  | _ => none
def failF : List Txt → Option Ln
  | [x] => if ¬ plainW x then some ⟨11, [], [], x.tail, 0, false⟩ else none
  | _ => none
def lineF : List Txt → Option Ln
  | [] => none
  | w :: ws => match kindF w with
    | 0 => twoF 0 ws
    | 1 => textF 1 ws
    | 2 => textF 2 ws
    | 3 => oneF 3 ws
    | 4 => oneF 4 ws
    | 5 => twoF 5 ws
    | 6 => textF 6 ws
    | 7 => askedF ws
    | 8 => repeatF ws
    | 9 => bareF 9 ws
    | 10 => bareF 10 ws
    | 11 => failF ws
    | _ => none
/-- what is open -/
def takeF (o : List Nat) (k : Nat) : Option (List Nat) :=
  if k = 7 ∨ k = 8 then (if o.length = 8 then none else some (o ++ [k]))
  else if k = 9 then (if o.getLast? = some 7 then some (o.dropLast ++ [9]) else none)
  else if k = 10 then (if o = [] then none else some o.dropLast)
  else some o
def splitF (c : UInt8) : Txt → List Txt
  | [] => [[]]
  | x :: t => if x = c then [] :: splitF c t else match splitF c t with
    | [] => [[x]]
    | w :: l => (x :: w) :: l
def linesF (s : Txt) : List Txt := let l := splitF 10 s; if l.getLast? = some [] then l.dropLast else l
def skipF (l : Txt) : Bool := match l.dropWhile isB with
  | [] => true
  | c :: _ => c == 35
def parseL : List Txt → Nat → List Ln → List Nat → Option (List Ln) × Nat
  | [], _, out, o => if o = [] then (some out, 0) else (none, 0)
  | l :: ls, i, out, o =>
    if skipF l then parseL ls (i + 1) out o
    else match wordsF l with
      | none => (none, i + 1)
      | some w => match lineF w with
        | none => (none, i + 1)
        | some x => if out.length = 200 then (none, i + 1) else match takeF o x.k with
          | none => (none, i + 1)
          | some o' => parseL ls (i + 1) (out ++ [x]) o'
def parseF (s : Txt) : Option (List Ln) × Nat := if 65536 < s.length then (none, 0) else parseL (linesF s) 0 [] []
end Go.Scr
/- Build scripts, plain: texts in quotes, noise, how many. -/
namespace Go.Scr

theorem splitF_line {c : UInt8} : ∀ (l r : Txt), c ∉ l → splitF c (l ++ c :: r) = l :: splitF c r
  | [], r, _ => by show splitF c (c :: r) = _; rw [splitF, if_pos rfl]
  | x :: l, r, h => by
    have hx : x ≠ c := fun e => h (by simp [e])
    show splitF c (x :: (l ++ c :: r)) = _
    rw [splitF, if_neg hx, splitF_line l r fun hm => h (by simp [hm])]
def catF (ls : List Txt) : Txt := ls.flatMap fun l => l ++ [10]
theorem splitF_cat : ∀ (ls : List Txt), (∀ l ∈ ls, (10 : UInt8) ∉ l) → splitF 10 (catF ls) = ls ++ [[]]
  | [], _ => rfl
  | l :: ls, h => by
    show splitF 10 ((l ++ [10]) ++ catF ls) = _
    rw [List.append_assoc]
    show splitF 10 (l ++ 10 :: catF ls) = _
    rw [splitF_line _ _ (h l (by simp)), splitF_cat ls fun x hx => h x (by simp [hx])]
    rfl
theorem linesF_cat (ls : List Txt) (h : ∀ l ∈ ls, (10 : UInt8) ∉ l) : linesF (catF ls) = ls := by
  unfold linesF
  dsimp only
  rw [splitF_cat ls h, List.getLast?_concat, if_pos rfl, List.dropLast_concat]
theorem catF_append (a b : List Txt) : catF (a ++ b) = catF a ++ catF b := by simp [catF]
theorem parseF_cat (ls : List Txt) (h : ∀ l ∈ ls, (10 : UInt8) ∉ l) (hl : (catF ls).length ≤ 65536) : parseF (catF ls) = parseL ls 0 [] [] := by
  unfold parseF
  rw [if_neg (by omega), linesF_cat ls h]

/- texts in quotes -/
def escB (c : UInt8) : Txt := if c = 34 ∨ c = 92 then [92, c] else if c = 10 then [92, 110] else [c]
def escF (t : Txt) : Txt := t.flatMap escB
theorem quotedF_esc : ∀ (t r : Txt), quotedF (escF t ++ 34 :: r) = some (t, r)
  | [], r => by show quotedF (34 :: r) = _; unfold quotedF; rw [if_pos rfl]
  | c :: t, r => by
    have ih := quotedF_esc t r
    have e : escF (c :: t) ++ 34 :: r = escB c ++ (escF t ++ 34 :: r) := by simp [escF]
    rw [e]
    unfold escB
    by_cases h1 : c = 34 ∨ c = 92
    · rw [if_pos h1]
      show quotedF (92 :: c :: (escF t ++ 34 :: r)) = _
      unfold quotedF
      rw [if_neg (by decide), if_pos rfl]
      dsimp only
      rw [if_pos h1, ih]; rfl
    · rw [if_neg h1]
      have h34 : c ≠ 34 := fun e => h1 (.inl e)
      have h92 : c ≠ 92 := fun e => h1 (.inr e)
      by_cases h2 : c = 10
      · rw [if_pos h2]
        subst h2
        show quotedF (92 :: 110 :: (escF t ++ 34 :: r)) = _
        unfold quotedF
        rw [if_neg (by decide), if_pos rfl]
        dsimp only
        rw [if_neg (by decide), if_pos rfl, ih]; rfl
      · rw [if_neg h2]
        show quotedF (c :: (escF t ++ 34 :: r)) = _
        unfold quotedF
        rw [if_neg h34, if_neg h92, ih]; rfl
theorem escF_ten (t : Txt) : (10 : UInt8) ∉ escF t := by
  intro h
  obtain ⟨c, _, hc⟩ := List.mem_flatMap.1 h
  unfold escB at hc
  split at hc
  · simp at hc; rename_i h; rcases h with rfl | rfl <;> simp at hc
  · split at hc
    · simp at hc
    · rename_i h2; simp at hc; exact h2 hc.symm
theorem escF_len (t : Txt) : (escF t).length ≤ 2 * t.length := by
  induction t with
  | nil => simp [escF]
  | cons c t ih =>
    have : escF (c :: t) = escB c ++ escF t := by simp [escF]
    rw [this, List.length_append, List.length_cons]
    have : (escB c).length ≤ 2 := by unfold escB; split <;> (try split) <;> simp
    omega
/-- write f "t" -/
def qLine (t : Txt) : Txt := [119, 114, 105, 116, 101, 32, 102, 32, 34] ++ escF t ++ [34]
def qLn (t : Txt) : Ln := ⟨1, [102], [], t, 0, false⟩
theorem qLine_words (t : Txt) : wordsF (qLine t) = some [[119, 114, 105, 116, 101], [102], 34 :: t] := by
  have e : qLine t = 119 :: ([114, 105, 116, 101] ++ 32 :: 102 :: 32 :: 34 :: (escF t ++ [34])) := by simp [qLine]
  rw [e, wordsF_word (by decide) (by decide)]
  show (wordsF (32 :: 102 :: 32 :: 34 :: (escF t ++ [34]))).map _ = _
  rw [wordsF_blank (by decide), wordsF_word (by decide) (by decide)]
  show ((wordsF (32 :: 34 :: (escF t ++ [34]))).map _).map _ = _
  rw [wordsF_blank (by decide), wordsF_quote, quotedF_esc t []]
  rfl
theorem parse_q : ∀ (ts : List Txt) (i : Nat) (out : List Ln), out.length + ts.length ≤ 200 → parseL (ts.map qLine) i out [] = (some (out ++ ts.map qLn), 0)
  | [], i, out, _ => by show (if ([] : List Nat) = [] then _ else _) = _; rw [if_pos rfl]; simp
  | t :: ts, i, out, h => by
    simp only [List.length_cons] at h
    show parseL (qLine t :: ts.map qLine) i out [] = _
    unfold parseL
    rw [if_neg (fun e => by have : skipF (qLine t) = false := rfl; rw [this] at e; cases e), qLine_words]
    show (if out.length = 200 then _ else parseL (ts.map qLine) (i + 1) (out ++ [qLn t]) []) = _
    rw [if_neg (by omega), parse_q ts (i + 1) _ (by rw [List.length_append]; simp; omega)]
    simp
theorem qLine_ten (t : Txt) : (10 : UInt8) ∉ qLine t := by
  unfold qLine
  intro h
  rw [List.mem_append, List.mem_append] at h
  rcases h with (h | h) | h
  · revert h; decide
  · exact escF_ten t h
  · revert h; decide
theorem parse_quotes (ts : List Txt) (h : ts.length ≤ 10) (hl : ∀ t ∈ ts, t.length ≤ 200) : parseF (catF (ts.map qLine)) = (some (ts.map qLn), 0) := by
  have hlen : ∀ (ts : List Txt), (∀ t ∈ ts, t.length ≤ 200) → (catF (ts.map qLine)).length ≤ 411 * ts.length := by
    intro ts
    induction ts with
    | nil => intro _; simp [catF]
    | cons t ts ih =>
      intro h
      have h1 := h t (by simp)
      have h2 := ih fun x hx => h x (by simp [hx])
      have h3 := escF_len t
      have : (catF ((t :: ts).map qLine)).length = (qLine t).length + 1 + (catF (ts.map qLine)).length := by simp [catF]; omega
      rw [this, List.length_cons]
      have : (qLine t).length = 10 + (escF t).length := by unfold qLine; simp; omega
      omega
  have := hlen ts hl
  rw [parseF_cat _ (fun l hl => by obtain ⟨t, _, rfl⟩ := List.mem_map.1 hl; exact qLine_ten t) (by omega), parse_q ts 0 [] (by simp; omega)]
  simp

/- texts -/
/-- a line's text (kinds 1, 7, 10) -/
def oneText (x : Ln) : Txt :=
  if x.k = 1 then [119, 114, 105, 116, 101, 32] ++ x.a ++ [32, 34] ++ escF x.tx ++ [34]
  else if x.k = 7 then [105, 102, 32] ++ (if x.nt then [110, 111, 116, 32] else []) ++ [101, 120, 105, 115, 116, 115, 32] ++ x.a
  else [101, 110, 100]
def tabsOf (deep k : Nat) : Nat := if k = 10 then deep - 1 - 0 else deep
def deepOf (deep k : Nat) : Nat := if k = 10 then deep - 1 else if k = 7 then deep + 1 else deep
def textL : Nat → List Ln → Txt
  | _, [] => []
  | d, x :: l => List.replicate (tabsOf d x.k) 9 ++ oneText x ++ [10] ++ textL (deepOf d x.k) l
theorem text_quotes : ∀ ts : List Txt, textL 0 (ts.map qLn) = catF (ts.map qLine)
  | [] => rfl
  | t :: ts => by
    show ([] ++ oneText (qLn t) ++ [10]) ++ textL 0 (ts.map qLn) = _
    rw [text_quotes ts]
    have : oneText (qLn t) = qLine t := by unfold oneText qLine qLn; simp
    rw [this]
    simp [catF]

/- noise -/
def textsF : List Txt := [[99, 111, 112, 121, 32, 97, 32, 98], [119, 114, 105, 116, 101, 32, 97, 32, 34, 120, 34], [97, 112, 112, 101, 110, 100, 32, 98, 47, 99, 32, 34, 36, 118, 92, 110, 34], [109, 107, 100, 105, 114, 32, 100], [114, 101, 109, 111, 118, 101, 32, 97], [114, 101, 110, 97, 109, 101, 32, 97, 32, 101], [115, 101, 116, 32, 118, 32, 34, 49, 34], [105, 102, 32, 101, 120, 105, 115, 116, 115, 32, 97], [105, 102, 32, 110, 111, 116, 32, 101, 120, 105, 115, 116, 115, 32, 97], [114, 101, 112, 101, 97, 116, 32, 50], [101, 108, 115, 101], [101, 110, 100], [102, 97, 105, 108, 32, 34, 110, 111, 34]]
def textN (k : Nat) : Txt := textsF.getD k []
/-- the lines ahead of a text that is noisy, what stands ahead of it and behind it -/
def noiseA : Nat → List Txt × Txt
  | 0 => ([], [])
  | 1 => ([[]], [])
  | 2 => ([[35, 32, 34]], [])
  | 3 => ([], [32, 32, 9])
  | _ => ([[9, 35, 32, 120]], [32, 32, 32])
def noiseB : Nat → Txt
  | 0 => []
  | 1 => [32]
  | _ => [9, 32]
def noisy (k n : Nat) : List Txt := (noiseA (n % 5)).1 ++ [(noiseA (n % 5)).2 ++ textN k ++ noiseB (n % 3)]
theorem noise_ok' : (List.range 13).all (fun k => (List.range 15).all fun n => ((noiseA (n % 5)).1.all skipF) && (wordsF ((noiseA (n % 5)).2 ++ textN k ++ noiseB (n % 3)) == wordsF (textN k)) && (skipF ((noiseA (n % 5)).2 ++ textN k ++ noiseB (n % 3)) == skipF (textN k)) && ((noisy k n).all fun l => !l.contains 10) && (!(textN k).contains 10) && ((catF (noisy k n)).length ≤ 40) && ((catF [textN k]).length ≤ 40)) = true := by decide +kernel
theorem noise_mod (n : Nat) : (n % 15) % 5 = n % 5 ∧ (n % 15) % 3 = n % 3 := by omega
theorem noisy_mod (k n : Nat) : noisy k (n % 15) = noisy k n := by unfold noisy; rw [(noise_mod n).1, (noise_mod n).2]
structure NoiseOk (k n : Nat) : Prop where
  skip : ∀ l ∈ (noiseA (n % 5)).1, skipF l = true
  words : wordsF ((noiseA (n % 5)).2 ++ textN k ++ noiseB (n % 3)) = wordsF (textN k)
  same : skipF ((noiseA (n % 5)).2 ++ textN k ++ noiseB (n % 3)) = skipF (textN k)
  ten : ∀ l ∈ noisy k n, (10 : UInt8) ∉ l
  ten0 : (10 : UInt8) ∉ textN k
  len : (catF (noisy k n)).length ≤ 40
  len0 : (catF [textN k]).length ≤ 40
theorem noise_ok (k n : Nat) (hk : k < 13) : NoiseOk k n := by
  have h := List.all_eq_true.1 (List.all_eq_true.1 noise_ok' k (by simpa using hk)) (n % 15) (by simp; omega)
  rw [(noise_mod n).1, (noise_mod n).2, noisy_mod] at h
  simp only [Bool.and_eq_true, List.all_eq_true, beq_iff_eq, decide_eq_true_eq, Bool.not_eq_true', List.contains_eq_mem, decide_eq_false_iff_not] at h
  obtain ⟨⟨⟨⟨⟨⟨h1, h2⟩, h3⟩, h4⟩, h5⟩, h6⟩, h7⟩ := h
  exact ⟨h1, h2, h3, h4, h5, h6, h7⟩
/-- noise says nothing, but for where an error is -/
theorem parse_skips : ∀ (ns : List Txt) (ls : List Txt) (i : Nat) (out : List Ln) (o : List Nat), (∀ l ∈ ns, skipF l = true) → parseL (ns ++ ls) i out o = parseL ls (i + ns.length) out o
  | [], ls, i, out, o, _ => rfl
  | n :: ns, ls, i, out, o, h => by
    show parseL (n :: (ns ++ ls)) i out o = _
    rw [parseL, if_pos (h n (by simp)), parse_skips ns ls (i + 1) out o fun l hl => h l (by simp [hl])]
    rw [List.length_cons]; congr 1; omega
theorem parse_noise : ∀ (l : List (Nat × Nat)) (i j : Nat) (out : List Ln) (o : List Nat), (∀ p ∈ l, p.1 < 13) → (parseL (l.flatMap fun p => noisy p.1 p.2) i out o).1 = (parseL (l.map fun p => textN p.1) j out o).1
  | [], i, j, out, o, _ => by
    show (parseL [] i out o).1 = (parseL [] j out o).1
    unfold parseL
    split <;> rfl
  | (k, n) :: l, i, j, out, o, h => by
    have hk := noise_ok k n (h (k, n) (by simp))
    have hr := fun i j out o => parse_noise l i j out o fun p hp => h p (by simp [hp])
    show (parseL (((noiseA (n % 5)).1 ++ [(noiseA (n % 5)).2 ++ textN k ++ noiseB (n % 3)]) ++ _) i out o).1 = (parseL (textN k :: _) j out o).1
    rw [List.append_assoc, parse_skips _ _ _ _ _ hk.skip]
    show (parseL (((noiseA (n % 5)).2 ++ textN k ++ noiseB (n % 3)) :: _) _ out o).1 = _
    unfold parseL
    rw [hk.same, hk.words]
    split
    · exact hr _ _ _ _
    · cases wordsF (textN k) with
      | none => rfl
      | some w =>
        dsimp only
        cases lineF w with
        | none => rfl
        | some x =>
          dsimp only
          split
          · rfl
          · cases takeF o x.k with
            | none => rfl
            | some o' => exact hr _ _ _ _
def plainS (l : List (Nat × Nat)) : Txt := catF (l.map fun p => textN p.1)
def noisyS (l : List (Nat × Nat)) : Txt := catF (l.flatMap fun p => noisy p.1 p.2)
theorem parse_noisy (l : List (Nat × Nat)) (h : ∀ p ∈ l, p.1 < 13) (hl : l.length ≤ 20) : (parseF (noisyS l)).1 = (parseF (plainS l)).1 := by
  have h1 : ∀ (l : List (Nat × Nat)), (∀ p ∈ l, p.1 < 13) → (noisyS l).length ≤ 40 * l.length ∧ (plainS l).length ≤ 40 * l.length := by
    intro l
    induction l with
    | nil => intro _; exact ⟨Nat.le_refl _, Nat.le_refl _⟩
    | cons p l ih =>
      intro h
      obtain ⟨i1, i2⟩ := ih fun x hx => h x (by simp [hx])
      have hk := noise_ok p.1 p.2 (h p (by simp))
      have e1 : noisyS (p :: l) = catF (noisy p.1 p.2) ++ noisyS l := by unfold noisyS; rw [List.flatMap_cons, catF_append]
      have e2 : plainS (p :: l) = catF [textN p.1] ++ plainS l := by unfold plainS; rw [List.map_cons]; exact catF_append [_] _
      have := hk.len
      have := hk.len0
      rw [e1, e2, List.length_append, List.length_append, List.length_cons]
      omega
  obtain ⟨h2, h3⟩ := h1 l h
  unfold noisyS plainS
  rw [parseF_cat _ (fun x hx => ?_) (by have := h2; unfold noisyS at this; omega), parseF_cat _ (fun x hx => ?_) (by have := h3; unfold plainS at this; omega)]
  · exact parse_noise l 0 0 [] [] h
  · obtain ⟨p, hp, rfl⟩ := List.mem_map.1 hx
    exact (noise_ok p.1 0 (h p hp)).ten0
  · obtain ⟨p, hp, hx⟩ := List.mem_flatMap.1 hx
    exact (noise_ok p.1 p.2 (h p hp)).ten x hx

/- how many -/
def mkL : Txt := [109, 107, 100, 105, 114, 32, 97]
theorem many_ok : (List.range 5).all (fun j => parseF (catF (List.replicate (198 + j) mkL)) == (if j ≤ 2 then (some (List.replicate (198 + j) ⟨3, [97], [], [], 0, false⟩), 0) else (none, 201))) = true := by decide +kernel
def ifL : Txt := [105, 102, 32, 101, 120, 105, 115, 116, 115, 32, 97]
def rpL : Txt := [114, 101, 112, 101, 97, 116, 32, 49]
def endL : Txt := [101, 110, 100]
def deepL (d n : Nat) : List Txt := (List.range d).map (fun i => if (i + n) % 2 = 0 then ifL else rpL) ++ List.replicate d endL
theorem deep_ok : (List.range 12).all (fun d => (List.range 2).all fun n => match parseF (catF (deepL d n)) with
    | (some l, at_) => d ≤ 8 && l.length == 2 * d && at_ == 0
    | (none, at_) => 8 < d && at_ == 9) = true := by decide +kernel
end Go.Scr
/- Small laws of strings and rows that all the texts behind share. -/
namespace Go.Proofs.YtjcmcmogbkdjcaaDoor
open Go Go.Vc Go.Scr
theorem mixed : Tryd.prog.follows .mixedOrders = true := by kernel_rfl
theorem ne_nat (n : Nat) (hn : n < 256) {c : UInt8} (h : c ≠ UInt8.ofNat n) : c.toNat ≠ n := fun e => h (UInt8.toNat_inj.1 (by rw [UInt8.toNat_ofNat']; omega))
theorem drop_get {l : Bs} {i : Nat} (h : i < l.length) : ∃ c, (mkS l).data.toList.getD i 0 = c ∧ l.drop i = c :: l.drop (i + 1) := ⟨l[i], by show l.getD i 0 = _; rw [List.getD_eq_getElem?_getD, List.getElem?_eq_getElem h]; rfl, List.drop_eq_getElem_cons h⟩
theorem own_snoc {H : Heap} {b : Nat} {e : TypeId} {a : Option Addr} {cap : Nat} {l : Bs} {c : UInt8} (h : Own H b e 1 a (l.length + 1) cap (strV l ++ [.int .u8 c.toNat])) : Own H b e 1 a (l ++ [c]).length cap (strV (l ++ [c])) := by
  rw [strV_append, List.length_append]; exact h
theorem sl_snoc (a : Option Addr) (l : Bs) (c : UInt8) (cap : Nat) : Value.slice a (l.length + 1) cap = Value.slice a (l ++ [c]).length cap := by rw [List.length_append]; rfl
theorem ne_empty (c : UInt8) (t : Bs) : ((mkS (c :: t)).toList == (⟨#[]⟩ : ByteArray).toList) = false := by
  rw [str_beq, decide_eq_false_iff_not]
  intro h
  have := congrArg ByteArray.size h
  cases this
theorem own_snocS {H : Heap} {b : Nat} {e : TypeId} {a : Option Addr} {cap : Nat} {l : List Bs} {c : Bs} {s : ByteArray} (hs : s = mkS c) (h : Own H b e 1 a (l.length + 1) cap (strs l ++ [.string s])) : Own H b e 1 a (l ++ [c]).length cap (strs (l ++ [c])) := by
  rw [strs_append, List.length_append]; subst hs; exact h
theorem sl_snocS (a : Option Addr) (l : List Bs) (c : Bs) (cap : Nat) : Value.slice a (l.length + 1) cap = Value.slice a (l ++ [c]).length cap := by rw [List.length_append]; rfl
theorem own_lit {H : Heap} {g base : Nat} {e : TypeId} {xs : List Value} {n : Nat} (h : Blk H g xs.toArray e) (hb : base ≤ g) (hn : xs.length = n) (hm : n ≤ 1000000) : Own H base e 1 (some ⟨g, 0, none⟩) n n xs :=
  ⟨by omega, .inr ⟨g, xs.toArray, rfl, hb, h, Nat.le_refl _, by unfold maxLen; omega, by simp [hn], by simp [← hn]⟩⟩
theorem getD_drop (l : Bs) (i j : Nat) : (l.drop i).getD j 0 = l.getD (i + j) 0 := by rw [List.getD_eq_getElem?_getD, List.getD_eq_getElem?_getD, List.getElem?_drop]
theorem drop_getD {l : Bs} {i : Nat} {c : UInt8} {t : Bs} (h : l.drop i = c :: t) : l.getD i 0 = c := by
  have := getD_drop l i 0
  rw [h] at this; simpa using this.symm
end Go.Proofs.YtjcmcmogbkdjcaaDoor
/- Paths, plain: parts, what a path is cleaned to, what stands above and below it. -/
namespace Go.Pth
open Go.Scr
def badC (c : UInt8) : Bool := decide (c.toNat < 33) || decide (126 < c.toNat) || c.toNat == 34 || c.toNat == 92 || c.toNat == 42 || c.toNat == 63 || c.toNat == 58
def badP (s : Txt) : Bool := decide (32 < s.length) || s.any badC
def glue : List Txt → Txt
  | [] => []
  | [x] => x
  | x :: y :: l => x ++ 47 :: glue (y :: l)
def walkF (stay : Nat) (l : List Txt) : List Txt → List Txt × Nat
  | [] => if 12 < l.length then ([], 50) else (l, 0)
  | x :: xs => if x = [] ∨ x = [46] then walkF stay l xs
    else if x = [46, 46] then (if l.length ≤ stay then ([], 51) else walkF stay l.dropLast xs)
    else if badP x = true then ([], 50) else walkF stay (l ++ [x]) xs
def partsF (p : Txt) : List Txt := if p = [] then [] else splitF 47 p
def joinP (d s : Txt) : Txt × Nat :=
  if 200 < (if d = [] then 0 else d.length + 1) + s.length then ([], 50)
  else if s.head? = some 47 then ([], 51)
  else (glue (walkF (partsF d).length (partsF d) (splitF 47 s)).1, (walkF (partsF d).length (partsF d) (splitF 47 s)).2)
def cleanF (s : Txt) : Txt × Nat := joinP [] s
def parentF (p : Txt) : Txt := glue (partsF p).dropLast
def withinF (p d : Txt) : Bool := d == [] || p == d || (d ++ [47]).isPrefixOf p
/-- the directories above a path, the outermost first -/
def pars (p : Txt) : List Txt := (List.range ((partsF p).length - 1)).map fun i => glue ((partsF p).take (i + 1))
structure GoodP (x : Txt) : Prop where
  ne : x ≠ []
  dot : x ≠ [46]
  dots : x ≠ [46, 46]
  ok : badP x = false
  no : (47 : UInt8) ∉ x
structure CleanL (l : List Txt) : Prop where
  good : ∀ x ∈ l, GoodP x
  deep : l.length ≤ 12
  long : (glue l).length ≤ 200
def CleanP (p : Txt) : Prop := ∃ l, p = glue l ∧ CleanL l

theorem split_none {c : UInt8} : ∀ {l : Txt}, c ∉ l → splitF c l = [l]
  | [], _ => rfl
  | x :: l, h => by
    have hx : x ≠ c := fun e => h (by simp [e])
    rw [splitF, if_neg hx, split_none (l := l) fun hm => h (by simp [hm])]
theorem glue_cons (x : Txt) {l : List Txt} (h : l ≠ []) : glue (x :: l) = x ++ 47 :: glue l := by
  cases l with
  | nil => exact absurd rfl h
  | cons y l => rfl
theorem split_glue : ∀ {l : List Txt}, (∀ x ∈ l, (47 : UInt8) ∉ x) → l ≠ [] → splitF 47 (glue l) = l
  | [], _, h => absurd rfl h
  | [x], h, _ => split_none (h x (by simp))
  | x :: y :: l, h, _ => by
    rw [glue_cons x (by simp), splitF_line _ _ (h x (by simp)), split_glue (l := y :: l) (fun z hz => h z (by simp [hz])) (by simp)]
theorem split_ne (c : UInt8) : ∀ s : Txt, splitF c s ≠ []
  | [] => by simp [splitF]
  | x :: t => by
    rw [splitF]
    split
    · simp
    · split <;> simp
theorem glue_split : ∀ s : Txt, glue (splitF 47 s) = s
  | [] => rfl
  | x :: t => by
    have ih := glue_split t
    rw [splitF]
    split
    · rename_i h; rw [glue_cons _ (split_ne _ _), ih, h]; rfl
    · cases ht : splitF 47 t with
      | nil => exact absurd ht (split_ne _ _)
      | cons w l =>
        rw [ht] at ih
        cases l with
        | nil => show x :: w = _; rw [← ih]; rfl
        | cons y l => rw [← ih]; rfl
theorem split_no (c : UInt8) : ∀ (s : Txt), ∀ x ∈ splitF c s, c ∉ x
  | [], x, h => by simp [splitF] at h; subst h; simp
  | a :: t, x, h => by
    rw [splitF] at h
    split at h
    · rcases List.mem_cons.1 h with h | h
      · subst h; simp
      · exact split_no c t x h
    · rename_i hac
      cases ht : splitF c t with
      | nil => exact absurd ht (split_ne _ _)
      | cons w l =>
        rw [ht] at h
        have ih := split_no c t
        rw [ht] at ih
        rcases List.mem_cons.1 h with h | h
        · subst h
          intro hm
          rcases List.mem_cons.1 hm with e | e
          · exact hac e.symm
          · exact ih w (by simp) e
        · exact ih x (by simp [h])
/-- the bytes of parts, each with one more -/
def glen (l : List Txt) : Nat := (l.map fun x => x.length + 1).sum
theorem glen_append (a b : List Txt) : glen (a ++ b) = glen a + glen b := by simp [glen]
theorem glue_len : ∀ {l : List Txt}, l ≠ [] → (glue l).length + 1 = glen l
  | [], h => absurd rfl h
  | [x], _ => by simp [glue, glen]
  | x :: y :: l, _ => by
    have := glue_len (l := y :: l) (by simp)
    rw [glue_cons x (by simp), List.length_append, List.length_cons]
    have e : glen (x :: y :: l) = x.length + 1 + glen (y :: l) := by simp [glen]
    omega
theorem glue_le (l : List Txt) : (glue l).length ≤ glen l := by
  by_cases h : l = []
  · subst h; exact Nat.zero_le _
  · have := glue_len h; omega
theorem glen_split (s : Txt) : glen (splitF 47 s) = s.length + 1 := by rw [← glue_len (split_ne 47 s), glue_split]
theorem dropLast_sub {α : Type} (l : List α) : l.dropLast.Sublist l := List.dropLast_sublist l
theorem glen_dropLast (l : List Txt) : glen l.dropLast ≤ glen l := by
  by_cases h : l = []
  · subst h; exact Nat.le_refl _
  · have := congrArg glen (List.dropLast_concat_getLast h)
    rw [glen_append] at this; omega
structure WalkOk (l xs : List Txt) (r : List Txt × Nat) : Prop where
  code : r.2 = 0 ∨ r.2 = 50 ∨ r.2 = 51
  bad : r.2 ≠ 0 → r.1 = []
  deep : r.1.length ≤ 12
  len : glen r.1 ≤ glen l + glen xs
  good : (∀ x ∈ l, GoodP x) → (∀ x ∈ xs, (47 : UInt8) ∉ x) → ∀ x ∈ r.1, GoodP x
theorem walk_ok (stay : Nat) : ∀ (xs l : List Txt), WalkOk l xs (walkF stay l xs)
  | [], l => by
    rw [walkF]
    split
    · exact ⟨by simp, fun _ => rfl, by simp, Nat.zero_le _, fun _ _ x h => by cases h⟩
    · exact ⟨by simp, fun h => absurd rfl h, by show l.length ≤ 12; omega, Nat.le_add_right _ _, fun h _ => h⟩
  | x :: xs, l => by
    have e : glen (x :: xs) = x.length + 1 + glen xs := by simp [glen]
    have hB : ∀ n, (n = 0 ∨ n = 50 ∨ n = 51) → WalkOk l (x :: xs) ([], n) := fun n hn => ⟨hn, fun _ => rfl, by simp, Nat.zero_le _, fun _ _ x h => by cases h⟩
    rw [walkF]
    split
    · have ih := walk_ok stay xs l
      exact ⟨ih.code, ih.bad, ih.deep, by have := ih.len; omega, fun h1 h2 => ih.good h1 fun y hy => h2 y (by simp [hy])⟩
    · rename_i h1
      split
      · split
        · exact hB _ (by simp)
        · have ih := walk_ok stay xs l.dropLast
          exact ⟨ih.code, ih.bad, ih.deep, by have := ih.len; have := glen_dropLast l; omega, fun h1 h2 => ih.good (fun y hy => h1 y ((dropLast_sub l).subset hy)) fun y hy => h2 y (by simp [hy])⟩
      · rename_i h2
        split
        · exact hB _ (by simp)
        · rename_i h3
          have ih := walk_ok stay xs (l ++ [x])
          refine ⟨ih.code, ih.bad, ih.deep, ?_, fun g1 g2 => ih.good (fun y hy => ?_) fun y hy => g2 y (by simp [hy])⟩
          · have := ih.len; rw [glen_append] at this; have : glen [x] = x.length + 1 := by simp [glen]
            omega
          · rcases List.mem_append.1 hy with hy | hy
            · exact g1 y hy
            · rw [List.mem_singleton] at hy; subst hy
              exact ⟨fun e => h1 (.inl e), fun e => h1 (.inr e), h2, by simpa using h3, g2 y (by simp)⟩
theorem walk_id (stay : Nat) : ∀ (xs l : List Txt), (∀ x ∈ xs, GoodP x) → l.length + xs.length ≤ 12 → walkF stay l xs = (l ++ xs, 0)
  | [], l, _, h => by rw [walkF, if_neg (by simp at h; omega), List.append_nil]
  | x :: xs, l, hg, h => by
    have g := hg x (by simp)
    rw [walkF, if_neg (fun e => e.elim g.ne g.dot), if_neg g.dots, if_neg (by rw [g.ok]; simp), walk_id stay xs (l ++ [x]) (fun y hy => hg y (by simp [hy])) (by simp at h ⊢; omega)]
    simp
theorem glue_nil {l : List Txt} (h : ∀ x ∈ l, GoodP x) (hn : l ≠ []) : glue l ≠ [] := by
  cases l with
  | nil => exact absurd rfl hn
  | cons x l =>
    have := (h x (by simp)).ne
    cases l with
    | nil => exact this
    | cons y l => rw [glue_cons x (by simp)]; simp
theorem parts_glue {l : List Txt} (h : ∀ x ∈ l, GoodP x) : partsF (glue l) = l := by
  unfold partsF
  by_cases hn : l = []
  · subst hn; rfl
  · rw [if_neg (glue_nil h hn), split_glue (fun x hx => (h x hx).no) hn]
theorem glue_inj {l k : List Txt} (h : ∀ x ∈ l, GoodP x) (h' : ∀ x ∈ k, GoodP x) (e : glue l = glue k) : l = k := by
  rw [← parts_glue h, e, parts_glue h']
theorem glue_parts (p : Txt) : glue (partsF p) = p := by
  unfold partsF
  split
  · rename_i h; subst h; rfl
  · exact glue_split p
theorem join_cases (s : Txt) : joinP [] s = ([], 50) ∨ joinP [] s = ([], 51) ∨ s.length ≤ 200 ∧ joinP [] s = (glue (walkF 0 [] (splitF 47 s)).1, (walkF 0 [] (splitF 47 s)).2) := by
  unfold joinP
  rw [if_pos (rfl : ([] : Txt) = []), Nat.zero_add]
  by_cases h1 : 200 < s.length
  · rw [if_pos h1]; exact .inl rfl
  · rw [if_neg h1]
    by_cases h2 : s.head? = some 47
    · rw [if_pos h2]; exact .inr (.inl rfl)
    · rw [if_neg h2]; exact .inr (.inr ⟨by omega, rfl⟩)
theorem clean_ok {s p : Txt} (h : cleanF s = (p, 0)) : CleanP p ∧ p.length ≤ s.length := by
  unfold cleanF at h
  have hw := walk_ok 0 (splitF 47 s) []
  rcases join_cases s with e | e | ⟨hs, e⟩ <;> rw [e] at h
  · simp at h
  · simp at h
  · obtain ⟨r, hr⟩ : ∃ r, walkF 0 [] (splitF 47 s) = r := ⟨_, rfl⟩
    rw [hr] at h hw
    have e1 : glue r.1 = p := congrArg Prod.fst h
    have hl := hw.len
    rw [glen_split] at hl
    have hlen : p.length ≤ s.length := by
      rw [← e1]
      by_cases hn : r.1 = []
      · rw [hn]; exact Nat.zero_le _
      · have := glue_len hn
        have e : glen [] = 0 := rfl
        omega
    refine ⟨⟨r.1, e1.symm, hw.good (fun x hx => by cases hx) (split_no 47 s), hw.deep, ?_⟩, hlen⟩
    rw [e1]; omega
theorem clean_code (s : Txt) : ((cleanF s).2 = 0 ∨ (cleanF s).2 = 50 ∨ (cleanF s).2 = 51) ∧ ((cleanF s).2 ≠ 0 → (cleanF s).1 = []) := by
  unfold cleanF
  have hw := walk_ok 0 (splitF 47 s) []
  rcases join_cases s with e | e | ⟨_, e⟩ <;> rw [e]
  · exact ⟨by simp, fun _ => rfl⟩
  · exact ⟨by simp, fun _ => rfl⟩
  · exact ⟨hw.code, fun h => by show glue _ = []; rw [hw.bad h]; rfl⟩
theorem no_head {p : Txt} {l : List Txt} (h : ∀ x ∈ l, GoodP x) : (glue l).head? ≠ some 47 := by
  cases l with
  | nil => simp [glue]
  | cons x l =>
    have g := h x (by simp)
    have hx : x.head? ≠ some 47 := fun e => g.no (List.mem_of_mem_head? e)
    cases l with
    | nil => exact hx
    | cons y l =>
      rw [glue_cons x (by simp)]
      cases x with
      | nil => exact absurd rfl g.ne
      | cons c x => exact hx
theorem clean_id {l : List Txt} (h : CleanL l) : cleanF (glue l) = (glue l, 0) := by
  unfold cleanF joinP
  rw [if_neg (by have := h.long; simp; omega), if_neg (no_head (p := []) h.good)]
  show (glue (walkF 0 [] (splitF 47 (glue l))).1, (walkF 0 [] (splitF 47 (glue l))).2) = _
  by_cases hn : l = []
  · subst hn; rfl
  · rw [split_glue (fun x hx => (h.good x hx).no) hn, walk_id 0 l [] h.good (by simpa using h.deep)]; rfl
theorem CleanP.id {p : Txt} (h : CleanP p) : cleanF p = (p, 0) := by
  obtain ⟨l, rfl, h⟩ := h; exact clean_id h
theorem CleanP.parts {p : Txt} (h : CleanP p) : CleanL (partsF p) := by
  obtain ⟨l, rfl, h⟩ := h; rw [parts_glue h.good]; exact h
theorem CleanP.nil : CleanP [] := ⟨[], rfl, by simp, by simp, by simp [glue]⟩
theorem take_glen (l : List Txt) (k : Nat) : glen (l.take k) ≤ glen l := by
  have := congrArg glen (List.take_append_drop k l); rw [glen_append] at this; omega
theorem CleanL.take {l : List Txt} (h : CleanL l) (k : Nat) : CleanL (l.take k) := by
  refine ⟨fun x hx => h.good x (List.mem_of_mem_take hx), by have := h.deep; simp; omega, ?_⟩
  by_cases h1 : l.take k = []
  · rw [h1]; simp [glue]
  · have h2 : l ≠ [] := fun e => h1 (by simp [e])
    have := glue_len h1; have := glue_len h2; have := take_glen l k; have := h.long; omega
/-- above a path and below it -/
theorem glue_app : ∀ {a b : List Txt}, a ≠ [] → b ≠ [] → glue (a ++ b) = glue a ++ 47 :: glue b
  | [], _, h, _ => absurd rfl h
  | [x], b, _, hb => glue_cons x hb
  | x :: y :: a, b, _, hb => by
    rw [List.cons_append, glue_cons x (by simp), glue_app (a := y :: a) (by simp) hb, glue_cons x (by simp)]
    simp
theorem pre_split : ∀ (a : List Txt) (s t : Txt), a ≠ [] → (∀ x ∈ a, (47 : UInt8) ∉ x) → s = glue a ++ 47 :: t → splitF 47 s = a ++ splitF 47 t
  | [], _, _, h, _, _ => absurd rfl h
  | [x], s, t, _, h, e => by rw [e]; exact splitF_line x t (h x (by simp))
  | x :: y :: a, s, t, _, h, e => by
    rw [e, glue_cons x (by simp)]
    show splitF 47 ((x ++ 47 :: glue (y :: a)) ++ 47 :: t) = _
    rw [List.append_assoc, List.cons_append, splitF_line _ _ (h x (by simp)), pre_split (y :: a) _ t (by simp) (fun z hz => h z (by simp [hz])) rfl]
    rfl
theorem within_iff {l k : List Txt} (h : ∀ x ∈ l, GoodP x) (h' : ∀ x ∈ k, GoodP x) : withinF (glue l) (glue k) = true ↔ k <+: l := by
  unfold withinF
  rw [Bool.or_eq_true, Bool.or_eq_true, beq_iff_eq, beq_iff_eq, List.isPrefixOf_iff_prefix]
  constructor
  · rintro ((e | e) | e)
    · by_cases hk : k = []
      · subst hk; exact List.nil_prefix
      · exact absurd e (glue_nil h' hk)
    · rw [glue_inj h h' e]; exact List.prefix_refl _
    · obtain ⟨t, e⟩ := e
      by_cases hk : k = []
      · subst hk; exact List.nil_prefix
      have hl : l ≠ [] := by rintro rfl; simp [glue] at e
      have e1 := pre_split k (glue l) t hk (fun x hx => (h' x hx).no) (by rw [← e]; simp)
      rw [split_glue (fun x hx => (h x hx).no) hl] at e1
      exact ⟨_, e1.symm⟩
  · rintro ⟨t, rfl⟩
    by_cases hk : k = []
    · subst hk; exact .inl (.inl rfl)
    by_cases ht : t = []
    · subst ht; exact .inl (.inr (by simp))
    · exact .inr ⟨glue t, by rw [glue_app hk ht]; simp⟩
theorem glue_drop {k r : List Txt} (hk : k ≠ []) : (glue (k ++ r)).drop (glue k).length = if r = [] then [] else 47 :: glue r := by
  split
  · rename_i h; subst h; simp
  · rename_i h; rw [glue_app hk h]; simp
theorem glue_move {k r m : List Txt} (hk : k ≠ []) (hm : m ≠ []) : glue m ++ (glue (k ++ r)).drop (glue k).length = glue (m ++ r) := by
  rw [glue_drop hk]
  split
  · rename_i h; subst h; simp
  · rename_i h; rw [glue_app hm h]
/-- a path's parents by its last part's place -/
theorem parent_take (p : Txt) : parentF p = glue ((partsF p).take ((partsF p).length - 1)) := by unfold parentF; rw [List.dropLast_eq_take]
theorem parent_glue {l : List Txt} (h : ∀ x ∈ l, GoodP x) : parentF (glue l) = glue l.dropLast := by unfold parentF; rw [parts_glue h]
theorem pars_len (p : Txt) : (pars p).length = (partsF p).length - 1 := by simp [pars]
theorem pars_get (p : Txt) {i : Nat} (h : i < (partsF p).length - 1) : (pars p)[i]? = some (glue ((partsF p).take (i + 1))) := by
  unfold pars; rw [List.getElem?_map, List.getElem?_range h]; rfl
end Go.Pth
