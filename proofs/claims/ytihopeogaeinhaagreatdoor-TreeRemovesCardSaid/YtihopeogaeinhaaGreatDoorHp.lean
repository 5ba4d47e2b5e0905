import Derived.Test.YtihopeogaeinhaaGreatDoorVc
import Derived.Laws.AppendOwn
import Derived.Laws.OwnMore
set_option linter.unusedSimpArgs false
set_option linter.unusedVariables false
set_option linter.unusedSimpArgs false
set_option maxRecDepth 100000
/- Heaps: what a step leaves alone; whole blocks; slices that are read; slices of the call's own; the rules of the operations on memory. -/
namespace Go.Vc
variable {P : Program} {H H' : Heap}

def hcell (H : Heap) (p : Addr) : Option Value :=
  match H[p.block]? with
  | some (.cells c _ _) => if p.spot.isSome then none else c[p.off]?
  | _ => none
theorem cell_heap (w : World) (p : Addr) : w.cell? p = hcell w.heap p := rfl

/-- from H to H' only blocks that meet F have been written; new ones may have come -/
structure Only (F : Nat → Prop) (H H' : Heap) : Prop where
  size : H.size ≤ H'.size
  same : ∀ b, b < H.size → ¬ F b → H'[b]? = H[b]?
abbrev Ext (H H' : Heap) : Prop := Only (fun _ => False) H H'
abbrev But (b : Nat) (H H' : Heap) : Prop := Only (fun x => x = b) H H'

theorem Only.refl (F : Nat → Prop) (H : Heap) : Only F H H := ⟨Nat.le_refl _, fun _ _ _ => rfl⟩
theorem Ext.refl (H : Heap) : Ext H H := Only.refl _ H
theorem Only.trans {F G : Nat → Prop} {A B C : Heap} (h : Only F A B) (k : Only G B C) (hG : ∀ b, b < A.size → G b → F b) : Only F A C :=
  ⟨Nat.le_trans h.size k.size, fun b hb hF => (k.same b (Nat.lt_of_lt_of_le hb h.size) fun g => hF (hG b hb g)).trans (h.same b hb hF)⟩
theorem Ext.trans {A B C : Heap} (h : Ext A B) (k : Ext B C) : Ext A C := Only.trans h k fun _ _ => id
theorem Only.ext {F : Nat → Prop} {A B C : Heap} (h : Only F A B) (k : Ext B C) : Only F A C := Only.trans h k fun _ _ h => h.elim
theorem Ext.but {A B C : Heap} {b : Nat} (h : Ext A B) (k : But b B C) (hb : A.size ≤ b) : Ext A C := Only.trans h k fun x hx e => by subst e; omega
theorem Ext.only {F : Nat → Prop} (h : Ext H H') : Only F H H' := ⟨h.size, fun b hb _ => h.same b hb id⟩
theorem Only.push (F : Nat → Prop) (H : Heap) (o : Obj) : Only F H (H.push o) :=
  ⟨by simp, fun b hb _ => by rw [Array.getElem?_push, if_neg (by omega)]⟩
theorem Only.set (H : Heap) (b : Nat) (o : Obj) : But b H (H.setIfInBounds b o) :=
  ⟨by simp, fun x hx hne => Array.getElem?_setIfInBounds_ne (fun e => hne e.symm)⟩

/-- block b is these cells, nothing of it frozen -/
structure Blk (H : Heap) (b : Nat) (c : Array Value) (t : TypeId) : Prop where out : ∃ fr : Nat × Nat, H[b]? = some (.cells c t fr) ∧ (fr.2 ≤ fr.1 ∨ c.size ≤ fr.1)
theorem Blk.lt {b : Nat} {c : Array Value} {t : TypeId} (h : Blk H b c t) : b < H.size := let ⟨_, h, _⟩ := h.out; (Array.getElem?_eq_some_iff.1 h).1
theorem Blk.new {b : Nat} {c : Array Value} {t : TypeId} (h : H[b]? = some (.cells c t (0, 0))) : Blk H b c t := ⟨_, h, .inl (Nat.le_refl _)⟩
theorem Blk.keep {F : Nat → Prop} {b : Nat} {c : Array Value} {t : TypeId} (h : Blk H b c t) (k : Only F H H') (hb : ¬ F b) : Blk H' b c t := let ⟨fr, h1, h2⟩ := h.out; ⟨fr, (k.same b h.lt hb).trans h1, h2⟩
theorem Blk.ext {b : Nat} {c : Array Value} {t : TypeId} (h : Blk H b c t) (k : Ext H H') : Blk H' b c t := h.keep k id
theorem Blk.but {b g : Nat} {c : Array Value} {t : TypeId} (h : Blk H b c t) (k : But g H H') (hb : b ≠ g) : Blk H' b c t := h.keep k hb
theorem Blk.cell {b : Nat} {c : Array Value} {t : TypeId} (h : Blk H b c t) (i : Nat) : hcell H ⟨b, i, none⟩ = c[i]? := by obtain ⟨fr, h1, _⟩ := h.out; simp [hcell, h1]

theorem hcell_keep {F : Nat → Prop} {p : Addr} {v : Value} (h : hcell H p = some v) (k : Only F H H') (hb : ¬ F p.block) : hcell H' p = some v := by
  have hlt : p.block < H.size := by
    unfold hcell at h
    split at h
    · rename_i hh; exact (Array.getElem?_eq_some_iff.1 hh).1
    · cases h
  unfold hcell at h ⊢
  rw [k.same _ hlt hb]
  exact h
theorem hcell_lt {p : Addr} {v : Value} (h : hcell H p = some v) : p.block < H.size := by
  unfold hcell at h
  split at h
  · rename_i hh; exact (Array.getElem?_eq_some_iff.1 hh).1
  · cases h

/- ---------- loads ---------- -/
theorem SemH.load {t : TypeId} {p : Addr} {v : Value} {K : Value → Heap → Prop} (hT : aggB P t = some false) (hc : hcell H p = some v) (hk : K v H) : SemH P (Instr.loadAt t (.pointer (some p))) H K := by
  refine ⟨fun w hw => ⟨v, w, ?_, Same.refl w, hw ▸ hk⟩⟩
  have hc' : w.cell? p = some v := by rw [cell_heap, hw]; exact hc
  simp [Instr.loadAt, Instr.sureAddr, loadVar, isAgg_of hT, Go.load, Sem.run, hc']

theorem run_loadCellsFrom {w : World} {p : Addr} : ∀ (vs : List Value) (i : Nat) (acc : Array Value), (∀ j v, vs[j]? = some v → w.cell? (p.add (i + j)) = some v) →
    (loadCellsFrom p i vs.length acc).run P w = .ok (acc ++ vs.toArray) w
  | [], i, acc, _ => by simp [loadCellsFrom]
  | x :: vs, i, acc, h => by
    have h0 : w.cell? (p.add i) = some x := h 0 x rfl
    have ih := run_loadCellsFrom vs (i + 1) (acc.push x) fun j v hv => by have := h (j + 1) v (by simpa using hv); rwa [show i + (j + 1) = i + 1 + j by omega] at this
    simp only [List.length_cons, loadCellsFrom, Sem.run_bind]
    have : (Go.load (p.add i)).run P w = .ok x w := by simp [Go.load, Sem.run, h0]
    rw [this]
    simp only [Result.andThen_ok, ih]
    congr 1
    simp
theorem addk (b o k : Nat) : (⟨b, o, none⟩ : Addr).add k = ⟨b, o + k, none⟩ := by unfold Addr.add; split <;> simp_all

theorem SemH.load_agg {t : TypeId} {i : TypeInfo} {b o : Nat} {vs : List Value} {K : Value → Heap → Prop} (hT : aggB P t = some true) (hi : P.info? t = some i) (hn : i.size = vs.length)
    (hc : ∀ j v, vs[j]? = some v → hcell H ⟨b, o + j, none⟩ = some v) (hk : K (.agg vs.toArray) H) : SemH P (Instr.loadAt t (.pointer (some ⟨b, o, none⟩))) H K := by
  refine ⟨fun w hw => ⟨_, w, ?_, Same.refl w, hw ▸ hk⟩⟩
  have := run_loadCellsFrom (P := P) (w := w) (p := ⟨b, o, none⟩) vs 0 #[] fun j v hv => by
    rw [addk, Nat.zero_add, cell_heap, hw]; exact hc j v hv
  simp only [Instr.loadAt, Instr.sureAddr, Sem.run_bind, Sem.run_pure, Result.andThen_ok, loadVar, isAgg_of hT, if_true, sizeOf_of hi, loadCells, hn, this]
  simp
/-- a whole variable -/
theorem SemH.load_blk {t e : TypeId} {i : TypeInfo} {b : Nat} {c : Array Value} {K : Value → Heap → Prop} (hb : Blk H b c e) (hT : aggB P t = some true) (hi : P.info? t = some i) (hn : i.size = c.size)
    (hk : K (.agg c) H) : SemH P (Instr.loadAt t (.pointer (some ⟨b, 0, none⟩))) H K := by
  refine SemH.load_agg (vs := c.toList) hT hi (by simpa using hn) (fun j v hv => ?_) (by simpa using hk)
  rw [Nat.zero_add, hb.cell]; simpa using hv
theorem SemH.load_part {t e : TypeId} {i : TypeInfo} {b o : Nat} {c : Array Value} {K : Value → Heap → Prop} (hb : Blk H b c e) (hT : aggB P t = some true) (hi : P.info? t = some i) (hn : o + i.size ≤ c.size)
    (hk : K (.agg (c.extract o (o + i.size))) H) : SemH P (Instr.loadAt t (.pointer (some ⟨b, o, none⟩))) H K := by
  refine SemH.load_agg (vs := (c.extract o (o + i.size)).toList) hT hi (by rw [Array.length_toList, Array.size_extract]; omega) (fun j v hv => ?_) (by rw [Array.toArray_toList]; exact hk)
  rw [Array.getElem?_toList] at hv
  rw [hb.cell]
  rw [Array.getElem?_extract] at hv
  split at hv
  · exact hv
  · cases hv

/-- a part of a block that is known -/
theorem SemH.load_sub {t e : TypeId} {i : TypeInfo} {b o : Nat} {c cs : Array Value} {K : Value → Heap → Prop} (hb : Blk H b c e) (hT : aggB P t = some true) (hi : P.info? t = some i) (hn : i.size = cs.size) (hc : ∀ j v, cs[j]? = some v → c[o + j]? = some v)
    (hk : K (.agg cs) H) : SemH P (Instr.loadAt t (.pointer (some ⟨b, o, none⟩))) H K := by
  refine SemH.load_agg (vs := cs.toList) hT hi (by simpa using hn) (fun j v hv => ?_) (by simpa using hk)
  rw [hb.cell]
  exact hc j v (by simpa using hv)

/- ---------- stores ---------- -/
/-- cells written over others from i on -/
def over (c : Array Value) : Nat → List Value → Array Value
  | _, [] => c
  | i, v :: vs => over (c.setIfInBounds i v) (i + 1) vs
theorem over_size (vs : List Value) : ∀ (c : Array Value) (i : Nat), (over c i vs).size = c.size := by
  induction vs with
  | nil => intros; rfl
  | cons v vs ih => intro c i; simp [over, ih]
theorem over_get (vs : List Value) : ∀ (c : Array Value) (i k : Nat), i + vs.length ≤ c.size → (over c i vs)[k]? = if i ≤ k ∧ k < i + vs.length then vs[k - i]? else c[k]? := by
  induction vs with
  | nil => intro c i k _; rw [if_neg (by simp only [List.length_nil]; omega)]; rfl
  | cons v vs ih =>
    intro c i k h
    simp only [over, List.length_cons] at *
    rw [ih _ _ _ (by rw [Array.size_setIfInBounds]; omega)]
    by_cases hk : k = i
    · subst hk
      rw [if_neg (by omega), if_pos (by omega), Nat.sub_self, List.getElem?_cons_zero, Array.getElem?_setIfInBounds_self_of_lt (by omega)]
    · rw [Array.getElem?_setIfInBounds_ne (fun e => hk e.symm)]
      by_cases h1 : i + 1 ≤ k ∧ k < i + 1 + vs.length
      · rw [if_pos h1, if_pos (by omega), show k - i = (k - (i + 1)) + 1 by omega, List.getElem?_cons_succ]
      · rw [if_neg h1, if_neg (by omega)]
theorem over_all (c cs : Array Value) (h : c.size = cs.size) : over c 0 cs.toList = cs := by
  apply Array.ext_getElem?
  intro k
  rw [over_get _ _ _ _ (by simp; omega)]
  split
  · simp
  · rename_i hk
    have : cs.size ≤ k := by simp at hk; omega
    rw [Array.getElem?_eq_none (by omega), Array.getElem?_eq_none this]

def plainV : Value → Bool
  | .agg _ => false
  | .tuple _ => false
  | _ => true

theorem set_eq {w : World} {b : Nat} {c : Array Value} {t : TypeId} {fr : Nat × Nat} (h : w.heap[b]? = some (.cells c t fr)) (i : Nat) (v : Value) :
    (w.setCell ⟨b, i, none⟩ v).heap = w.heap.setIfInBounds b (.cells (c.setIfInBounds i v) t fr) := by
  apply Array.ext_getElem?
  intro k
  simp only [World.setCell, Array.getElem?_modify, Array.getElem?_setIfInBounds]
  have hlt := (Array.getElem?_eq_some_iff.1 h).1
  by_cases hk : b = k
  · subst hk
    rw [if_pos rfl, if_pos rfl, h, if_pos hlt]
    rfl
  · rw [if_neg hk, if_neg hk]

theorem run_storeCells (b : Nat) (t : TypeId) (fr : Nat × Nat) : ∀ (vs : List Value) (o i : Nat) (w : World) (c : Array Value), w.heap[b]? = some (.cells c t fr) → (fr.2 ≤ fr.1 ∨ c.size ≤ fr.1) → (∀ v ∈ vs, plainV v = true) → o + i + vs.length ≤ c.size →
    ∃ w', (storeCells ⟨b, o, none⟩ vs i).run P w = .ok () w' ∧ Same w w' ∧ w'.drawn = w.drawn ∧ w'.heap = w.heap.setIfInBounds b (.cells (over c (o + i) vs) t fr)
  | [], o, i, w, c, h, _, _, _ => by
    refine ⟨w, by simp [storeCells], Same.refl w, rfl, ?_⟩
    apply Array.ext_getElem?
    intro k
    rw [Array.getElem?_setIfInBounds]
    have hlt := (Array.getElem?_eq_some_iff.1 h).1
    by_cases hk : b = k
    · subst hk; rw [if_pos rfl, if_pos hlt, h]; rfl
    · rw [if_neg hk]
  | v :: vs, o, i, w, c, h, hfr, hp, hl => by
    have hlt := (Array.getElem?_eq_some_iff.1 h).1
    simp only [List.length_cons] at hl
    have hcell : w.cell? ⟨b, o + i, none⟩ = some c[o + i] := by simp [World.cell?, h]
    have hfz : w.frozen? ⟨b, o + i, none⟩ = false := by
      obtain ⟨lo, hi⟩ := fr
      simp only [World.frozen?, h]
      simp
      simp at hfr
      omega
    have hstore : (Go.store (⟨b, o + i, none⟩ : Addr) v).run P w = .ok () (w.setCell ⟨b, o + i, none⟩ v) := by
      have hv := hp v (by simp)
      cases v <;> first | (cases hv; done) | (simp [Go.store, Sem.run, hcell, hfz]; done)
    have hh := set_eq h (o + i) v
    obtain ⟨w', hr, hs, hd, hw'⟩ := run_storeCells b t fr vs o (i + 1) (w.setCell ⟨b, o + i, none⟩ v) (c.setIfInBounds (o + i) v) (by rw [hh]; simp [hlt]) (by rw [Array.size_setIfInBounds]; exact hfr) (fun u hu => hp u (by simp [hu])) (by simp; omega)
    refine ⟨w', ?_, ⟨hs.os, hs.tape, hs.output⟩, hd, ?_⟩
    · simp only [storeCells, Sem.run_bind, addk, hstore, Result.andThen_ok, hr]
    · rw [hw', hh]
      simp [over, Nat.add_assoc]

theorem DoH.store {t e : TypeId} {i : TypeInfo} {b o : Nat} {c : Array Value} {v : Value} {K : Heap → Prop} (hb : Blk H b c e) (hi : P.info? t = some i) (hn : v.cells.size = i.size) (hp : ∀ u ∈ v.cells.toList, plainV u = true) (hl : o + i.size ≤ c.size)
    (hk : ∀ H', H'.size = H.size → Blk H' b (over c o v.cells.toList) e → But b H H' → K H') : DoH P (Instr.storeAt t (.pointer (some ⟨b, o, none⟩)) v) H K := by
  refine ⟨fun w hw => ?_⟩
  obtain ⟨fr, hb1, hb2⟩ := hb.out
  obtain ⟨w', hr, hs, _, hw'⟩ := run_storeCells (P := P) b e fr v.cells.toList o 0 w c (by rw [hw]; exact hb1) hb2 hp (by simp; omega)
  refine ⟨w', ?_, hs, ?_⟩
  · simp only [Instr.storeAt, Instr.sureAddr, Sem.run_bind, Sem.run_pure, Result.andThen_ok, storeVar, sizeOf_of hi, hn, ne_eq, not_true_eq_false, if_false, hr]
  · rw [hw', hw]
    refine hk _ (by simp) ⟨fr, ?_, by rw [over_size]; exact hb2⟩ (Only.set _ _ _)
    rw [Array.getElem?_setIfInBounds_self_of_lt hb.lt]
    rfl
/-- one cell -/
theorem DoH.store1 {t e : TypeId} {i : TypeInfo} {b o : Nat} {c : Array Value} {v : Value} {K : Heap → Prop} (hb : Blk H b c e) (hi : P.info? t = some i) (hn : i.size = 1) (hp : plainV v = true) (hl : o < c.size)
    (hk : ∀ H', H'.size = H.size → Blk H' b (c.setIfInBounds o v) e → But b H H' → K H') : DoH P (Instr.storeAt t (.pointer (some ⟨b, o, none⟩)) v) H K := by
  have hc : v.cells = #[v] := by cases v <;> first | rfl | (simp [plainV] at hp)
  refine DoH.store hb hi (by rw [hc]; simpa using hn.symm) (by rw [hc]; simpa using hp) (by omega) ?_
  intro H' h1 h2 h3
  refine hk H' h1 ?_ h3
  simpa [hc, over] using h2
/-- a whole variable -/
theorem DoH.store_all {t e : TypeId} {i : TypeInfo} {b : Nat} {c cs : Array Value} {K : Heap → Prop} (hb : Blk H b c e) (hi : P.info? t = some i) (hn : cs.size = i.size) (hc : c.size = cs.size) (hp : ∀ u ∈ cs.toList, plainV u = true)
    (hk : ∀ H', H'.size = H.size → Blk H' b cs e → But b H H' → K H') : DoH P (Instr.storeAt t (.pointer (some ⟨b, 0, none⟩)) (.agg cs)) H K := by
  refine DoH.store hb hi hn hp (by omega) ?_
  intro H' h1 h2 h3
  refine hk H' h1 ?_ h3
  simpa [Value.cells, over_all c cs hc] using h2

/- ---------- new blocks ---------- -/
theorem run_newObj (w : World) (o : Obj) : (newObj o).run P w = .ok w.heap.size { w with heap := w.heap.push o } := rfl
theorem push_last (H : Heap) (o : Obj) : (H.push o)[H.size]? = some o := by simp
theorem SemH.alloc {t : TypeId} {i : TypeInfo} {z : Value} {K : Value → Heap → Prop} (hi : P.info? t = some i) (hz : i.zero = some z)
    (hk : ∀ H', H'.size = H.size + 1 → Blk H' H.size z.cells t → Ext H H' → K (.pointer (some ⟨H.size, 0, none⟩)) H') : SemH P (Instr.alloc t true (.tuple #[])) H K := by
  refine ⟨fun w hw => ⟨.pointer (some ⟨w.heap.size, 0, none⟩), { w with heap := w.heap.push (.cells z.cells t) }, ?_, ⟨rfl, rfl, rfl⟩, ?_⟩⟩
  · simp only [Instr.alloc, zeroValue, Sem.run_bind, typeInfo_of hi, Result.andThen_ok, hz, Sem.run_pure, newVar, newRow, run_newObj]
  · subst hw
    exact hk _ (by simp) (Blk.new (push_last _ _)) (Only.push _ _ _)
theorem SemH.box {t : TypeId} {v : Value} {K : Value → Heap → Prop}
    (hk : ∀ H', H'.size = H.size + 1 → Blk H' H.size v.cells t → Ext H H' → K (.pointer (some ⟨H.size, 0, none⟩)) H') : SemH P (Instr.box t v) H K := by
  refine ⟨fun w hw => ⟨.pointer (some ⟨w.heap.size, 0, none⟩), { w with heap := w.heap.push (.cells v.cells t) }, ?_, ⟨rfl, rfl, rfl⟩, ?_⟩⟩
  · simp only [Instr.box, Sem.run_bind, Sem.run_pure, newVar, newRow, run_newObj, Result.andThen_ok]
  · subst hw
    exact hk _ (by simp) (Blk.new (push_last _ _)) (Only.push _ _ _)

/-- a literal of a slice: its cells are a closed computation -/
theorem SemH.buildSlice {t e : TypeId} {i : TypeInfo} {z : Value} {n : Nat} {parts : Array (Nat × Value)} {cs : Array Value} {K : Value → Heap → Prop} (ht : P.underlying t = some (.slice e)) (hi : P.info? e = some i) (hz : i.zero = some z) (hsm : ¬ n * i.size > 2 ^ 24)
    (hf : Instr.fill (fun j => some (j * i.size, i.size)) ((Array.range (n * i.size)).map ((if n * i.size = 0 then #[] else z.cells)[· % (if n * i.size = 0 then #[] else z.cells).size]!)) parts.toList = some cs)
    (hk : ∀ H', H'.size = H.size + 1 → Blk H' H.size cs e → Ext H H' → K (.slice (some ⟨H.size, 0, none⟩) n n) H') : SemH P (Instr.buildSlice t n parts) H K := by
  refine ⟨fun w hw => ⟨.slice (some ⟨w.heap.size, 0, none⟩) n n, { w with heap := w.heap.push (.cells cs e) }, ?_, ⟨rfl, rfl, rfl⟩, ?_⟩⟩
  · simp only [Instr.buildSlice, Sem.run_bind, underlying_of ht, Result.andThen_ok, sizeOf_of hi, if_neg hsm]
    by_cases h0 : n * i.size = 0
    · simp only [if_pos h0] at hf ⊢
      simp only [Sem.run_bind, Sem.run_pure, Result.andThen_ok]
      rw [hf]
      simp only [Sem.run_bind, newRow, run_newObj, Result.andThen_ok, Sem.run_pure]
    · simp only [if_neg h0] at hf ⊢
      simp only [Sem.run_bind, zeroValue, typeInfo_of hi, hz, Sem.run_pure, Result.andThen_ok]
      rw [hf]
      simp only [Sem.run_bind, newRow, run_newObj, Result.andThen_ok, Sem.run_pure]
  · subst hw
    exact hk _ (by simp) (Blk.new (push_last _ _)) (Only.push _ _ _)


/- ---------- slices that are read ---------- -/
/-- the slice a of n places (its capacity is c) holds these cells -/
structure Row (H : Heap) (a : Option Addr) (cs : List Value) : Prop where
  out : cs = [] ∨ ∃ b o, a = some ⟨b, o, none⟩ ∧ ∀ j v, cs[j]? = some v → hcell H ⟨b, o + j, none⟩ = some v
theorem Blk.row {b : Nat} {c : List Value} {t : TypeId} (h : Blk H b c.toArray t) : Row H (some ⟨b, 0, none⟩) c :=
  ⟨.inr ⟨b, 0, rfl, fun j v hv => by rw [h.cell, Nat.zero_add]; simpa using hv⟩⟩
theorem Row.nil (H : Heap) (a : Option Addr) : Row H a [] := ⟨.inl rfl⟩
theorem Row.keep {F : Nat → Prop} {a : Option Addr} {cs : List Value} (h : Row H a cs) (k : Only F H H') (hF : ∀ p, a = some p → ¬ F p.block) : Row H' a cs := by
  rcases h.out with h | ⟨b, o, ha, h⟩
  · exact ⟨.inl h⟩
  · exact ⟨.inr ⟨b, o, ha, fun j v hv => hcell_keep (h j v hv) k (hF ⟨b, o, none⟩ ha)⟩⟩
theorem Row.keep' {F : Nat → Prop} {a : Option Addr} {cs : List Value} (h : Row H a cs) (k : Only F H H') (hF : cs ≠ [] → ∀ p, a = some p → ¬ F p.block) : Row H' a cs := by
  by_cases h0 : cs = []
  · subst h0; exact Row.nil _ _
  · exact h.keep k (hF h0)
theorem Row.ext {a : Option Addr} {cs : List Value} (h : Row H a cs) (k : Ext H H') : Row H' a cs := h.keep k fun _ _ => id
theorem Row.at {a : Option Addr} {cs : List Value} (h : Row H a cs) (h0 : 0 < cs.length) : ∃ b o, a = some ⟨b, o, none⟩ ∧ b < H.size ∧ ∀ j v, cs[j]? = some v → hcell H ⟨b, o + j, none⟩ = some v := by
  rcases h.out with h | ⟨b, o, ha, h⟩
  · subst h; simp at h0
  · exact ⟨b, o, ha, hcell_lt (h 0 cs[0] (by simp)), h⟩
theorem Row.take {a : Option Addr} {cs : List Value} (h : Row H a cs) (k : Nat) : Row H a (cs.take k) := by
  rcases h.out with h | ⟨b, o, ha, h⟩
  · subst h; simp [Row.nil]
  · refine ⟨.inr ⟨b, o, ha, fun j v hv => h j v ?_⟩⟩
    rw [List.getElem?_take] at hv
    split at hv
    · exact hv
    · cases hv
theorem Row.drop {a : Option Addr} {cs : List Value} (h : Row H a cs) (m l size : Nat) (hl : m = l → cs.length ≤ l * size) : Row H (sliceBase a m l size) (cs.drop (l * size)) := by
  unfold sliceBase
  split
  · rename_i he
    rw [List.drop_eq_nil_of_le (hl he)]
    exact Row.nil _ _
  · rcases h.out with h | ⟨b, o, ha, h⟩
    · subst h; simp [Row.nil]
    · refine ⟨.inr ⟨b, o + l * size, by simp [ha, addk], fun j v hv => ?_⟩⟩
      have := h (l * size + j) v (by simpa [List.getElem?_drop] using hv)
      rwa [Nat.add_assoc]
/-- an element's address -/
theorem IdxA.row {a : Option Addr} {cs : List Value} {n size : Nat} {i : Int} {K : Addr → Prop} (h : Row H a cs) (hl : cs.length = n * size) (hs : 0 < size) (j : Nat) (hi : i = j) (hj : j < n)
    (hk : ∀ b o, b < H.size → a = some ⟨b, o, none⟩ → (∀ m v, cs[j * size + m]? = some v → hcell H ⟨b, o + j * size + m, none⟩ = some v) → K ⟨b, o + j * size, none⟩) : IdxA a n size i K := by
  have hpos : 0 < cs.length := by rw [hl]; exact Nat.mul_pos (by omega) hs
  obtain ⟨b, o, ha, hb, hc⟩ := h.at hpos
  subst hi
  refine ⟨by omega, by omega, ⟨b, o, none⟩, ha, ?_⟩
  rw [addk, Int.toNat_natCast]
  exact hk b o hb ha fun m v hv => by rw [Nat.add_assoc]; exact hc _ _ hv


/- ---------- slices of the call's own ---------- -/
/-- the slice value (a, n, cap) of elements of type e (size cells each) owns these cells: nil, or the head of a block from base on -/
structure Own (H : Heap) (base : Nat) (e : TypeId) (size : Nat) (a : Option Addr) (n cap : Nat) (xs : List Value) : Prop where
  len : xs.length = n * size
  out : (a = none ∧ n = 0 ∧ cap = 0) ∨ ∃ g cur, a = some ⟨g, 0, none⟩ ∧ base ≤ g ∧ Blk H g cur e ∧ n ≤ cap ∧ cap ≤ maxLen ∧ cur.size = cap * size ∧ cur.toList.take (n * size) = xs
/-- only the block that the address leads to has been written -/
abbrev Wr (a : Option Addr) (H H' : Heap) : Prop := Only (fun b => ∃ p, a = some p ∧ p.block = b) H H'
theorem Wr.toBut {g o : Nat} (h : Wr (some ⟨g, o, none⟩) H H') : But g H H' := ⟨h.size, fun b hb hne => h.same b hb fun ⟨p, hp, e⟩ => hne (by cases hp; exact e.symm)⟩
theorem Only.mono {F G : Nat → Prop} (h : Only F H H') (hFG : ∀ b, F b → G b) : Only G H H' := ⟨h.size, fun b hb hn => h.same b hb fun hF => hn (hFG b hF)⟩
theorem Wr.of_but {g o : Nat} (h : But g H H') : Wr (some ⟨g, o, none⟩) H H' := ⟨h.size, fun b hb hne => h.same b hb fun e => hne ⟨_, rfl, e.symm⟩⟩

theorem Own.nil (H : Heap) (base : Nat) (e : TypeId) (size : Nat) : Own H base e size none 0 0 [] := ⟨by simp, .inl ⟨rfl, rfl, rfl⟩⟩
theorem Own.keep {F : Nat → Prop} {base : Nat} {e : TypeId} {size : Nat} {a : Option Addr} {n cap : Nat} {xs : List Value} (h : Own H base e size a n cap xs) (k : Only F H H') (hF : ∀ p, a = some p → ¬ F p.block) : Own H' base e size a n cap xs := by
  refine ⟨h.len, ?_⟩
  rcases h.out with h | ⟨g, cur, ha, hb, hg, r⟩
  · exact .inl h
  · exact .inr ⟨g, cur, ha, hb, hg.keep k (hF ⟨g, 0, none⟩ ha), r⟩
theorem Own.ext {base : Nat} {e : TypeId} {size : Nat} {a : Option Addr} {n cap : Nat} {xs : List Value} (h : Own H base e size a n cap xs) (k : Ext H H') : Own H' base e size a n cap xs := h.keep k fun _ _ => id
theorem Own.block {base : Nat} {e : TypeId} {size : Nat} {a : Option Addr} {n cap : Nat} {xs : List Value} (h : Own H base e size a n cap xs) : ∀ p, a = some p → base ≤ p.block ∧ p.block < H.size := by
  intro p hp
  rcases h.out with ⟨h, _⟩ | ⟨g, cur, ha, hb, hg, r⟩
  · rw [h] at hp; cases hp
  · rw [ha] at hp; cases hp; exact ⟨hb, hg.lt⟩
theorem Own.row {base : Nat} {e : TypeId} {size : Nat} {a : Option Addr} {n cap : Nat} {xs : List Value} (h : Own H base e size a n cap xs) : Row H a xs := by
  rcases h.out with ⟨_, h0, _⟩ | ⟨g, cur, ha, hb, hg, hn, hm, hs, ht⟩
  · have : xs = [] := List.eq_nil_of_length_eq_zero (by rw [h.len, h0]; simp)
    rw [this]; exact Row.nil _ _
  · refine ⟨.inr ⟨g, 0, ha, fun j v hv => ?_⟩⟩
    rw [Nat.zero_add, hg.cell]
    rw [← ht, List.getElem?_take] at hv
    split at hv
    · simpa using hv
    · cases hv
theorem Own.base {base base' : Nat} {e : TypeId} {size : Nat} {a : Option Addr} {n cap : Nat} {xs : List Value} (h : Own H base e size a n cap xs) (hb : base' ≤ base) : Own H base' e size a n cap xs := by
  refine ⟨h.len, ?_⟩
  rcases h.out with h | ⟨g, cur, ha, hb', r⟩
  · exact .inl h
  · exact .inr ⟨g, cur, ha, Nat.le_trans hb hb', r⟩
theorem Own.cap_le {base : Nat} {e : TypeId} {size : Nat} {a : Option Addr} {n cap : Nat} {xs : List Value} (h : Own H base e size a n cap xs) : n ≤ cap := by
  rcases h.out with ⟨_, h0, h1⟩ | ⟨g, cur, ha, hb, hg, hn, _⟩
  · omega
  · exact hn
/-- cut to its first k -/
theorem Own.cut {base : Nat} {e : TypeId} {size : Nat} {a : Option Addr} {n cap : Nat} {xs : List Value} (h : Own H base e size a n cap xs) (k : Nat) (hk : k ≤ n) : Own H base e size a k cap (xs.take (k * size)) := by
  have hks : k * size ≤ n * size := Nat.mul_le_mul_right _ hk
  refine ⟨by rw [List.length_take, h.len]; omega, ?_⟩
  rcases h.out with ⟨h1, h2, h3⟩ | ⟨g, cur, ha, hb, hg, hn, hm, hs, ht⟩
  · exact .inl ⟨h1, by omega, h3⟩
  · refine .inr ⟨g, cur, ha, hb, hg, by omega, hm, hs, ?_⟩
    rw [← ht, List.take_take, Nat.min_eq_left hks]

/-- what an append goes for: m elements of a slice or a string -/
structure Src (P : Program) (H : Heap) (x : Value) (size m : Nat) (news : List Value) : Prop where
  len : news.length = m * size
  plain : ∀ u ∈ news, plainV u = true
  lenOf : ∀ w, (Builtin.lenOf x).run P w = .ok m w
  first : ∀ w : World, w.heap = H → (Builtin.firstCells size m x).run P w = .ok news.toArray w
theorem run_firstRow {a : Option Addr} {size m c : Nat} {news : List Value} (h : Row H a news) (hl : news.length = m * size) (w : World) (hw : w.heap = H) : (Builtin.firstCells size m (.slice a m c)).run P w = .ok news.toArray w := by
  cases a with
  | none =>
    rcases h.out with h | ⟨_, _, ha, _⟩
    · subst h; rfl
    · cases ha
  | some p =>
    simp only [Builtin.firstCells, loadCells, ← hl]
    rcases h.out with h | ⟨b, o, ha, hc⟩
    · subst h; rfl
    · cases ha
      have := run_loadCellsFrom (P := P) (w := w) (p := ⟨b, o, none⟩) news 0 #[] fun j v hv => by rw [addk, Nat.zero_add, cell_heap, hw]; exact hc j v hv
      rw [this]; simp
theorem Src.row {a : Option Addr} {size m c : Nat} {news : List Value} (h : Row H a news) (hl : news.length = m * size) (hp : ∀ u ∈ news, plainV u = true) : Src P H (.slice a m c) size m news :=
  ⟨hl, hp, fun w => rfl, fun w hw => run_firstRow h hl w hw⟩
def strV (l : List UInt8) : List Value := l.map fun b => .int .u8 b.toNat
theorem Src.str (s : ByteArray) : Src P H (.string s) 1 s.size (strV s.data.toList) := by
  refine ⟨by simp [strV], fun u hu => ?_, fun w => rfl, fun w hw => ?_⟩
  · obtain ⟨b, _, rfl⟩ := List.mem_map.1 hu; rfl
  · show Result.ok _ _ = Result.ok _ _
    congr 1
    apply Array.ext'
    have e : s.extract 0 s.size = s := by
      apply ByteArray.ext
      simp
    rw [e]
    simp [strV]

theorem NextH.append {t u e ty : TypeId} {i : TypeInfo} {z : Value} {base : Nat} {a : Option Addr} {n cap : Nat} {xs : List Value} {x : Value} {m : Nat} {news : List Value} {cb : Array Bool} {K : Value → Heap → Prop}
    (ht : P.underlying t = some (.slice e)) (hu : ∃ d, P.underlying u = some d ∧ (∀ k, d ≠ .int k)) (hi : P.info? e = some i) (hz : i.zero = some z) (hzs : z.cells.size = i.size) (hown : Own H base e i.size a n cap xs) (hsrc : Src P H x i.size m news)
    (h63 : n + m ≤ maxLen) (hbytes : (n + m) * i.bytes ≤ 140737488355328) (hbase : base ≤ H.size)
    (hk : ∀ a' cap' H', Own H' base e i.size a' (n + m) cap' (xs ++ news) → Wr a H H' → (∀ p, a' = some p → a' = a ∨ H.size ≤ p.block) → K (.slice a' (n + m) cap') H') :
    NextH P (builtin .append #[t, u] ty cb #[.slice a n cap, x]) H K := by
  refine ⟨fun w hw => ?_⟩
  obtain ⟨d, hu, hd⟩ := hu
  have hzero : (match d with | .int _ => true | _ => false) = false := by cases d <;> first | rfl | exact absurd rfl (hd _)
  have hsmall : n + m ≤ 9223372036854775807 := by have := h63; simp only [maxLen] at this; omega
  have hlen : (xs ++ news).length = (n + m) * i.size := by rw [List.length_append, hown.len, hsrc.len, Nat.add_mul]
  have goal : ∀ {v w'}, (Builtin.append_ #[t, u] ty #[.slice a n cap, x]).run P w = .ok v w' → Same w w' → K v w'.heap → Nexts P w K ((builtin .append #[t, u] ty cb #[.slice a n cap, x]).run P w) := by
    intro v w' hr hs hk
    simp only [builtin, Sem.run_bind, hr, Result.andThen_ok]
    exact ⟨hs, hk⟩
  by_cases hroom : n + m ≤ cap
  · rcases hown.out with ⟨ha, hn, hc⟩ | ⟨g, cur, ha, hb, hg, hnc, hmc, hcs, htake⟩
    · have hm : m = 0 := by omega
      subst ha hn hc hm
      have hnews : news = [] := List.eq_nil_of_length_eq_zero (by rw [hsrc.len]; simp)
      have hx : xs = [] := List.eq_nil_of_length_eq_zero (by rw [hown.len]; simp)
      subst hnews hx
      refine goal (v := .slice none 0 0) (w' := w) ?_ (Same.refl w) ?_
      · simp [Builtin.append_, underlying_of ht, underlying_of hu, sizeOf_of hi, hzero, hsrc.lenOf, hsrc.first w hw]
      · rw [hw]; exact hk none 0 H (Own.nil _ _ _ _) (Only.refl _ _) (fun p hp => by cases hp)
    · subst ha
      obtain ⟨fr, hg1, hg2⟩ := hg.out
      have hfit : n * i.size + news.length ≤ cur.size := by rw [hsrc.len, hcs, ← Nat.add_mul]; exact Nat.mul_le_mul_right _ hroom
      obtain ⟨w', hr, hs, _, hw'⟩ := run_storeCells (P := P) g e fr news (n * i.size) 0 w cur (by rw [hw]; exact hg1) hg2 hsrc.plain (by omega)
      refine goal (v := .slice (some ⟨g, 0, none⟩) (n + m) cap) (w' := w') ?_ hs ?_
      · simp [Builtin.append_, underlying_of ht, underlying_of hu, sizeOf_of hi, hzero, hsrc.lenOf, hroom, hsrc.first w hw, addk, hr]
      · rw [hw', hw]
        have hg' : Blk (H.setIfInBounds g (.cells (over cur (n * i.size + 0) news) e fr)) g (over cur (n * i.size) news) e :=
          ⟨fr, by rw [Array.getElem?_setIfInBounds_self_of_lt hg.lt]; rfl, by rw [over_size]; exact hg2⟩
        refine hk _ _ _ ⟨hlen, .inr ⟨g, _, rfl, hb, hg', hroom, hmc, by rw [over_size]; exact hcs, ?_⟩⟩ (Wr.of_but (Only.set _ _ _)) (fun p hp => .inl rfl)
        apply List.ext_getElem?
        intro j
        rw [List.getElem?_take, Array.getElem?_toList]
        rw [over_get _ _ _ _ hfit, ← htake]
        have hlx : (cur.toList.take (n * i.size)).length = n * i.size := by rw [htake]; exact hown.len
        have hnm : (n + m) * i.size = n * i.size + news.length := by rw [hsrc.len, Nat.add_mul]
        rw [hnm]
        by_cases hj : j < n * i.size
        · rw [if_pos (by omega), if_neg (by omega), List.getElem?_append_left (by omega), List.getElem?_take, if_pos hj, Array.getElem?_toList]
        · by_cases hj2 : j < n * i.size + news.length
          · rw [if_pos hj2, if_pos (by omega), List.getElem?_append_right (by omega), hlx]
          · rw [if_neg hj2, List.getElem?_append_right (by omega), hlx, List.getElem?_eq_none (by omega)]
  · have hgrow : cap < n + m := by omega
    have h63' : ¬ (9223372036854775807 < ((n : Int) + (m : Int))) := by omega
    have hfit := growslice_fits hgrow hbytes
    have h48 : ¬ (281474976710656 < Builtin.nextslicecap (n + m) cap * i.bytes) := by omega
    have hold : ∀ w' : World, w'.heap = H → (Builtin.firstCells i.size n (.slice a n cap)).run P w' = .ok xs.toArray w' := fun w' hw' => run_firstRow hown.row hown.len w' hw'
    have hge : n + m ≤ grownCap w (n + m) cap e := grownCap_ge w (n + m) cap e
    have hcm : grownCap w (n + m) cap e ≤ maxLen := grownCap_le_maxLen w (n + m) cap e h63
    refine goal (v := .slice (some ⟨w.heap.size, 0, none⟩) (n + m) (grownCap w (n + m) cap e))
      (w' := w.drew.alloc (.cells (xs.toArray ++ news.toArray ++ Builtin.zeroCells z.cells (grownCap w (n + m) cap e - (n + m))) e)) ?_ ⟨rfl, rfl, rfl⟩ ?_
    · have e1 := hold w.drew hw
      have e2 := hsrc.first w.drew hw
      simp [Builtin.append_, underlying_of ht, underlying_of hu, sizeOf_of hi, typeInfo_of hi, hzero, hsrc.lenOf, hroom, h63', h48, Question.forced, e1, e2, zeroValue, hz, newRow, grownCap]
      congr 2
      apply Array.ext'
      simp [List.append_assoc]
    · subst hw
      refine hk _ _ _ ⟨hlen, .inr ⟨w.heap.size, _, rfl, hbase, Blk.new (push_last _ _), hge, hcm, ?_, ?_⟩⟩ (Only.push _ _ _) (fun p hp => .inr (by cases hp; exact Nat.le_refl _))
      · simp only [Array.size_append, List.size_toArray, size_zeroCells, hzs, hown.len, hsrc.len, ← Nat.add_mul]
        congr 1
        omega
      · simp only [Array.toList_append, List.append_assoc]
        rw [← List.append_assoc, ← hlen]
        exact List.take_left

end Go.Vc
