import Derived.Test.YtjcmcmogbkdjcaaDoorKb
import Derived.Carry
import Derived.ProofKit
import Derived.OpenShut
import Derived.ChangeMaps5
set_option linter.unusedVariables false
set_option linter.unusedSimpArgs false
set_option maxRecDepth 100000
/- Slices of slices of bytes. -/
namespace Go.Proofs.YtjcmcmogbkdjcaaDoor
open Go Go.Vc
/-- a part: a slice, and what it reads as -/
structure Part where
  a : Option Addr
  n : Nat
  cap : Nat
  l : List UInt8
def Part.val (p : Part) : Value := .slice p.a p.n p.cap
structure PartOk (H : Heap) (p : Part) : Prop where
  len : p.l.length = p.n
  cap : p.n ≤ p.cap
  row : Row H p.a (strV p.l)
theorem PartOk.ext {H H' : Heap} {p : Part} (h : PartOk H p) (k : Ext H H') : PartOk H' p := ⟨h.len, h.cap, h.row.ext k⟩
structure Parts (H : Heap) (pa : Option Addr) (ps : List Part) : Prop where
  row : Row H pa (ps.map Part.val)
  each : ∀ p ∈ ps, PartOk H p
theorem Parts.ext {H H' : Heap} {pa : Option Addr} {ps : List Part} (h : Parts H pa ps) (k : Ext H H') : Parts H' pa ps := ⟨h.row.ext k, fun p hp => (h.each p hp).ext k⟩
theorem SemH.load_part2 {P : Program} {H : Heap} {t : TypeId} {b o : Nat} {v : Value} {K : Value → Heap → Prop} (hT : aggB P t = some false) (hc : hcell H ⟨b, o, none⟩ = some v) (hk : K v H) : SemH P (Instr.loadAt t (.pointer (some ⟨b, o, none⟩))) H K := SemH.load hT hc hk
/-- an element of a slice of slices -/
theorem IdxA.part {H : Heap} {pa : Option Addr} {ps : List Part} {n : Nat} {i : Int} {K : Addr → Prop} (h : Parts H pa ps) (hn : ps.length = n) (k : Nat) (hi : i = k) (hk : k < ps.length)
    (hK : ∀ b o, pa = some ⟨b, o, none⟩ → hcell H ⟨b, o + k, none⟩ = some ps[k].val → K ⟨b, o + k, none⟩) : IdxA pa n 1 i K := by
  obtain ⟨b, o, ha, _, hc⟩ := h.row.at (by rw [List.length_map]; omega)
  subst hi
  refine ⟨by omega, by omega, ⟨b, o, none⟩, ha, ?_⟩
  rw [addk, Int.toNat_natCast, Nat.mul_one]
  exact hK b o ha (hc _ _ (by simp [hk]))
end Go.Proofs.YtjcmcmogbkdjcaaDoor
/- From a call's contract to a statement: what a call reads from its arguments; what a call that only lays new blocks leaves as it was. -/
namespace Go.Vc
open Go.ChangeShapes Go.WideShapes Go.RowKit

section
variable {H : Type} {enc : TypeId × Value → H} {P : Program}

theorem below_of {W W' : World} (hs : Same W W') (hx : Ext W.heap W'.heap) : Below W.heap.size W W' :=
  ⟨hs.os, hs.tape, hs.output, hx.size, fun k hk => hx.same k hk id⟩

theorem trodAll_stays (hl : laidOutB P = true) {W W' : World} (hb : Below W.heap.size W W') {sp : Nat → Bool} : ∀ {ts : List TypeId} {vs : List Value} {ds : List (DataW H)} {ps : List MemPlace}, (∀ t ∈ ts, P.readableRec t = true ∧ t < P.types.size) →
    DataW.TrodAll enc P W 0 (fun _ => true) true ts vs ds ps → (∀ p ∈ ps, p.block < W.heap.size) → (∀ p ∈ ps, sp p.block = true) → DataW.TrodAll enc P W' 0 sp true ts vs ds ps
  | [], [], [], _, _, h, _, _ => h
  | t :: ts, v :: vs, d :: ds, _, hT, ⟨p, q, h1, h2, e⟩, hlt, hs => by
    subst e
    exact ⟨p, q, WideElems.Trod_stays hl (hT t (by simp)).1 (hT t (by simp)).2 h1 (fun x hx => hb.same (hlt x (by simp [hx]))) (fun x hx => hs x (by simp [hx])),
      trodAll_stays hl hb (fun t ht => hT t (by simp [ht])) h2 (fun x hx => hlt x (by simp [hx])) (fun x hx => hs x (by simp [hx])), rfl⟩

/-- A law's call that answers true and lays at most new blocks: what the row asks. -/
theorem law_post {f : Func} {s : ChangeSpec} {apart fresh handsOn again : Bool} {W W' : World} {args : Array Value} {ds gs : List (DataW H)} {before : List MemPlace} {tb : TypeId}
    (hW : DataW.Whole enc P f.params.toList s.vars apart W args.toList ds gs before) (hv : s.vars = []) (hs : s.fn H (ds ++ gs) = { results := [.lit (.bool true)], args := ds, vars := [] })
    (hr : f.resultTypes = #[tb]) (hb : P.underlying tb = some .bool) (hl : laidOutB P = true) (hread : ∀ t ∈ f.params.toList, P.readableRec t = true ∧ t < P.types.size)
    (hsame : Same W W') (hx : Ext W.heap W'.heap) : s.post enc P f apart fresh handsOn again W args (.bool true) W' := by
  have hlt := hW.lt
  have hW' := hW
  obtain ⟨p, q, hA, hV, rfl, hfz, hnd⟩ := hW
  rw [hv] at hV
  obtain ⟨rfl, rfl⟩ := trodVars_none hV
  have hbel := below_of hsame hx
  have hone : (Value.bool true).resultList f.resultTypes.size = [.bool true] := by rw [hr]; rfl
  have hrt : ∀ (b : Nat) (sp : Nat → Bool) (hd : Bool), DataW.TrodAll enc P W' b sp hd f.resultTypes.toList ((Value.bool true).resultList f.resultTypes.size) (s.fn H (ds ++ [])).results [] := fun b sp hd => by
    rw [hone, hr, hs]
    exact trodAll_cons_mk (shut_bool hb true) trodAll_mk0
  have hlt' : ∀ x ∈ p, x.block < W.heap.size := fun x hx => hlt x (by simp [hx])
  have hat : ∀ sp : Nat → Bool, (∀ x ∈ p, sp x.block = true) → DataW.TrodAll enc P W' 0 sp true f.params.toList args.toList (s.fn H (ds ++ [])).args p := fun sp hsp => by
    rw [hs]; exact trodAll_stays hl hbel hread hA hlt' hsp
  refine ⟨ds, [], p ++ [], [], p, [], hW', hrt _ _ _, hat _ (fun x hx => by simpa using hlt' x hx), ?_, hbel.frame _, fun _ => ⟨?_, _, [], ([] ++ p) ++ [], ⟨[] ++ p, [], trodAll_append (hat _ (fun _ _ => rfl)) (hrt _ _ _), ?_, rfl, ?_, ?_⟩, ?_⟩⟩
  · rw [hv, hs]; exact rfl
  · intro j t r hj hr'
    rw [hone] at hr'
    rw [hr] at hj
    match j, hj, hr' with
    | 0, hj, hr' =>
      simp at hj hr'
      subst hj; subst hr'
      exact okWide_bool_mk hb true
  · rw [hv]; exact rfl
  · intro b off hp
    have hp' : MemPlace.cell b off ∈ p := by simpa using hp
    have hb' := hlt' _ hp'
    rw [hbel.frozen (p := ⟨b, off, none⟩) hb']
    exact hfz b off (by simpa using hp')
  · intro ha
    have := hnd ha
    simpa using this
  · intro x hx _
    simpa using hx

/-- from the contract over heaps to the model's own run -/
theorem calls_of {f : FuncId} {args : Array Value} {W : World} {R : Value → Heap → Prop} (hc : (callFunc f args).run P W = .ok (.enter f args) W) (h : CallH P f args.toList W.heap R) :
    Calls P f args W fun e w => Same W w ∧ ∃ v, e = .returned v ∧ R v w.heap := by
  have := h.out W rfl
  rw [Array.toArray_toList, hc] at this
  exact this.2

theorem law_calls {f : FuncId} {fn : Func} {s : ChangeSpec} {apart fresh handsOn again : Bool} {W : World} {args : Array Value} {ds gs : List (DataW H)} {before : List MemPlace} {tb : TypeId}
    (hc : (callFunc f args).run P W = .ok (.enter f args) W) (h : CallH P f args.toList W.heap fun v H' => v = .bool true ∧ Ext W.heap H')
    (hW : DataW.Whole enc P fn.params.toList s.vars apart W args.toList ds gs before) (hv : s.vars = []) (hs : s.fn H (ds ++ gs) = { results := [.lit (.bool true)], args := ds, vars := [] })
    (hr : fn.resultTypes = #[tb]) (hb : P.underlying tb = some .bool) (hl : laidOutB P = true) (hread : (fn.params.toList.all fun t => P.readableRec t && decide (t < P.types.size)) = true) :
    Calls P f args W fun e W' => ∃ v, e = .returned v ∧ s.post enc P fn apart fresh handsOn again W args v W' :=
  Calls.mono (calls_of hc h) fun e w' ⟨hsame, v, he, hv', hx⟩ => ⟨v, he, hv' ▸ law_post hW hv hs hr hb hl (fun t ht => by simpa using List.all_eq_true.1 hread t ht) hsame hx⟩

/- ---------- what arguments are ---------- -/
variable {w : World} {base : Nat} {sp : Nat → Bool} {held : Bool}

theorem read_bytes {t e : TypeId} {fuel : Nat} {cs : List Value} {x : DataW H × List MemPlace} (ht : P.underlying t = some (.slice e)) (he : P.underlying e = some (.int .u8)) (hc : P.cellsOf e = 1)
    (h : DataW.trod enc P w base sp held fuel t cs = some x) : ∃ (a : Option Addr) (n cap : Nat) (l : List UInt8), cs = [.slice a n cap] ∧ l.length = n ∧ n ≤ cap ∧ cap ≤ maxLen ∧ Row w.heap a (strV l) ∧ (a = none → cap = 0) := by
  rcases open_ints ht he hc h with ⟨rfl, _⟩ | ⟨a, len, cap, zs, rfl, hb, hl, hm, hz, _, hcell, hwf⟩
  · exact ⟨none, 0, 0, [], rfl, rfl, Nat.le_refl _, Nat.zero_le _, Row.nil _ _, fun _ => rfl⟩
  · have hzl : len ≤ zs.length := by rw [hz]; split <;> omega
    refine ⟨some a, len, cap, (zs.take len).map fun z => UInt8.ofNat z.toNat, rfl, by simp; omega, hl, hm, ?_, by simp⟩
    by_cases h0 : len = 0
    · subst h0; simp [strV, Row.nil]
    · obtain ⟨b, off, rfl, hcl⟩ := ints_at hcell (by omega)
      refine ⟨.inr ⟨b, off, rfl, fun j v hv => ?_⟩⟩
      have hj : j < len := by
        have := (List.getElem?_eq_some_iff.1 hv).1
        simp [strV] at this; omega
      have hj' : j < zs.length := by omega
      have hw := bounds_u8 (hwf zs[j] (List.getElem_mem hj'))
      rw [← cell_heap, hcl j hj', ← hv]
      simp only [strV, List.map_map, List.getElem?_map, List.getElem?_take, if_pos hj, List.getElem?_eq_getElem hj', Option.map_some, Function.comp]
      rw [List.getD_eq_getElem?_getD, List.getElem?_eq_getElem hj', Option.getD_some]
      congr 2
      rw [UInt8.toNat_ofNat']
      omega

theorem cell_plain {a : Addr} {v : Value} (h : w.cell? a = some v) : ∃ b o, a = ⟨b, o, none⟩ := by
  obtain ⟨b, o, s⟩ := a
  have hs : s = none := by simpa using World.cell?_spot h
  exact ⟨b, o, by rw [hs]⟩

/-- the elements of a slice, one cell each -/
theorem read_cells {t e : TypeId} {fuel : Nat} {cs : List Value} {x : DataW H × List MemPlace} (ht : P.underlying t = some (.slice e)) (hc : P.cellsOf e = 1)
    (h : DataW.trod enc P w base sp held fuel t cs = some x) : ∃ (a : Option Addr) (n cap : Nat) (l : List Value), cs = [.slice a n cap] ∧ l.length = n ∧ n ≤ cap ∧ cap ≤ maxLen ∧ Row w.heap a l ∧ (a = none → cap = 0) ∧
      ∀ v ∈ l, ∃ m y, DataW.trod enc P w base sp held m e [v] = some y := by
  rcases DataW.trod_slice ht h with ⟨rfl, _⟩ | ⟨a, len, cap, elems, rest, n, _, rfl, rfl, hb, hl, hm, hlen, hel, hsp, hns⟩
  · exact ⟨none, 0, 0, [], rfl, rfl, Nat.le_refl _, Nat.zero_le _, Row.nil _ _, fun _ => rfl, fun v hv => by cases hv⟩
  · have each : ∀ i, i < len → ∃ v y, w.cell? (a.add i) = some v ∧ DataW.trod enc P w base sp held n e [v] = some y := by
      intro i hi
      have := hel i hi
      rw [List.getElem?_eq_getElem (by omega), hc, Nat.mul_one, Option.bind_eq_some_iff] at this
      obtain ⟨vs, hvs, hy⟩ := this
      obtain ⟨_, hl1, hcell⟩ := World.cells?_some hvs
      obtain ⟨v, rfl⟩ := List.length_eq_one_iff.1 hl1
      have := hcell 0 (by omega)
      refine ⟨v, _, by simpa [Addr.add] using this, hy⟩
    let f : Nat → Value := fun i => (w.cell? (a.add i)).getD undef
    have hf : ∀ i, i < len → w.cell? (a.add i) = some (f i) := fun i hi => by obtain ⟨v, y, hv, _⟩ := each i hi; simp [f, hv]
    refine ⟨some a, len, cap, (List.range len).map f, rfl, by simp, hl, hm, ?_, by simp, ?_⟩
    · by_cases h0 : len = 0
      · subst h0; simp [Row.nil]
      · have h00 := hf 0 (by omega)
        have e0 : a.add 0 = a := by simp [Addr.add]
        rw [e0] at h00
        obtain ⟨b, o, rfl⟩ := cell_plain h00
        refine ⟨.inr ⟨b, o, rfl, fun j v hv => ?_⟩⟩
        have hj : j < len := by have := (List.getElem?_eq_some_iff.1 hv).1; simpa using this
        have := hf j hj
        rw [addk] at this
        rw [← cell_heap, this, ← hv]
        simp [hj]
    · intro v hv
      obtain ⟨i, hi, rfl⟩ := List.mem_map.1 hv
      have hi : i < len := by simpa using hi
      obtain ⟨v, y, hv, hy⟩ := each i hi
      rw [hf i hi] at hv; cases hv
      exact ⟨n, y, hy⟩

/-- an array of bytes -/
theorem read_arr8 {t e : TypeId} {n fuel : Nat} {cs : List Value} {x : DataW H × List MemPlace} (ht : P.underlying t = some (.array n e)) (he : P.underlying e = some (.int .u8)) (hc : P.cellsOf e = 1) (hn : P.cellsOf t = n)
    (h : DataW.trod enc P w base sp held fuel t cs = some x) : ∃ l : List UInt8, cs = strV l ∧ l.length = n := by
  obtain ⟨xs, m, _, _, hl, hxl, hx⟩ := DataW.trod_array ht h
  rw [hn] at hl
  refine ⟨cs.map fun v => match v with | .int _ z => UInt8.ofNat z.toNat | _ => 0, ?_, by simpa using hl⟩
  apply List.ext_getElem?
  intro i
  simp only [strV, List.map_map, List.getElem?_map]
  by_cases hi : i < n
  · have := hx i hi
    rw [hc, Nat.mul_one, List.getElem?_eq_getElem (by omega)] at this
    obtain ⟨z, hz, _, hw⟩ := DataW.trod_int he this
    have hi' : i < cs.length := by omega
    have e : cs[i] = .int .u8 z := by
      have h0 := congrArg (fun l => l[0]?) hz
      simp only [List.getElem?_take, List.getElem?_drop, Nat.add_zero, Nat.zero_lt_one, if_true, List.getElem?_cons_zero, List.getElem?_eq_getElem hi', Option.some.injEq] at h0
      exact h0
    have hw := bounds_u8 hw
    rw [List.getElem?_eq_getElem hi', e]
    simp only [Option.map_some, Function.comp]
    congr 2
    rw [UInt8.toNat_ofNat']
    omega
  · rw [List.getElem?_eq_none (by omega)]; rfl
end
end Go.Vc
/- From a call's contract to a statement, more: arguments. -/
namespace Go.Vc
open Go.ChangeShapes Go.WideShapes Go.RowKit
section
variable {H : Type} {enc : TypeId × Value → H} {P : Program} {w : World} {base : Nat} {spare : Nat → Bool} {held : Bool}
theorem arg_slice {P : Program} {w : World} {r : Reach} {b0 : Nat} {t e : TypeId} {v a : Value} (ht : P.underlying t = some (.slice e)) (hval : Value.okWide P w r b0 t v) (h : v.cells.toList = [a]) : v = a := by
  obtain ⟨p, n, c, rfl⟩ := okWide_slice ht hval
  simpa [Value.cells] using h
theorem trodAll_five {t t' t'' t3 t4 : TypeId} {args : Array Value} {ds : List (DataW H)} {ps : List MemPlace} (h : DataW.TrodAll enc P w base spare held [t, t', t'', t3, t4] args.toList ds ps) :
    ∃ v v' v'' v3 v4 d d' d'' d3 d4 p p' p'' p3 p4, args = #[v, v', v'', v3, v4] ∧ ds = [d, d', d'', d3, d4] ∧ ps = p ++ (p' ++ (p'' ++ (p3 ++ (p4 ++ [])))) ∧ DataW.Trod enc P w base spare held t v d p ∧ DataW.Trod enc P w base spare held t' v' d' p' ∧ DataW.Trod enc P w base spare held t'' v'' d'' p'' ∧ DataW.Trod enc P w base spare held t3 v3 d3 p3 ∧ DataW.Trod enc P w base spare held t4 v4 d4 p4 := by
  obtain ⟨v, vs, d, ds', p, q, hargs, rfl, rfl, hd, hrest⟩ := trodAll_cons h
  obtain ⟨v', vs', d', ds'', p', q', rfl, rfl, rfl, hd', hrest'⟩ := trodAll_cons hrest
  obtain ⟨v'', vs'', d'', ds''', p'', q'', rfl, rfl, rfl, hd'', hrest''⟩ := trodAll_cons hrest'
  obtain ⟨v3, vs3, d3, ds3, p3, q3, rfl, rfl, rfl, hd3, hrest3⟩ := trodAll_cons hrest''
  obtain ⟨v4, vs4, d4, ds4, p4, q4, rfl, rfl, rfl, hd4, hrest4⟩ := trodAll_cons hrest3
  obtain ⟨rfl, rfl, rfl⟩ := trodAll_nil hrest4
  exact ⟨v, v', v'', v3, v4, d, d', d'', d3, d4, p, p', p'', p3, p4, by cases args; simp_all, rfl, rfl, hd, hd', hd'', hd3, hd4⟩
theorem trodAll_six {t t' t'' t3 t4 t5 : TypeId} {args : Array Value} {ds : List (DataW H)} {ps : List MemPlace} (h : DataW.TrodAll enc P w base spare held [t, t', t'', t3, t4, t5] args.toList ds ps) :
    ∃ v v' v'' v3 v4 v5 d d' d'' d3 d4 d5 p p' p'' p3 p4 p5, args = #[v, v', v'', v3, v4, v5] ∧ ds = [d, d', d'', d3, d4, d5] ∧ ps = p ++ (p' ++ (p'' ++ (p3 ++ (p4 ++ (p5 ++ []))))) ∧ DataW.Trod enc P w base spare held t v d p ∧ DataW.Trod enc P w base spare held t' v' d' p' ∧ DataW.Trod enc P w base spare held t'' v'' d'' p'' ∧ DataW.Trod enc P w base spare held t3 v3 d3 p3 ∧ DataW.Trod enc P w base spare held t4 v4 d4 p4 ∧ DataW.Trod enc P w base spare held t5 v5 d5 p5 := by
  obtain ⟨v, vs, d, ds', p, q, hargs, rfl, rfl, hd, hrest⟩ := trodAll_cons h
  obtain ⟨v', vs', d', ds'', p', q', rfl, rfl, rfl, hd', hrest'⟩ := trodAll_cons hrest
  obtain ⟨v'', vs'', d'', ds''', p'', q'', rfl, rfl, rfl, hd'', hrest''⟩ := trodAll_cons hrest'
  obtain ⟨v3, vs3, d3, ds3, p3, q3, rfl, rfl, rfl, hd3, hrest3⟩ := trodAll_cons hrest''
  obtain ⟨v4, vs4, d4, ds4, p4, q4, rfl, rfl, rfl, hd4, hrest4⟩ := trodAll_cons hrest3
  obtain ⟨v5, vs5, d5, ds5, p5, q5, rfl, rfl, rfl, hd5, hrest5⟩ := trodAll_cons hrest4
  obtain ⟨rfl, rfl, rfl⟩ := trodAll_nil hrest5
  exact ⟨v, v', v'', v3, v4, v5, d, d', d'', d3, d4, d5, p, p', p'', p3, p4, p5, by cases args; simp_all, rfl, rfl, hd, hd', hd'', hd3, hd4, hd5⟩
end
end Go.Vc
