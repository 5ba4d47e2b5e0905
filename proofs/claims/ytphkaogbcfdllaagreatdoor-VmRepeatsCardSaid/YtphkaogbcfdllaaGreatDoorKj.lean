import Derived.Test.YtphkaogbcfdllaaGreatDoorKb
import Derived.Carry
import Derived.ProofKit
import Derived.OpenShut
import Derived.Test.YtphkaogbcfdllaaGreatDoorKi
import Derived.ChangeMaps5
import Derived.Test.YtphkaogbcfdllaaGreatDoorTie
import Derived.Test.YtphkaogbcfdllaaGreatDoorCards
import Derived.LaidMore
import Derived.LaidHandle
import Derived.Lay
import Derived.Lib.LaidTab
import Derived.Stop.LaidErr
import Derived.SevenTiedAt
import Derived.Stop.Joined
set_option linter.unusedVariables false
set_option linter.unusedSimpArgs false
set_option maxRecDepth 100000
/- From a call's contract to a statement: what a call reads from its arguments; what a call that only lays new blocks leaves as it was. -/
namespace Go.Vc
open Go.ChangeShapes Go.WideShapes Go.RowKit

section
variable {H : Type} {enc : TypeId × Value → H} {P : Program}

theorem below_of {W W' : World} (hs : Same W W') (hx : Ext W.heap W'.heap) : Below W.heap.size W W' :=
  ⟨hs.os, hs.tape, hs.output, hx.size, fun k hk => hx.same k hk id⟩

theorem trodAll_stays (hl : laidOutB P = true) {W W' : World} (hb : Below W.heap.size W W') {sp : Nat → Bool} : ∀ {ts : List TypeId} {vs : List Value} {ds : List (DataW H)} {ps : List MemPlace}, (∀ t ∈ ts, P.readableRec t = true ∧ t < P.types.size) →
    DataW.TrodAll enc P W 0 (fun _ => true) true ts vs ds ps → (∀ p ∈ ps, p.block < W.heap.size) → (∀ p ∈ ps, sp p.block = true) → DataW.TrodAll enc P W' 0 sp true ts vs ds ps
  | [], [], [], _, _, h, _, _ => h
  | t :: ts, v :: vs, d :: ds, _, hT, ⟨p, q, h1, h2, e⟩, hlt, hs => by
    subst e
    exact ⟨p, q, WideElems.Trod_stays hl (hT t (by simp)).1 (hT t (by simp)).2 h1 (fun x hx => hb.same (hlt x (by simp [hx]))) (fun x hx => hs x (by simp [hx])),
      trodAll_stays hl hb (fun t ht => hT t (by simp [ht])) h2 (fun x hx => hlt x (by simp [hx])) (fun x hx => hs x (by simp [hx])), rfl⟩

/-- A law's call that answers true and lays at most new blocks: what the row asks. -/
theorem law_post {f : Func} {s : ChangeSpec} {apart fresh handsOn again : Bool} {W W' : World} {args : Array Value} {ds gs : List (DataW H)} {before : List MemPlace} {tb : TypeId}
    (hW : DataW.Whole enc P f.params.toList s.vars apart W args.toList ds gs before) (hv : s.vars = []) (hs : s.fn H (ds ++ gs) = { results := [.lit (.bool true)], args := ds, vars := [] })
    (hr : f.resultTypes = #[tb]) (hb : P.underlying tb = some .bool) (hl : laidOutB P = true) (hread : ∀ t ∈ f.params.toList, P.readableRec t = true ∧ t < P.types.size)
    (hsame : Same W W') (hx : Ext W.heap W'.heap) : s.post enc P f apart fresh handsOn again W args (.bool true) W' := by
  have hlt := hW.lt
  have hW' := hW
  obtain ⟨p, q, hA, hV, rfl, hfz, hnd⟩ := hW
  rw [hv] at hV
  obtain ⟨rfl, rfl⟩ := trodVars_none hV
  have hbel := below_of hsame hx
  have hone : (Value.bool true).resultList f.resultTypes.size = [.bool true] := by rw [hr]; rfl
  have hrt : ∀ (b : Nat) (sp : Nat → Bool) (hd : Bool), DataW.TrodAll enc P W' b sp hd f.resultTypes.toList ((Value.bool true).resultList f.resultTypes.size) (s.fn H (ds ++ [])).results [] := fun b sp hd => by
    rw [hone, hr, hs]
    exact trodAll_cons_mk (shut_bool hb true) trodAll_mk0
  have hlt' : ∀ x ∈ p, x.block < W.heap.size := fun x hx => hlt x (by simp [hx])
  have hat : ∀ sp : Nat → Bool, (∀ x ∈ p, sp x.block = true) → DataW.TrodAll enc P W' 0 sp true f.params.toList args.toList (s.fn H (ds ++ [])).args p := fun sp hsp => by
    rw [hs]; exact trodAll_stays hl hbel hread hA hlt' hsp
  refine ⟨ds, [], p ++ [], [], p, [], hW', hrt _ _ _, hat _ (fun x hx => by simpa using hlt' x hx), ?_, hbel.frame _, fun _ => ⟨?_, _, [], ([] ++ p) ++ [], ⟨[] ++ p, [], trodAll_append (hat _ (fun _ _ => rfl)) (hrt _ _ _), ?_, rfl, ?_, ?_⟩, ?_⟩⟩
  · rw [hv, hs]; exact rfl
  · intro j t r hj hr'
    rw [hone] at hr'
    rw [hr] at hj
    match j, hj, hr' with
    | 0, hj, hr' =>
      simp at hj hr'
      subst hj; subst hr'
      exact okWide_bool_mk hb true
  · rw [hv]; exact rfl
  · intro b off hp
    have hp' : MemPlace.cell b off ∈ p := by simpa using hp
    have hb' := hlt' _ hp'
    rw [hbel.frozen (p := ⟨b, off, none⟩) hb']
    exact hfz b off (by simpa using hp')
  · intro ha
    have := hnd ha
    simpa using this
  · intro x hx _
    simpa using hx

/-- from the contract over heaps to the model's own run -/
theorem calls_of {f : FuncId} {args : Array Value} {W : World} {R : Value → Heap → Prop} (hc : (callFunc f args).run P W = .ok (.enter f args) W) (h : CallH P f args.toList W.heap R) :
    Calls P f args W fun e w => Same W w ∧ ∃ v, e = .returned v ∧ R v w.heap := by
  have := h.out W rfl
  rw [Array.toArray_toList, hc] at this
  exact this.2

theorem law_calls {f : FuncId} {fn : Func} {s : ChangeSpec} {apart fresh handsOn again : Bool} {W : World} {args : Array Value} {ds gs : List (DataW H)} {before : List MemPlace} {tb : TypeId}
    (hc : (callFunc f args).run P W = .ok (.enter f args) W) (h : CallH P f args.toList W.heap fun v H' => v = .bool true ∧ Ext W.heap H')
    (hW : DataW.Whole enc P fn.params.toList s.vars apart W args.toList ds gs before) (hv : s.vars = []) (hs : s.fn H (ds ++ gs) = { results := [.lit (.bool true)], args := ds, vars := [] })
    (hr : fn.resultTypes = #[tb]) (hb : P.underlying tb = some .bool) (hl : laidOutB P = true) (hread : (fn.params.toList.all fun t => P.readableRec t && decide (t < P.types.size)) = true) :
    Calls P f args W fun e W' => ∃ v, e = .returned v ∧ s.post enc P fn apart fresh handsOn again W args v W' :=
  Calls.mono (calls_of hc h) fun e w' ⟨hsame, v, he, hv', hx⟩ => ⟨v, he, hv' ▸ law_post hW hv hs hr hb hl (fun t ht => by simpa using List.all_eq_true.1 hread t ht) hsame hx⟩

/- ---------- what arguments are ---------- -/
variable {w : World} {base : Nat} {sp : Nat → Bool} {held : Bool}

end
end Go.Vc
/- Parameters that are slices of records: files. -/
namespace Go.Vc
open Go.ChangeShapes Go.WideShapes Go.RowKit
section
variable {H : Type} {enc : TypeId × Value → H} {P : Program} {w : World} {base : Nat} {sp : Nat → Bool} {held : Bool}
end
end Go.Vc
namespace Go.Proofs.YtphkaogbcfdllaaGreatDoor
open Go Go.Vc Go.Scr Go.Pth Go.Tre Go.ChangeShapes Go.WideShapes Go.RowKit
section
variable {H : Type} {enc : TypeId × Value → H} {w : World} {base : Nat} {sp : Nat → Bool} {held : Bool}
end
end Go.Proofs.YtphkaogbcfdllaaGreatDoor
/- From a call's contract to a statement, more: arguments. -/
namespace Go.Vc
open Go.ChangeShapes Go.WideShapes Go.RowKit
section
variable {H : Type} {enc : TypeId × Value → H} {P : Program} {w : World} {base : Nat} {spare : Nat → Bool} {held : Bool}
end
end Go.Vc
/- Errors, the statements' frame: what the listed package variables hold; a world in which they do. -/
namespace Go.Proofs.YtphkaogbcfdllaaGreatDoor
open Go Go.Vc Go.ChangeShapes Go.WideShapes Go.ChangeAt Go.RowKit

theorem laid_out : laidOutB Tryz.prog = true := by kernel_rfl
theorem own : ownKnob Tryz.prog.godebug = none := by kernel_rfl
abbrev laidF : List (String × DataW Unit) := Rows.vmIfsRow.laid
abbrev laidD : List (String × DataW Unit) := laidF.filter fun x => x.2.handleName?.isNone
noncomputable def world0 (os : Os) : World :=
  let w0 := World.holding Tryz.prog os ⟨#[], #[], []⟩
  { w0 with heap := w0.heap.modify 0 fun
      | .cells _ t frozen => .cells #[.iface 318 (.agg #[.pointer (some ⟨7, 30, none⟩)])] t frozen
      | o => o }
noncomputable def witW (os : Os) : World := (world0 os).layVars Tryz.prog laidD
theorem witW_os (os : Os) : (witW os).os = os := World.layVars_os _ _ _
theorem witW_met (os : Os) (args : Array Value) : laidMetH Tryz.prog laidF ((witW os).forCall (fun _ _ => 0) ⟨#[], args, []⟩).memory := by
  refine laidMetH_of_parts ?_ (by kernel_rfl)
  have e1 : (laidD.filter fun x => (laidD.map (·.1)).contains x.1) = laidD := List.filter_eq_self.2 fun x hx => List.contains_iff_mem.2 (List.mem_map.2 ⟨x, hx, rfl⟩)
  have e2 : (laidD.filter fun x => !(laidD.map (·.1)).contains x.1) = [] := List.filter_eq_nil_iff.2 fun x hx => by rw [List.contains_iff_mem.2 (List.mem_map.2 ⟨x, hx, rfl⟩)]; simp
  have h : laidMet Tryz.prog laidD (witW os) := laidMet_layVars (w0 := world0 os) (laidD.map (·.1)) [] (by rw [e1]; rfl) (by rw [e1]; kernel_rfl) (by rw [e1]; kernel_rfl) (by rw [e2]; exact LaidIn.none)
  exact h.of_heap (by simp [World.memory, World.forCall, Input.heap])
theorem one_row : ((List.range Tryz.prog.types.size).filter fun t => Tryz.prog.rowNamed t [101, 114, 114, 111, 114]) = [30] := by kernel_rfl
theorem glb_of_laid {W : World} (h : laidMetH Tryz.prog laidF W) : Glb W.heap := by
  have h' : laidMet Tryz.prog laidD W ∧ handlesMet Tryz.prog (laidF.filter fun x => x.2.handleName?.isSome) W := h
  refine ⟨?_, ?_⟩
  · obtain ⟨name, u, ty, e1, e2, e3, e4, e5⟩ := h'.2 _ (List.mem_singleton.2 rfl)
    have en : name = [101, 114, 114, 111, 114] := (Option.some.inj e1).symm
    subst en
    have hu : some u = some 318 := e2.symm.trans (by kernel_rfl)
    obtain rfl := Option.some.inj hu
    have hm : ty ∈ (List.range Tryz.prog.types.size).filter fun t => Tryz.prog.rowNamed t [101, 114, 114, 111, 114] := List.mem_filter.2 ⟨List.mem_range.2 e3, e4⟩
    rw [one_row] at hm
    obtain rfl := List.mem_singleton.1 hm
    have hh : typeHandle Tryz.prog 30 = .pointer (some ⟨7, 30, none⟩) := by kernel_rfl
    rw [hh] at e5
    have hc : W.cell? ⟨0, 0, none⟩ = some (.iface 318 (.agg #[.pointer (some ⟨7, 30, none⟩)])) := by simpa using World.var?_cell (show Tryz.prog.globalNamed _ = some 0 by kernel_rfl) e5 0
    rw [cell_heap] at hc
    exact hc
  · have h3 := laidMet.tail (laidMet.tail h'.1)
    have ht := Lib.tabIs_of_head (P := Tryz.prog) (W := W) (k := .u64) (zs := Lib.pow10Tab) (g := 1) (t := 353) (e := 187) (by kernel_rfl) (by kernel_rfl) rfl rfl (by kernel_rfl) (by kernel_rfl) h3
    unfold Lib.TabIs World.var? at ht
    rw [show Tryz.prog.globalNamed _ = some 1 by kernel_rfl] at ht
    simp only [Option.bind_some] at ht
    split at ht
    · rename_i cs t fr he
      cases ht
      exact ⟨t, fr, he⟩
    · cases ht
end Go.Proofs.YtphkaogbcfdllaaGreatDoor
