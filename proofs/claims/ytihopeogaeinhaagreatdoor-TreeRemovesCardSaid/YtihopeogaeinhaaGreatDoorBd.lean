import Derived.Test.YtihopeogaeinhaaGreatDoorEq
import Derived.Below
import Derived.Lib.UnsafeStr
import Derived.Lib.Builder
set_option linter.unusedVariables false
set_option linter.unusedSimpArgs false
set_option maxRecDepth 100000
/- Contracts of the kit's shelf as contracts over heaps; unsafe strings. -/
namespace Go.Vc
open Go.RowKit
variable {P : Program} {H H' : Heap}
/-- a contract of the kit's -/
theorem CallH.calls {f : FuncId} {args : List Value} {R : Value → Heap → Prop} (hc : ∀ (args : Array Value) (w : World), (callFunc f args).run P w = .ok (.enter f args) w)
    (h : ∀ w : World, w.heap = H → Calls P f args.toArray w fun e w' => ∃ v, e = .returned v ∧ Same w w' ∧ R v w'.heap) : CallH P f args H R := by
  refine ⟨fun w hw => ?_⟩
  rw [hc]
  exact ⟨Same.refl w, Calls.mono (h w hw) fun e w' ⟨v, h1, h2, h3⟩ => ⟨h2, v, h1, h3⟩⟩
theorem Below.same {B : Nat} {w w' : World} (h : Below B w w') : Same w w' := ⟨h.os, h.tape, h.output⟩
theorem Below.ext {w w' : World} (h : Below w.heap.size w w') : Ext w.heap w'.heap := ⟨h.size, fun b hb _ => h.block b hb⟩
theorem builtinV {b : Builtin} {s : Sem Value} {ts : Array TypeId} {ty : TypeId} {cb : Array Bool} {as : Array Value} {K : Value → Heap → Prop} (hd : builtin b ts ty cb as = (do pure (.value (← s)) : Sem Next))
    (h : ∀ w : World, w.heap = H → ∃ v w', s.run P w = .ok v w' ∧ Same w w' ∧ K v w'.heap) : NextH P (builtin b ts ty cb as) H K := by
  refine ⟨fun w hw => ?_⟩
  obtain ⟨v, w', h1, h2, h3⟩ := h w hw
  rw [hd]
  simp only [Sem.run_bind, h1, Result.andThen_ok]
  exact ⟨h2, h3⟩
theorem NextH.sliceData {ts : Array TypeId} {ty : TypeId} {cb : Array Bool} {a : Addr} {n c : Nat} {K : Value → Heap → Prop} (hc : 0 < c) (hk : K (.pointer (some a)) H) : NextH P (builtin .unsafeSliceData ts ty cb #[.slice (some a) n c]) H K :=
  builtinV rfl fun w hw => ⟨_, w, Lib.run_unsafeSliceData_row w ts ty a n c (by omega), Same.refl w, hw ▸ hk⟩
theorem NextH.sliceData_nil {ts : Array TypeId} {ty : TypeId} {cb : Array Bool} {n c : Nat} {K : Value → Heap → Prop} (hk : K (.pointer none) H) : NextH P (builtin .unsafeSliceData ts ty cb #[.slice none n c]) H K :=
  builtinV rfl fun w hw => ⟨_, w, Lib.run_unsafeSliceData_nil w ts ty n c, Same.refl w, hw ▸ hk⟩
theorem NextH.unsafeString_none {pt it ty : TypeId} {cb : Array Bool} {p : Option Addr} {K : Value → Heap → Prop} (hk : K (.string ⟨#[]⟩) H) : NextH P (builtin .unsafeString #[pt, it] ty cb #[.pointer p, .int .i64 0]) H K :=
  builtinV rfl fun w hw => ⟨_, w, Lib.run_unsafeString_none w pt it ty p, Same.refl w, hw ▸ hk⟩
theorem freeze_but (w : World) (g n : Nat) : But g w.heap (w.freeze ⟨g, 0, none⟩ n).heap := by
  unfold World.freeze
  split
  · exact Only.refl _ _
  · refine ⟨by simp, fun b hb hne => ?_⟩
    simp only [Array.getElem?_modify]
    rw [if_neg (fun e => hne e.symm)]
theorem freeze_same (w : World) (a : Addr) (n : Nat) : Same w (w.freeze a n) := by unfold World.freeze; split <;> exact ⟨rfl, rfl, rfl⟩
theorem NextH.unsafeString {pt it ty e : TypeId} {cb : Array Bool} {g : Nat} {l : List UInt8} {c : Array Value} {K : Value → Heap → Prop} (hp : P.underlying pt = some (.pointer e)) (hc1 : P.cellsOf e = 1) (hb : Blk H g c e) (h0 : l ≠ []) (hn : l.length ≤ c.size) (h63 : l.length ≤ 9223372036854775807)
    (hc : ∀ (j : Nat) (x : UInt8), l[j]? = some x → c[j]? = some (Value.int .u8 (x.toNat : Int))) (hk : ∀ H', But g H H' → K (.string (mkS l)) H') : NextH P (builtin .unsafeString #[pt, it] ty cb #[.pointer (some ⟨g, 0, none⟩), .int .i64 l.length]) H K :=
  builtinV rfl fun w hw => by
    obtain ⟨fr, h1, _⟩ := hb.out
    rw [← hw] at h1
    refine ⟨_, _, Lib.run_unsafeString_row w pt it ty e hp hc1 g c.size (by simp [World.shape?, h1]) l h0 hn h63 (fun j x hx => ?_), freeze_same _ _ _, hk _ (hw ▸ freeze_but w g _)⟩
    rw [addk, Nat.zero_add]
    simp [World.cell?, h1, hc j x hx]
theorem setCell_blk {w : World} {b i : Nat} {c : Array Value} {t : TypeId} {v : Value} (hb : Blk w.heap b c t) : Blk (w.setCell ⟨b, i, none⟩ v).heap b (c.setIfInBounds i v) t ∧ But b w.heap (w.setCell ⟨b, i, none⟩ v).heap ∧ Same w (w.setCell ⟨b, i, none⟩ v) := by
  have hl := hb.lt
  obtain ⟨fr, h1, h2⟩ := hb.out
  rw [set_eq h1]
  exact ⟨⟨fr, by simp [hl], by simpa using h2⟩, Only.set _ _ _, ⟨rfl, rfl, rfl⟩⟩
/- string builders, as the kit's shelf tells them -/
theorem SemH.alloc0 {t : TypeId} {i : TypeInfo} {z : Value} {K : Value → Heap → Prop} (hi : P.info? t = some i) (hz : i.zero = some z)
    (hk : ∀ H', H'.size = H.size + 1 → H'[H.size]? = some (.cells z.cells t (0, 0)) → Ext H H' → K (.pointer (some ⟨H.size, 0, none⟩)) H') : SemH P (Instr.alloc t true (.tuple #[])) H K := by
  refine ⟨fun w hw => ⟨.pointer (some ⟨w.heap.size, 0, none⟩), { w with heap := w.heap.push (.cells z.cells t) }, ?_, ⟨rfl, rfl, rfl⟩, ?_⟩⟩
  · simp only [Instr.alloc, zeroValue, Sem.run_bind, typeInfo_of hi, Result.andThen_ok, hz, Sem.run_pure, newVar, newRow, run_newObj]
  · subst hw
    exact hk _ (by simp) (push_last _ _) (Only.push _ _ _)
def BufH (T e : TypeId) (H : Heap) (B b : Nat) (l : List UInt8) : Prop := ∀ w : World, w.heap = H → Lib.IsBuilder T e B b (Lib.byteCells l) w
theorem ownsRow_keep {w w' : World} {B : Nat} {e : TypeId} {size : Nat} {v : Value} {n : Nat} {xs : List Value} (h : w.ownsRow B e size v n xs) (k : ∀ g, g < w.heap.size → w'.heap[g]? = w.heap[g]?) : w'.ownsRow B e size v n xs := by
  refine ⟨h.1, ?_⟩
  rcases h.2 with h | ⟨g, cap, cur, h1, h2, h3, h4⟩
  · exact .inl h
  · exact .inr ⟨g, cap, cur, h1, h2, by rw [k g (Array.getElem?_eq_some_iff.1 h3).1]; exact h3, h4⟩
theorem builderAt_keep {T e : TypeId} {B b : Nat} {p : Value} {bs : List Value} {w w' : World} (h : Lib.BuilderAt T e B b p bs w) (k : ∀ g, g < w.heap.size → w'.heap[g]? = w.heap[g]?) : Lib.BuilderAt T e B b p bs w' := by
  obtain ⟨h1, v, h2, h3, h4⟩ := h
  exact ⟨h1, v, by rw [k b (Array.getElem?_eq_some_iff.1 h2).1]; exact h2, ownsRow_keep h3 k, h4⟩
theorem BufH.keep {T e : TypeId} {B b : Nat} {l : List UInt8} (h : BufH T e H B b l) (k : Ext H H') : BufH T e H' B b l := by
  intro w hw
  have h0 := h { w with heap := H } rfl
  have hk : ∀ g, g < H.size → w.heap[g]? = H[g]? := fun g hg => by rw [hw]; exact k.same g hg id
  rcases h0 with h0 | h0
  · exact .inl (builderAt_keep h0 hk)
  · exact .inr (builderAt_keep h0 hk)
theorem BufH.of {T e : TypeId} {B b : Nat} {l : List UInt8} {w : World} (h : Lib.IsBuilder T e B b (Lib.byteCells l) w) : BufH T e w.heap B b l := by
  intro w' hw
  rcases h with h | h
  · exact .inl (builderAt_keep h fun g _ => by rw [hw])
  · exact .inr (builderAt_keep h fun g _ => by rw [hw])
theorem BufH.new {T e : TypeId} {b : Nat} (hb : H[b]? = some (.cells #[.pointer none, .slice none 0 0] T (0, 0))) : BufH T e H b b [] := by
  intro w hw
  exact .inl ⟨Nat.le_refl _, _, by rw [hw]; exact hb, ⟨rfl, .inl ⟨rfl, rfl⟩⟩, by simp [Value.ownBlock]⟩
/-- all below a block is as it was -/
abbrev Upon (B : Nat) (H H' : Heap) : Prop := Only (fun b => B ≤ b) H H'
theorem Below.upon {B : Nat} {w w' : World} (h : Below B w w') : Upon B w.heap w'.heap := ⟨h.size, fun b hb hn => h.block b (by omega)⟩
theorem Upon.ext {B : Nat} {H0 : Heap} (h : Ext H0 H) (k : Upon B H H') (hB : H0.size ≤ B) : Ext H0 H' := Only.trans h k fun b hb hh => by omega
end Go.Vc
