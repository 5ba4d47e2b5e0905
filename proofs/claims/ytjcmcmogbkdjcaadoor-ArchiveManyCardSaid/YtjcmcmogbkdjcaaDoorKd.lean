import Derived.Test.YtjcmcmogbkdjcaaDoorKb
import Derived.Laws.StructEq
import Derived.Below
import Derived.Lib.UnsafeStr
import Derived.Lib.Builder
import Derived.Shelf.Strings.Builder1
import Derived.Shelf.Strings.OnBuilder
import Derived.Test.YtjcmcmogbkdjcaaDoorProg
import Derived.Lib.Join
import Derived.Test.YtjcmcmogbkdjcaaDoorKc
import Derived.Sort.Grow
import Derived.Sort.Row
set_option linter.unusedVariables false
set_option linter.unusedSimpArgs false
set_option maxRecDepth 100000
/- Equality of structs whose parts are numbers, bools, strings. -/
namespace Go.Vc
variable {P : Program}
def eqScal (P : Program) (t : TypeId) (a b : Value) : Option Bool :=
  match P.underlying t with
  | some .bool => match a with
    | .bool a => match b with
      | .bool b => some (a == b)
      | _ => none
    | _ => none
  | some (.int _) => match a with
    | .int k a => match b with
      | .int k' b => match kindEq k k' with
        | true => some (a == b)
        | false => none
      | _ => none
    | _ => none
  | some .string => match a with
    | .string a => match b with
      | .string b => some (a.toList == b.toList)
      | _ => none
    | _ => none
  | _ => none
theorem eqScal_run {t : TypeId} {a b : Value} {r : Bool} (h : eqScal P t a b = some r) (d : Nat) (w : World) : (Op.equalIn (d + 1) t a b).run P w = .ok r w := by
  unfold eqScal at h
  split at h
  · rename_i hu
    split at h
    · split at h
      · cases h; exact run_equalIn_bool w d t _ _ hu
      · cases h
    · cases h
  · rename_i k hu
    split at h
    · split at h
      · split at h
        · rename_i hk
          cases h; obtain rfl := kindEq_spec hk; exact run_equalIn_int w d t _ _ _ _ hu
        · cases h
      · cases h
    · cases h
  · rename_i hu
    split at h
    · split at h
      · cases h; exact run_equalIn_string w d t _ _ hu
      · cases h
    · cases h
  · cases h
def eqFlat (P : Program) (xs ys : List Value) : List Field → Option Bool
  | [] => some true
  | f :: fs => match aggB P f.type with
    | some false => match nth xs f.offset with
      | some a => match nth ys f.offset with
        | some b => match eqScal P f.type a b with
          | some r => match eqFlat P xs ys fs with
            | some s => some (r && s)
            | none => none
          | none => none
        | none => none
      | none => none
    | _ => none
theorem part_scal {t : TypeId} {cs : Array Value} {o : Nat} {v : Value} (h1 : aggB P t = some false) (h2 : nth cs.toList o = some v) (w : World) : (part t cs o).run P w = .ok v w := by
  rw [nth_eq] at h2
  have h3 : cs[o]? = some v := by simpa using h2
  simp [part, isAgg_of h1, h3]
theorem eqFlat_run (d : Nat) (xs ys : Array Value) : ∀ (fs : List Field) (r : Bool), (fs.all fun f => f.name != "_") = true → eqFlat P xs.toList ys.toList fs = some r → ∀ w, (Op.eqFields (d + 1) xs ys fs).run P w = .ok r w
  | [], r, _, h, w => by cases h; simp [Op.eqFields]
  | f :: fs, r, hn, h, w => by
    simp only [List.all_cons, Bool.and_eq_true, bne_iff_ne] at hn
    unfold eqFlat at h
    split at h
    · rename_i ha
      split at h
      · rename_i a hx
        split at h
        · rename_i b hy
          split at h
          · rename_i q hq
            split at h
            · rename_i s hs
              cases h
              have ih := eqFlat_run d xs ys fs s hn.2 hs
              unfold Op.eqFields
              rw [if_pos hn.1]
              simp only [Sem.run_bind, part_scal ha hx, part_scal ha hy, Result.andThen_ok, eqScal_run hq]
              cases q
              · simp
              · simp [ih]
            · cases h
          · cases h
        · cases h
      · cases h
    · cases h
theorem PureH.neq_flat {t : TypeId} {ox oy : Operand} {xs ys : Array Value} {r : Bool} {K : Value → Prop} (ht : P.underlying t = some (.struct (P.fieldsOf t))) (hp : P.stoodInHeld t = false) (hg : P.eqGuardType P.depth t = false)
    (hn : ((P.fieldsOf t).toList.all fun f => f.name != "_") = true) (he : eqFlat P xs.toList ys.toList (P.fieldsOf t).toList = some r) (hk : K (.bool !r)) :
    PureH P (do eqGuard .neq t ox oy (.agg xs) (.agg ys); binOp .neq t (.agg xs) (.agg ys)) K := by
  refine ⟨_, fun w => ?_, hk⟩
  simp only [Sem.run_bind, run_eqGuard_agg w .neq t ox oy _ _ hg, Result.andThen_ok]
  rw [run_neq_struct, run_equalIn_struct w 9999 t xs ys ht hp, eqFlat_run 9998 xs ys _ _ hn he]
  rfl
theorem PureH.eql_flat {t : TypeId} {ox oy : Operand} {xs ys : Array Value} {r : Bool} {K : Value → Prop} (ht : P.underlying t = some (.struct (P.fieldsOf t))) (hp : P.stoodInHeld t = false) (hg : P.eqGuardType P.depth t = false)
    (hn : ((P.fieldsOf t).toList.all fun f => f.name != "_") = true) (he : eqFlat P xs.toList ys.toList (P.fieldsOf t).toList = some r) (hk : K (.bool r)) :
    PureH P (do eqGuard .eql t ox oy (.agg xs) (.agg ys); binOp .eql t (.agg xs) (.agg ys)) K := by
  refine ⟨_, fun w => ?_, hk⟩
  simp only [Sem.run_bind, run_eqGuard_agg w .eql t ox oy _ _ hg, Result.andThen_ok]
  rw [run_eql_struct, run_equalIn_struct w 9999 t xs ys ht hp, eqFlat_run 9998 xs ys _ _ hn he]
  rfl
end Go.Vc
/- Contracts of the kit's shelf as contracts over heaps; unsafe strings. -/
namespace Go.Vc
open Go.RowKit
variable {P : Program} {H H' : Heap}
/-- a contract of the kit's -/
theorem CallH.calls {f : FuncId} {args : List Value} {R : Value → Heap → Prop} (hc : ∀ (args : Array Value) (w : World), (callFunc f args).run P w = .ok (.enter f args) w)
    (h : ∀ w : World, w.heap = H → Calls P f args.toArray w fun e w' => ∃ v, e = .returned v ∧ Same w w' ∧ R v w'.heap) : CallH P f args H R := by
  refine ⟨fun w hw => ?_⟩
  rw [hc]
  exact ⟨Same.refl w, Calls.mono (h w hw) fun e w' ⟨v, h1, h2, h3⟩ => ⟨h2, v, h1, h3⟩⟩
theorem Below.same {B : Nat} {w w' : World} (h : Below B w w') : Same w w' := ⟨h.os, h.tape, h.output⟩
theorem Below.ext {w w' : World} (h : Below w.heap.size w w') : Ext w.heap w'.heap := ⟨h.size, fun b hb _ => h.block b hb⟩
theorem builtinV {b : Builtin} {s : Sem Value} {ts : Array TypeId} {ty : TypeId} {cb : Array Bool} {ags : Array Value} {K : Value → Heap → Prop} (hd : builtin b ts ty cb ags = (do pure (.value (← s)) : Sem Next))
    (h : ∀ w : World, w.heap = H → ∃ v w', s.run P w = .ok v w' ∧ Same w w' ∧ K v w'.heap) : NextH P (builtin b ts ty cb ags) H K := by
  refine ⟨fun w hw => ?_⟩
  obtain ⟨v, w', h1, h2, h3⟩ := h w hw
  rw [hd]
  simp only [Sem.run_bind, h1, Result.andThen_ok]
  exact ⟨h2, h3⟩
theorem NextH.sliceData {ts : Array TypeId} {ty : TypeId} {cb : Array Bool} {a : Addr} {n c : Nat} {K : Value → Heap → Prop} (hc : 0 < c) (hk : K (.pointer (some a)) H) : NextH P (builtin .unsafeSliceData ts ty cb #[.slice (some a) n c]) H K :=
  builtinV rfl fun w hw => ⟨_, w, Lib.run_unsafeSliceData_row w ts ty a n c (by omega), Same.refl w, hw ▸ hk⟩
theorem NextH.sliceData_nil {ts : Array TypeId} {ty : TypeId} {cb : Array Bool} {n c : Nat} {K : Value → Heap → Prop} (hk : K (.pointer none) H) : NextH P (builtin .unsafeSliceData ts ty cb #[.slice none n c]) H K :=
  builtinV rfl fun w hw => ⟨_, w, Lib.run_unsafeSliceData_nil w ts ty n c, Same.refl w, hw ▸ hk⟩
theorem NextH.unsafeString_none {pt it ty : TypeId} {cb : Array Bool} {p : Option Addr} {K : Value → Heap → Prop} (hk : K (.string ⟨#[]⟩) H) : NextH P (builtin .unsafeString #[pt, it] ty cb #[.pointer p, .int .i64 0]) H K :=
  builtinV rfl fun w hw => ⟨_, w, Lib.run_unsafeString_none w pt it ty p, Same.refl w, hw ▸ hk⟩
theorem freeze_but (w : World) (g n : Nat) : But g w.heap (w.freeze ⟨g, 0, none⟩ n).heap := by
  unfold World.freeze
  split
  · exact Only.refl _ _
  · refine ⟨by simp, fun b hb hne => ?_⟩
    simp only [Array.getElem?_modify]
    rw [if_neg (fun e => hne e.symm)]
theorem freeze_same (w : World) (a : Addr) (n : Nat) : Same w (w.freeze a n) := by unfold World.freeze; split <;> exact ⟨rfl, rfl, rfl⟩
theorem NextH.unsafeString {pt it ty e : TypeId} {cb : Array Bool} {g : Nat} {l : List UInt8} {c : Array Value} {K : Value → Heap → Prop} (hp : P.underlying pt = some (.pointer e)) (hc1 : P.cellsOf e = 1) (hb : Blk H g c e) (h0 : l ≠ []) (hn : l.length ≤ c.size) (h63 : l.length ≤ 9223372036854775807)
    (hc : ∀ (j : Nat) (x : UInt8), l[j]? = some x → c[j]? = some (Value.int .u8 (x.toNat : Int))) (hk : ∀ H', But g H H' → K (.string (mkS l)) H') : NextH P (builtin .unsafeString #[pt, it] ty cb #[.pointer (some ⟨g, 0, none⟩), .int .i64 l.length]) H K :=
  builtinV rfl fun w hw => by
    obtain ⟨fr, h1, _⟩ := hb.out
    rw [← hw] at h1
    refine ⟨_, _, Lib.run_unsafeString_row w pt it ty e hp hc1 g c.size (by simp [World.shape?, h1]) l h0 hn h63 (fun j x hx => ?_), freeze_same _ _ _, hk _ (hw ▸ freeze_but w g _)⟩
    rw [addk, Nat.zero_add]
    simp [World.cell?, h1, hc j x hx]
theorem setCell_blk {w : World} {b i : Nat} {c : Array Value} {t : TypeId} {v : Value} (hb : Blk w.heap b c t) : Blk (w.setCell ⟨b, i, none⟩ v).heap b (c.setIfInBounds i v) t ∧ But b w.heap (w.setCell ⟨b, i, none⟩ v).heap ∧ Same w (w.setCell ⟨b, i, none⟩ v) := by
  have hl := hb.lt
  obtain ⟨fr, h1, h2⟩ := hb.out
  rw [set_eq h1]
  exact ⟨⟨fr, by simp [hl], by simpa using h2⟩, Only.set _ _ _, ⟨rfl, rfl, rfl⟩⟩
/- string builders, as the kit's shelf tells them -/
theorem SemH.alloc0 {t : TypeId} {i : TypeInfo} {z : Value} {K : Value → Heap → Prop} (hi : P.info? t = some i) (hz : i.zero = some z)
    (hk : ∀ H', H'.size = H.size + 1 → H'[H.size]? = some (.cells z.cells t (0, 0)) → Ext H H' → K (.pointer (some ⟨H.size, 0, none⟩)) H') : SemH P (Instr.alloc t true (.tuple #[])) H K := by
  refine ⟨fun w hw => ⟨.pointer (some ⟨w.heap.size, 0, none⟩), { w with heap := w.heap.push (.cells z.cells t) }, ?_, ⟨rfl, rfl, rfl⟩, ?_⟩⟩
  · simp only [Instr.alloc, zeroValue, Sem.run_bind, typeInfo_of hi, Result.andThen_ok, hz, Sem.run_pure, newVar, newRow, run_newObj]
  · subst hw
    exact hk _ (by simp) (push_last _ _) (Only.push _ _ _)
def BufH (T e : TypeId) (H : Heap) (B b : Nat) (l : List UInt8) : Prop := ∀ w : World, w.heap = H → Lib.IsBuilder T e B b (Lib.byteCells l) w
theorem ownsRow_keep {w w' : World} {B : Nat} {e : TypeId} {size : Nat} {v : Value} {n : Nat} {xs : List Value} (h : w.ownsRow B e size v n xs) (k : ∀ g, g < w.heap.size → w'.heap[g]? = w.heap[g]?) : w'.ownsRow B e size v n xs := by
  refine ⟨h.1, ?_⟩
  rcases h.2 with h | ⟨g, cap, cur, h1, h2, h3, h4⟩
  · exact .inl h
  · exact .inr ⟨g, cap, cur, h1, h2, by rw [k g (Array.getElem?_eq_some_iff.1 h3).1]; exact h3, h4⟩
theorem builderAt_keep {T e : TypeId} {B b : Nat} {p : Value} {bs : List Value} {w w' : World} (h : Lib.BuilderAt T e B b p bs w) (k : ∀ g, g < w.heap.size → w'.heap[g]? = w.heap[g]?) : Lib.BuilderAt T e B b p bs w' := by
  obtain ⟨h1, v, h2, h3, h4⟩ := h
  exact ⟨h1, v, by rw [k b (Array.getElem?_eq_some_iff.1 h2).1]; exact h2, ownsRow_keep h3 k, h4⟩
theorem BufH.keep {T e : TypeId} {B b : Nat} {l : List UInt8} (h : BufH T e H B b l) (k : Ext H H') : BufH T e H' B b l := by
  intro w hw
  have h0 := h { w with heap := H } rfl
  have hk : ∀ g, g < H.size → w.heap[g]? = H[g]? := fun g hg => by rw [hw]; exact k.same g hg id
  rcases h0 with h0 | h0
  · exact .inl (builderAt_keep h0 hk)
  · exact .inr (builderAt_keep h0 hk)
theorem BufH.of {T e : TypeId} {B b : Nat} {l : List UInt8} {w : World} (h : Lib.IsBuilder T e B b (Lib.byteCells l) w) : BufH T e w.heap B b l := by
  intro w' hw
  rcases h with h | h
  · exact .inl (builderAt_keep h fun g _ => by rw [hw])
  · exact .inr (builderAt_keep h fun g _ => by rw [hw])
theorem BufH.new {T e : TypeId} {b : Nat} (hb : H[b]? = some (.cells #[.pointer none, .slice none 0 0] T (0, 0))) : BufH T e H b b [] := by
  intro w hw
  exact .inl ⟨Nat.le_refl _, _, by rw [hw]; exact hb, ⟨rfl, .inl ⟨rfl, rfl⟩⟩, by simp [Value.ownBlock]⟩
/-- all below a block is as it was -/
abbrev Upon (B : Nat) (H H' : Heap) : Prop := Only (fun b => B ≤ b) H H'
theorem Below.upon {B : Nat} {w w' : World} (h : Below B w w') : Upon B w.heap w'.heap := ⟨h.size, fun b hb hn => h.block b (by omega)⟩
theorem Upon.ext {B : Nat} {H0 : Heap} (h : Ext H0 H) (k : Upon B H H') (hB : H0.size ≤ B) : Ext H0 H' := Only.trans h k fun b hb hh => by omega
end Go.Vc
/-
  DERIVED: THE SHELF's CONTRACTS AT THIS DUMP, IN PLAIN WORDS (tools/lay-plain.mjs out of 'TrydShelf.lean', which tools/lay-shelf.mjs wrote): THE SAME DECLARATIONS UNDER THE SAME NAMES: 'import', 'namespace', 'open', 'def', 'theorem' AND NOTHING ELSE: no command of the shelf's: FOR A HAND-IN. Each laying: the table of numbers ('.._ren') and one theorem, a field a fact of the dump's own or the kernel's comparison; each contract: ONE APPLICATION.
-/
namespace Go.Proofs
open Go.Shelf
def Tryd.lays156_ren : Go.Shelf.Ren := ⟨fun | 156 => 49 | 165 => 65 | 166 => 66 | 169 => 67 | 240 => 78 | 241 => 79 | 276 => 87 | 277 => 88 | n => n, fun | 31 => 86 | 9 => 9 | 3 => 3 | 4 => 4 | 0 => 0 | 20 => 20 | 72 => 117 | 76 => 121 | 70 => 115 | 37 => 24 | 75 => 120 | 127 => 135 | 164 => 142 | 5 => 5 | 80 => 123 | n => n, fun | n => n⟩
theorem Tryd.lays156 : Go.Proofs.Lays.n156 Tryd.prog Tryd.lays156_ren := {
  mixed := by kernel_rfl
  f156 := Tryd.func49.trans (congrArg some (by kernel_rfl))
  f165 := Tryd.func65.trans (congrArg some (by kernel_rfl))
  f166 := Tryd.func66.trans (congrArg some (by kernel_rfl))
  f169 := Tryd.func67.trans (congrArg some (by kernel_rfl))
  f240 := Tryd.func78.trans (congrArg some (by kernel_rfl))
  f241 := Tryd.func79.trans (congrArg some (by kernel_rfl))
  f276 := Tryd.func87.trans (congrArg some (by kernel_rfl))
  f277 := Tryd.func88.trans (congrArg some (by kernel_rfl))
  t0 := Tryd.underlying0
  a0 := Tryd.isAgg0
  z0 := Tryd.sizeOf0
  v0 := Tryd.zeroValue0
  t3 := Tryd.underlying3
  a3 := Tryd.isAgg3
  z3 := Tryd.sizeOf3
  v3 := Tryd.zeroValue3
  t4 := Tryd.underlying4
  a4 := Tryd.isAgg4
  z4 := Tryd.sizeOf4
  v4 := Tryd.zeroValue4
  t9 := Tryd.underlying9
  a9 := Tryd.isAgg9
  z9 := Tryd.sizeOf9
  v9 := Tryd.zeroValue9
  t20 := Tryd.underlying20
  a20 := Tryd.isAgg20
  z20 := Tryd.sizeOf20
  v20 := Tryd.zeroValue20
  t31 := Tryd.underlying86
  a31 := Tryd.isAgg86
  z31 := Tryd.sizeOf86
  v31 := Tryd.zeroValue86
  t37 := Tryd.underlying24
  a37 := Tryd.isAgg24
  z37 := Tryd.sizeOf24
  v37 := Tryd.zeroValue24
  t70 := Tryd.underlying115
  a70 := Tryd.isAgg115
  z70 := Tryd.sizeOf115
  v70 := Tryd.zeroValue115
  t72 := Tryd.underlying117
  a72 := Tryd.isAgg117
  z72 := Tryd.sizeOf117
  v72 := Tryd.zeroValue117
  t75 := Tryd.underlying120
  a75 := Tryd.isAgg120
  z75 := Tryd.sizeOf120
  v75 := Tryd.zeroValue120
  t76 := Tryd.underlying121
  a76 := Tryd.isAgg121
  z76 := Tryd.sizeOf121
  v76 := Tryd.zeroValue121
  t127 := Tryd.underlying135
  a127 := Tryd.isAgg135
  z127 := Tryd.sizeOf135
  v127 := Tryd.zeroValue135
  t164 := Tryd.underlying142
  a164 := Tryd.isAgg142
  z164 := Tryd.sizeOf142
  v164 := Tryd.zeroValue142 }
theorem Tryd.Builder_Extra_156 : Builder.Extra Tryd.prog Tryd.lays156_ren := {
  sizeBuilder := by kernel_rfl
  liesBuilder := by kernel_rfl
  t5 := Tryd.underlying5
  a5 := Tryd.isAgg5
  z5 := Tryd.sizeOf5
  v5 := Tryd.zeroValue5
  infoByte := by kernel_rfl
  cellsByte := by kernel_rfl
  sizeByte := by kernel_rfl
  neB5 := by decide }
open Go.RowKit in
/-- No element: the empty string; the world is as it was. (Whatever the slice's address and capacity: a nil slice too.) (LAID: no walk: one application.) -/
theorem Tryd.strings_Join_none (a : Option Addr) (c : Nat) (sep : ByteArray) (w : World) :
    Calls Tryd.prog 49 #[.slice a 0 c, .string sep] w fun e w' => e = .returned (.string ⟨#[]⟩) ∧ w' = w := Any.strings_Join_none Tryd.lays156 Tryd.Builder_Extra_156 a c sep w
open Go.RowKit in
/-- strings.Join: "Join concatenates the elements of its first argument to create a single string. The separator string sep is placed between elements in the resulting string.": HOWEVER MANY ELEMENTS. Below the heap's end the world is as it was. (LAID: no walk: one application.) -/
theorem Tryd.strings_Join (bk o c : Nat) (xs : List ByteArray) (sep : ByteArray) (w : World) (hcells : ∀ (j : Nat) x, xs[j]? = some x → w.cell? ⟨bk, o + j, none⟩ = some (.string x)) (hbk : bk < w.heap.size) (hN : xs.length ≤ 140737488355328) (hcap : xs.length ≤ c) (hlen : (Lib.join (xs.map (·.data.toList)) sep.data.toList).length ≤ 140737488355328) :
    Calls Tryd.prog 49 #[.slice (some ⟨bk, o, none⟩) xs.length c, .string sep] w fun e w' => e = .returned (.string ⟨(Lib.join (xs.map (·.data.toList)) sep.data.toList).toArray⟩) ∧ Below w.heap.size w w' := Any.strings_Join Tryd.lays156 Tryd.Builder_Extra_156 bk o c xs sep w hcells hbk hN hcap hlen
end Go.Proofs
/- Joined texts, by the kit's contract. -/
namespace Go.Proofs.YtjcmcmogbkdjcaaDoor
open Go Go.Vc Go.Scr Go.RowKit
theorem join_any {H : Heap} {a : Option Addr} {n cap : Nat} {ws : List Bs} {sep : Bs} (hr : Row H a (strs ws)) (hn : ws.length = n) (hc : n ≤ cap) (hm : n ≤ 1000000000) (hl : (Lib.join ws sep).length ≤ 1000000000) : CallH Tryd.prog 49 [.slice a n cap, .string (mkS sep)] H fun v H' => v = .string (mkS (Lib.join ws sep)) ∧ Ext H H' := by
  subst hn
  refine CallH.calls Tryd.call49 fun w hw => ?_
  by_cases h0 : ws = []
  · subst h0
    refine Calls.mono (Tryd.strings_Join_none a cap (mkS sep) w) ?_
    rintro e w' ⟨h1, rfl⟩
    exact ⟨_, h1, Same.refl _, rfl, hw ▸ Ext.refl _⟩
  · obtain ⟨b, o, ha, hb, hcell⟩ := hr.at (by rw [strs_length]; exact List.length_pos_iff.2 h0)
    subst ha
    have e : (ws.map mkS).map (·.data.toList) = ws := by rw [List.map_map]; exact List.map_id'' (fun _ => rfl) _
    have := Tryd.strings_Join b o cap (ws.map mkS) (mkS sep) w (fun j x hx => by
      rw [List.getElem?_map] at hx
      cases hj : ws[j]? with
      | none => rw [hj] at hx; cases hx
      | some y =>
        rw [hj] at hx; cases hx
        rw [cell_heap, hw]
        exact hcell j _ (by simp [strs, hj])) (by rw [hw]; exact hb) (by simp; omega) (by simpa using hc) (by rw [e]; show (Lib.join ws sep).length ≤ _; omega)
    rw [e, List.length_map] at this
    refine Calls.mono this ?_
    rintro e w' ⟨h1, h3⟩
    exact ⟨_, h1, Below.same h3, rfl, hw ▸ Below.ext h3⟩

end Go.Proofs.YtjcmcmogbkdjcaaDoor
/- Paths, the code: what a path is cleaned to. -/
namespace Go.Pth
theorem glue_join : ∀ l : List Go.Scr.Txt, Lib.join l [47] = glue l
  | [] => rfl
  | [x] => by simp [Lib.join, List.intercalate, glue]
  | x :: y :: l => by
    have ih := glue_join (y :: l)
    rw [glue_cons x (by simp), ← ih]
    simp [Lib.join, List.intercalate, List.intersperse]
end Go.Pth
namespace Go.Proofs.YtjcmcmogbkdjcaaDoor
open Go Go.Vc Go.Scr Go.Pth
theorem walk1_any (s : Bs) (hl : s.length ≤ 1000000) (hh : s.head? = some 47) (H : Heap) : CallH Tryd.prog 47 [.slice none 0 0, .string (mkS s)] H fun v H' => v = .tuple #[.slice none 0 0, .int .i64 51] ∧ Ext H H' := by
  have hpre : ∀ H, CallH Tryd.prog 12 [.string (mkS s), .string (mkS [47])] H fun v H' => v = .bool true ∧ H = H' := fun H => (pre_any s [47] (by omega) (by decide) H).mono fun v H' ⟨h1, h2⟩ => ⟨by
    rw [h1]; congr 1
    cases s with
    | nil => cases hh
    | cons c t => have : c = 47 := by simpa using hh
                  subst this; simp [List.isPrefixOf], h2⟩
  refine Vc.CallH.bodyR Tryd.func47 Tryd.call47 rfl (by decide +kernel) (by decide +kernel) rfl ?_
  ((conv => whnf); repeat (any_goals (first | ((refine (hpre _).mono ?_; rintro _ _ ⟨rfl, rfl⟩); (conv => whnf)) | (refine Vc.stp ?_; intros; (conv => whnf)) | (refine Vc.spl ?_ ?_ <;> (intro _; (conv => whnf))))))
  exact ⟨rfl, by (repeat (first | assumption | exact Vc.Ext.refl _ | ((with_reducible apply Vc.Ext.trans); (case k => assumption)) | ((with_reducible apply Vc.Ext.but); (case k => assumption); (case hb => omega))))⟩
theorem parts0_any (H : Heap) : CallH Tryd.prog 48 [.string (mkS [])] H fun v H' => v = .slice none 0 0 ∧ H = H' := by
  have e0 : ((mkS []).toList == (⟨#[]⟩ : ByteArray).toList) = true := by rw [show (⟨#[]⟩ : ByteArray) = mkS [] from rfl]; simp
  refine Vc.CallH.body Tryd.func48 Tryd.call48 rfl (by decide +kernel) rfl ?_
  ((conv => whnf); repeat (any_goals (first | (refine Vc.stp ?_; intros; (conv => whnf)) | (refine Vc.spl ?_ ?_ <;> (intro _; (conv => whnf))))))
  exact ⟨rfl, rfl⟩
theorem join0_any (s : Bs) (H : Heap) : CallH Tryd.prog 38 [.string (mkS []), .string (mkS s)] H fun v H' => v = .tuple #[.string (mkS (cleanF s).1), .int .i64 (cleanF s).2] ∧ Ext H H' := by
  have hsz : (mkS s).size = s.length := rfl
  have e0 : ((mkS []).toList == (⟨#[]⟩ : ByteArray).toList) = true := by rw [show (⟨#[]⟩ : ByteArray) = mkS [] from rfl]; simp
  have hpa := parts0_any
  by_cases h1 : 200 < s.length
  · have hc : cleanF s = ([], 50) := by unfold cleanF joinP; rw [if_pos (rfl : ([] : Bs) = []), Nat.zero_add, if_pos h1]
    rw [hc]
    refine Vc.CallH.body Tryd.func38 Tryd.call38 rfl (by decide +kernel) rfl ?_
    ((conv => whnf); repeat (any_goals (first | (refine Vc.stp ?_; intros; (conv => whnf)) | (refine Vc.spl ?_ ?_ <;> (intro _; (conv => whnf))))))
    exact ⟨rfl, Ext.refl _⟩
  by_cases h2 : s.head? = some 47
  · have hc : cleanF s = ([], 51) := by unfold cleanF joinP; rw [if_pos (rfl : ([] : Bs) = []), Nat.zero_add, if_neg h1, if_pos h2]
    rw [hc]
    have hwk := fun H => walk1_any s (by omega) h2 H
    refine Vc.CallH.body Tryd.func38 Tryd.call38 rfl (by decide +kernel) rfl ?_
    ((conv => whnf); repeat (any_goals (first | ((refine (hpa _).mono ?_; rintro _ _ ⟨rfl, rfl⟩); (conv => whnf)) | ((refine (hwk _).mono ?_; rintro _ H2 ⟨rfl, hx2⟩); (conv => whnf)) | (refine Vc.stp ?_; intros; (conv => whnf)) | (refine Vc.spl ?_ ?_ <;> (intro _; (conv => whnf))))))
    exact ⟨rfl, hx2⟩
  · obtain ⟨w, hw⟩ : ∃ w, walkF 0 [] (splitF 47 s) = w := ⟨_, rfl⟩
    have hc : cleanF s = (glue w.1, w.2) := by
      unfold cleanF joinP; rw [if_pos (rfl : ([] : Bs) = []), Nat.zero_add, if_neg h1, if_neg h2, ← hw]; rfl
    have hok := walk_ok 0 (splitF 47 s) []
    rw [hw] at hok
    have hlen := hok.len
    rw [glen_split] at hlen
    have hgl := glue_le w.1
    have e3 : glen ([] : List Bs) = 0 := rfl
    rw [hc]
    have hwk := fun H => walk0_any s (by omega) h2 H
    rw [hw] at hwk
    by_cases h3 : w.2 = 0
    · have hdp := hok.deep
      refine Vc.CallH.body Tryd.func38 Tryd.call38 rfl (by decide +kernel) rfl ?_
      ((conv => whnf); repeat (any_goals (first | ((refine (hpa _).mono ?_; rintro _ _ ⟨rfl, rfl⟩); (conv => whnf)) | ((refine (hwk _).mono ?_; rintro _ H2 ⟨(⟨_, a, cap, rfl, ho⟩ | ⟨hne, _⟩), hx2⟩; rotate_left; exact absurd h3 hne); (conv => whnf)) | ((refine (join_any (sep := [47]) ho.row rfl ho.cap_le (by omega) (by rw [glue_join]; omega)).mono ?_; rintro _ H3 ⟨rfl, hx3⟩); (conv => whnf)) | (refine Vc.stp ?_; intros; (conv => whnf)) | (refine Vc.spl ?_ ?_ <;> (intro _; (conv => whnf))))))
      exact ⟨by rw [h3, glue_join]; rfl, hx2.trans hx3⟩
    · refine Vc.CallH.body Tryd.func38 Tryd.call38 rfl (by decide +kernel) rfl ?_
      have hg : glue w.1 = [] := by rw [hok.bad h3]; rfl
      have h4 : (w.2 : Int) ≠ 0 := by omega
      ((conv => whnf); repeat (any_goals (first | ((refine (hpa _).mono ?_; rintro _ _ ⟨rfl, rfl⟩); (conv => whnf)) | ((refine (hwk _).mono ?_; rintro _ H2 ⟨(⟨h5, _⟩ | ⟨_, rfl⟩), hx2⟩; exact absurd h5 h3); (conv => whnf)) | (refine Vc.stp ?_; intros; (conv => whnf)) | (refine Vc.spl ?_ ?_ <;> (intro _; (conv => whnf))))))
      exact ⟨by rw [hg]; rfl, hx2⟩
theorem clean_any (s : Bs) (H : Heap) : CallH Tryd.prog 22 [.string (mkS s)] H fun v H' => v = .tuple #[.string (mkS (cleanF s).1), .int .i64 (cleanF s).2] ∧ Ext H H' := by
  have hj := fun H => join0_any s H
  refine Vc.CallH.body Tryd.func22 Tryd.call22 rfl (by decide +kernel) rfl ?_
  ((conv => whnf); repeat (any_goals (first | ((refine (hj _).mono ?_; rintro _ H2 ⟨rfl, hx2⟩); (conv => whnf)) | (refine Vc.stp ?_; intros; (conv => whnf)) | (refine Vc.spl ?_ ?_ <;> (intro _; (conv => whnf))))))
  exact ⟨rfl, hx2⟩
end Go.Proofs.YtjcmcmogbkdjcaaDoor
/- Trees of files, plain: a list in order of paths; what each operation makes of it. -/
namespace Go.Tre
open Go.Pth Go.Scr
open Go.Vc (mget mput mdel mget_put mget_mem mget_of_mem mget_none)
abbrev Node := Bool × Txt
abbrev Tr := List (Txt × Node)
/- the order of strings -/
theorem lt_irrefl : ∀ a : Txt, Op.bytesLess a a = false
  | [] => rfl
  | x :: a => by simp [Op.bytesLess, lt_irrefl a]
theorem lt_trans : ∀ {a b c : Txt}, Op.bytesLess a b = true → Op.bytesLess b c = true → Op.bytesLess a c = true
  | _, [], _, h, _ => by simp [Op.bytesLess] at h
  | _, _ :: _, [], _, h => by simp [Op.bytesLess] at h
  | [], _ :: _, _ :: _, _, _ => rfl
  | x :: a, y :: b, z :: c, h1, h2 => by
    simp only [Op.bytesLess, Bool.or_eq_true, decide_eq_true_eq, Bool.and_eq_true, beq_iff_eq] at h1 h2 ⊢
    rcases h1 with h1 | ⟨rfl, h1⟩
    · rcases h2 with h2 | ⟨rfl, h2⟩
      · exact .inl (UInt8.lt_trans h1 h2)
      · exact .inl h1
    · rcases h2 with h2 | ⟨rfl, h2⟩
      · exact .inl h2
      · exact .inr ⟨rfl, lt_trans h1 h2⟩
theorem lt_tri : ∀ {a b : Txt}, Op.bytesLess a b = false → a ≠ b → Op.bytesLess b a = true
  | [], [], _, h => absurd rfl h
  | [], _ :: _, h, _ => by simp [Op.bytesLess] at h
  | _ :: _, [], _, _ => rfl
  | x :: a, y :: b, h, hn => by
    simp only [Op.bytesLess, Bool.or_eq_false_iff, decide_eq_false_iff_not, Bool.and_eq_false_iff, beq_eq_false_iff_ne, Bool.or_eq_true, decide_eq_true_eq, Bool.and_eq_true, beq_iff_eq] at h ⊢
    by_cases hxy : x = y
    · subst hxy
      rcases h.2 with h2 | h2
      · exact absurd rfl h2
      · exact .inr ⟨rfl, lt_tri h2 fun e => hn (by rw [e])⟩
    · left
      have h1 := h.1
      rw [UInt8.lt_iff_toNat_lt] at h1 ⊢
      have := mt UInt8.toNat_inj.1 hxy
      omega
theorem lt_ne {a b : Txt} (h : Op.bytesLess a b = true) : a ≠ b := by rintro rfl; rw [lt_irrefl] at h; cases h
theorem lt_asymm {a b : Txt} (h : Op.bytesLess a b = true) : Op.bytesLess b a = false := by
  cases hb : Op.bytesLess b a
  · rfl
  · exact absurd rfl (lt_ne (lt_trans h hb))
/- a list in order -/
def Sorted {α : Type} (A : List (Txt × α)) : Prop := A.Pairwise fun x y => Op.bytesLess x.1 y.1 = true
def putF : Tr → Txt → Node → Tr
  | [], p, n => [(p, n)]
  | x :: l, p, n => if Op.bytesLess x.1 p = true then x :: putF l p n else if x.1 = p then (p, n) :: l else (p, n) :: x :: l
theorem Sorted.nodup {α : Type} {A : List (Txt × α)} (h : Sorted A) : (A.map (·.1)).Nodup := by
  unfold List.Nodup
  rw [List.pairwise_map]
  exact List.Pairwise.imp (fun h => lt_ne h) h
theorem mget_putF (A : Tr) (p : Txt) (n : Node) (k : Txt) : mget (putF A p n) k = if k = p then some n else mget A k := by
  induction A with
  | nil => simp [putF, mget]
  | cons x l ih =>
    simp only [putF]
    split
    · rename_i h
      simp only [mget, ih]
      by_cases hk : k = x.1
      · rw [if_pos hk, if_neg (by rw [hk]; exact lt_ne h), if_pos hk]
      · rw [if_neg hk, if_neg hk]
    · split
      · rename_i h; simp only [mget]; rw [h]
        by_cases hk : k = p <;> simp [hk]
      · simp only [mget]
theorem mem_putF {A : Tr} {p : Txt} {n : Node} {y : Txt × Node} (h : y ∈ putF A p n) : y = (p, n) ∨ y ∈ A := by
  induction A with
  | nil => simp [putF] at h; exact .inl h
  | cons x l ih =>
    simp only [putF] at h
    split at h
    · rcases List.mem_cons.1 h with h | h
      · exact .inr (by simp [h])
      · rcases ih h with h | h
        · exact .inl h
        · exact .inr (by simp [h])
    · split at h
      · rcases List.mem_cons.1 h with h | h
        · exact .inl h
        · exact .inr (by simp [h])
      · rcases List.mem_cons.1 h with h | h
        · exact .inl h
        · exact .inr h
theorem putF_sorted {A : Tr} (h : Sorted A) (p : Txt) (n : Node) : Sorted (putF A p n) := by
  induction A with
  | nil => exact List.pairwise_singleton _ _
  | cons x l ih =>
    have h' := List.pairwise_cons.1 h
    simp only [putF]
    split
    · rename_i hx
      refine List.pairwise_cons.2 ⟨fun y hy => ?_, ih h'.2⟩
      rcases mem_putF hy with rfl | hy
      · exact hx
      · exact h'.1 y hy
    · rename_i hx
      split
      · rename_i he
        exact List.pairwise_cons.2 ⟨fun y hy => by rw [← he]; exact h'.1 y hy, h'.2⟩
      · rename_i he
        have hpx := lt_tri (by simpa using hx) he
        refine List.pairwise_cons.2 ⟨fun y hy => ?_, h⟩
        rcases List.mem_cons.1 hy with rfl | hy
        · exact hpx
        · exact lt_trans hpx (h'.1 y hy)
def sizeT (A : Tr) : Nat := (A.map fun x => x.2.2.length).sum
def oldF (A : Tr) (p : Txt) : Nat := match mget A p with
  | some n => n.2.length
  | none => 0
theorem sorted_fresh {x : Txt × Node} {l : Tr} (h : Sorted (x :: l)) {p : Txt} (hp : Op.bytesLess p x.1 = true) : mget (x :: l) p = none := by
  rw [mget_none]
  intro hm
  obtain ⟨y, hy, rfl⟩ := List.mem_map.1 hm
  rcases List.mem_cons.1 hy with rfl | hy
  · exact lt_ne hp rfl
  · exact lt_ne (lt_trans hp ((List.pairwise_cons.1 h).1 y hy)) rfl
theorem putF_len {A : Tr} (h : Sorted A) (p : Txt) (n : Node) : (putF A p n).length = A.length + if mget A p = none then 1 else 0 := by
  induction A with
  | nil => simp [putF, mget]
  | cons x l ih =>
    simp only [putF]
    split
    · rename_i hx
      have hpx : ¬ p = x.1 := fun e => lt_ne hx e.symm
      have e : mget (x :: l) p = mget l p := by simp only [mget]; rw [if_neg hpx]
      rw [List.length_cons, ih (List.pairwise_cons.1 h).2, List.length_cons]
      by_cases hn : mget l p = none
      · have h2 : mget (x :: l) p = none := by rw [e]; exact hn
        simp only [if_pos hn, if_pos h2]
      · have h2 : ¬ mget (x :: l) p = none := by rw [e]; exact hn
        simp only [if_neg hn, if_neg h2]
    · rename_i hx
      split
      · rename_i he; simp [mget, he]
      · rename_i he
        rw [sorted_fresh h (lt_tri (by simpa using hx) he)]; simp
theorem putF_size {A : Tr} (h : Sorted A) (p : Txt) (n : Node) : sizeT (putF A p n) + oldF A p = sizeT A + n.2.length := by
  induction A with
  | nil => simp [putF, sizeT, oldF, mget]
  | cons x l ih =>
    have ih := ih (List.pairwise_cons.1 h).2
    have e1 : ∀ (y : Txt × Node) (m : Tr), sizeT (y :: m) = y.2.2.length + sizeT m := fun y m => by simp [sizeT]
    simp only [putF]
    split
    · rename_i hx
      have e2 : oldF (x :: l) p = oldF l p := by unfold oldF; simp only [mget]; rw [if_neg fun e => lt_ne hx e.symm]
      rw [e1, e1, e2]; omega
    · rename_i hx
      split
      · rename_i he
        have e2 : oldF (x :: l) p = x.2.2.length := by unfold oldF; simp only [mget]; rw [if_pos he.symm]
        have e3 : sizeT (x :: l) = x.2.2.length + sizeT l := e1 x l
        have e4 : sizeT ((p, n) :: l) = n.2.length + sizeT l := e1 _ _
        omega
      · rename_i he
        have e2 : oldF (x :: l) p = 0 := by unfold oldF; rw [sorted_fresh h (lt_tri (by simpa using hx) he)]
        have e3 : sizeT (x :: l) = x.2.2.length + sizeT l := e1 x l
        have e4 : sizeT ((p, n) :: x :: l) = n.2.length + sizeT (x :: l) := e1 _ _
        omega
/- lists of the same entries -/
theorem perm_ext {α : Type} {l m : List (Txt × α)} (hl : (l.map (·.1)).Nodup) (hm : (m.map (·.1)).Nodup) (h : ∀ k, mget l k = mget m k) : l.Perm m := by
  have nd : ∀ {l : List (Txt × α)}, (l.map (·.1)).Nodup → l.Nodup := fun h => List.Pairwise.imp (fun hne e => hne (by rw [e])) (List.pairwise_map.1 h)
  rw [List.perm_ext_iff_of_nodup (nd hl) (nd hm)]
  intro ⟨k, v⟩
  constructor
  · intro hx; exact mget_mem (by rw [← h]; exact mget_of_mem hl hx)
  · intro hx; exact mget_mem (by rw [h]; exact mget_of_mem hm hx)
theorem sorted_perm {α : Type} : ∀ {A B : List (Txt × α)}, Sorted A → Sorted B → A.Perm B → A = B
  | [], B, _, _, h => h.nil_eq
  | x :: A, [], _, _, h => by simpa using h.length_eq
  | x :: A, y :: B, hA, hB, h => by
    have hA' := List.pairwise_cons.1 hA
    have hB' := List.pairwise_cons.1 hB
    have hx : x ∈ y :: B := h.subset (by simp)
    have hy : y ∈ x :: A := h.symm.subset (by simp)
    have e : x = y := by
      rcases List.mem_cons.1 hx with e | hx
      · exact e
      · rcases List.mem_cons.1 hy with e | hy
        · exact e.symm
        · exact absurd rfl (lt_ne (lt_trans (hB'.1 x hx) (hA'.1 y hy)))
    subst e
    rw [sorted_perm hA'.2 hB'.2 (h.cons_inv)]
theorem sorted_ext {α : Type} {A B : List (Txt × α)} (hA : Sorted A) (hB : Sorted B) (h : ∀ k, mget A k = mget B k) : A = B := sorted_perm hA hB (perm_ext hA.nodup hB.nodup h)
theorem keys_len {α β : Type} {l : List (Txt × α)} {m : List (Txt × β)} (hl : (l.map (·.1)).Nodup) (hm : (m.map (·.1)).Nodup) (h : ∀ k, mget l k = none ↔ mget m k = none) : l.length = m.length := by
  have hp : (l.map (·.1)).Perm (m.map (·.1)) := (List.perm_ext_iff_of_nodup hl hm).2 fun k => by
    have := h k
    rw [mget_none, mget_none] at this
    exact ⟨fun a => Classical.byContradiction fun hc => this.2 hc a, fun a => Classical.byContradiction fun hc => this.1 hc a⟩
  simpa using hp.length_eq
/- what the operations make -/
def dirF (A : Tr) (p : Txt) : Bool := p == [] || match mget A p with
  | some n => n.1
  | none => false
def fileF (A : Tr) (p : Txt) : Bool := (pars p).any fun d => match mget A d with
  | some n => !n.1
  | none => false
def lackF (A : Tr) (p : Txt) : List Txt := (pars p).filter fun d => (mget A d).isNone
def makeF (A : Tr) (l : List Txt) : Tr := l.foldl (fun A d => putF A d (true, [])) A
def moreF (A : Tr) (p : Txt) : Nat := if (mget A p).isSome = true then 0 else (lackF A p).length + 1
def writeP (A : Tr) (p b : Txt) : Tr × Nat :=
  if dirF A p = true ∨ fileF A p = true then (A, 54)
  else if 65536 < b.length ∨ 1048576 < sizeT A - oldF A p + b.length ∨ 500 < A.length + moreF A p then (A, 55)
  else (putF (makeF A (lackF A p)) p (false, b), 0)
def bytesF (A : Tr) (p : Txt) : Txt := match mget A p with
  | some n => n.2
  | none => []
def writeF (A : Tr) (s b : Txt) : Tr × Nat := if (cleanF s).2 = 0 then writeP A (cleanF s).1 b else (A, (cleanF s).2)
def appendF (A : Tr) (s b : Txt) : Tr × Nat := if (cleanF s).2 = 0 then writeP A (cleanF s).1 (bytesF A (cleanF s).1 ++ b) else (A, (cleanF s).2)
def readF (A : Tr) (s : Txt) : Txt × Nat :=
  if (cleanF s).2 = 0 then
    if dirF A (cleanF s).1 = true ∨ fileF A (cleanF s).1 = true then ([], 54)
    else match mget A (cleanF s).1 with
      | some n => (n.2, 0)
      | none => ([], 52)
  else ([], (cleanF s).2)
def mkdirP (A : Tr) (p : Txt) : Tr × Nat :=
  if dirF A p = true then (A, 0)
  else if (mget A p).isSome = true ∨ fileF A p = true then (A, 54)
  else if 500 < A.length + ((lackF A p).length + 1) then (A, 55)
  else (makeF A (lackF A p ++ [p]), 0)
def mkdirF (A : Tr) (s : Txt) : Tr × Nat := if (cleanF s).2 = 0 then mkdirP A (cleanF s).1 else (A, (cleanF s).2)
def removeF (A : Tr) (s : Txt) : Tr × Nat :=
  if (cleanF s).2 = 0 then
    if (cleanF s).1 = [] then (A, 54)
    else if mget A (cleanF s).1 = none then (A, 52)
    else (A.filter fun x => !withinF x.1 (cleanF s).1, 0)
  else (A, (cleanF s).2)
def existsF (A : Tr) (s : Txt) : Bool := (cleanF s).2 == 0 && ((cleanF s).1 == [] || (mget A (cleanF s).1).isSome)
/- the invariant -/
structure Okay (A : Tr) : Prop where
  sorted : Sorted A
  clean : ∀ k n, mget A k = some n → CleanP k ∧ k ≠ []
  above : ∀ k n, mget A k = some n → ∀ d ∈ pars k, ∃ t, mget A d = some (true, t)
  size : sizeT A ≤ 1048576
  count : A.length ≤ 500
  file : ∀ k n, mget A k = some n → n.2.length ≤ 65536 ∧ (n.1 = true → n.2 = [])
theorem mget_makeF (k : Txt) : ∀ (l : List Txt) (A : Tr), mget (makeF A l) k = if k ∈ l then some (true, []) else mget A k
  | [], A => rfl
  | d :: l, A => by
    show mget (makeF (putF A d (true, [])) l) k = _
    rw [mget_makeF k l, mget_putF]
    by_cases h1 : k ∈ l
    · simp [h1]
    · by_cases h2 : k = d <;> simp [h1, h2]
theorem makeF_sorted : ∀ (l : List Txt) {A : Tr}, Sorted A → Sorted (makeF A l)
  | [], _, h => h
  | d :: l, _, h => makeF_sorted l (putF_sorted h d _)
theorem makeF_same {A : Tr} (h : Sorted A) {l m : List Txt} (hm : ∀ x, x ∈ l ↔ x ∈ m) : makeF A l = makeF A m :=
  sorted_ext (makeF_sorted l h) (makeF_sorted m h) fun k => by rw [mget_makeF, mget_makeF]; simp only [hm]
theorem makeF_size {A : Tr} (h : Sorted A) : ∀ {l : List Txt}, (∀ d ∈ l, mget A d = none) → sizeT (makeF A l) = sizeT A := by
  suffices hh : ∀ (l : List Txt) (A : Tr), Sorted A → (∀ d ∈ l, oldF A d = 0) → sizeT (makeF A l) = sizeT A from
    fun {l} hl => hh l A h fun d hd => by unfold oldF; rw [hl d hd]
  intro l
  induction l with
  | nil => intro A _ _; rfl
  | cons d l ih =>
    intro A h hl
    show sizeT (makeF (putF A d (true, [])) l) = _
    have h1 := putF_size h d (true, [])
    rw [hl d (by simp)] at h1
    rw [ih _ (putF_sorted h d _) fun k hk => ?_]
    · simpa using h1
    · unfold oldF; rw [mget_putF]
      by_cases e : k = d
      · simp [e]
      · rw [if_neg e]; exact hl k (by simp [hk])
theorem makeF_len {A : Tr} (h : Sorted A) : ∀ {l : List Txt}, l.Nodup → (∀ d ∈ l, mget A d = none) → (makeF A l).length = A.length + l.length := by
  intro l
  induction l generalizing A with
  | nil => intro _ _; rfl
  | cons d l ih =>
    intro hn hl
    rw [List.nodup_cons] at hn
    show (makeF (putF A d (true, [])) l).length = _
    rw [ih (putF_sorted h d _) hn.2 fun k hk => ?_, putF_len h, if_pos (hl d (by simp)), List.length_cons]
    · omega
    · rw [mget_putF, if_neg (fun e => hn.1 (by rw [← e]; exact hk))]; exact hl k (by simp [hk])
end Go.Tre
/- Trees of files, plain: what an operation makes of a tree is a tree. -/
namespace Go.Tre
open Go.Pth Go.Scr
open Go.Vc (mget mput mdel mget_put mget_mem mget_of_mem mget_none)
theorem mem_pars {l : List Txt} (h : ∀ x ∈ l, GoodP x) {d : Txt} : d ∈ pars (glue l) ↔ ∃ k, k <+: l ∧ k ≠ [] ∧ k.length < l.length ∧ d = glue k := by
  unfold pars
  rw [parts_glue h, List.mem_map]
  constructor
  · rintro ⟨i, hi, rfl⟩
    rw [List.mem_range] at hi
    refine ⟨l.take (i + 1), List.take_prefix _ _, ?_, ?_, rfl⟩
    · exact List.length_pos_iff.1 (by rw [List.length_take]; omega)
    · rw [List.length_take]; omega
  · rintro ⟨k, hk, hn, hl, rfl⟩
    have hpos := List.length_pos_iff.2 hn
    refine ⟨k.length - 1, List.mem_range.2 (by omega), ?_⟩
    rw [show k.length - 1 + 1 = k.length by omega, ← List.prefix_iff_eq_take.1 hk]
theorem good_pre {l k : List Txt} (h : CleanL l) (hk : k <+: l) : CleanL k := by
  rw [List.prefix_iff_eq_take.1 hk]; exact h.take _
structure Par (p d : Txt) : Prop where
  clean : CleanP d
  ne : d ≠ []
  np : d ≠ p
  sub : ∀ e ∈ pars d, e ∈ pars p
  len : d.length < p.length
theorem glue_lt {k l : List Txt} (h : ∀ x ∈ l, GoodP x) (hk : k <+: l) (hn : k ≠ []) (hl : k.length < l.length) : (glue k).length < (glue l).length := by
  obtain ⟨r, rfl⟩ := hk
  have hr : r ≠ [] := by rintro rfl; simp at hl
  rw [glue_app hn hr]; simp
theorem clean_par {p d : Txt} (h : CleanP p) (hd : d ∈ pars p) : Par p d := by
  obtain ⟨l, rfl, hl⟩ := h
  obtain ⟨k, hk, hn, hlt, rfl⟩ := (mem_pars hl.good).1 hd
  have hc := good_pre hl hk
  refine ⟨⟨k, rfl, hc⟩, glue_nil hc.good hn, fun e => ?_, fun e he => ?_, glue_lt hl.good hk hn hlt⟩
  · have := glue_inj hc.good hl.good e; rw [this] at hlt; omega
  · obtain ⟨j, hj, hjn, hjl, rfl⟩ := (mem_pars hc.good).1 he
    exact (mem_pars hl.good).2 ⟨j, hj.trans hk, hjn, by omega, rfl⟩
theorem pars_nodup {p : Txt} (h : CleanP p) : (pars p).Nodup := by
  obtain ⟨l, rfl, hl⟩ := h
  unfold pars
  rw [parts_glue hl.good]
  unfold List.Nodup
  rw [List.pairwise_map]
  refine List.Pairwise.imp_of_mem ?_ (List.nodup_range (n := l.length - 1))
  intro a b ha hb hne e
  rw [List.mem_range] at ha hb
  have := congrArg List.length (glue_inj (hl.take _).good (hl.take _).good e)
  rw [List.length_take, List.length_take] at this
  omega
theorem lack_none {A : Tr} {p d : Txt} (h : d ∈ lackF A p) : d ∈ pars p ∧ mget A d = none := by
  unfold lackF at h; rw [List.mem_filter] at h; exact ⟨h.1, by simpa using h.2⟩
theorem dir_above {A : Tr} {p d : Txt} (hf : fileF A p = false) (hd : d ∈ pars p) : mget A d = none ∨ ∃ t, mget A d = some (true, t) := by
  unfold fileF at hf
  rw [List.any_eq_false] at hf
  have := hf d hd
  cases hg : mget A d with
  | none => exact .inl rfl
  | some n => rw [hg] at this; obtain ⟨x, t⟩ := n; right; cases x; exact absurd rfl this; exact ⟨t, rfl⟩
theorem lack_nil {A : Tr} (hA : Okay A) {p : Txt} {n : Node} (h : mget A p = some n) : lackF A p = [] ∧ fileF A p = false := by
  have hab := hA.above p n h
  constructor
  · unfold lackF; rw [List.filter_eq_nil_iff]; intro d hd; obtain ⟨t, ht⟩ := hab d hd; simp [ht]
  · unfold fileF; rw [List.any_eq_false]; intro d hd; obtain ⟨t, ht⟩ := hab d hd; simp [ht]
theorem Okay.nil : Okay [] := ⟨List.Pairwise.nil, fun k n h => by simp [mget] at h, fun k n h => by simp [mget] at h, by simp [sizeT], by simp, fun k n h => by simp [mget] at h⟩
/-- directories are made that lacked -/
theorem Okay.made {A : Tr} (hA : Okay A) {l : List Txt} (hl : ∀ d ∈ l, mget A d = none ∧ CleanP d ∧ d ≠ [] ∧ ∀ e ∈ pars d, e ∈ l ∨ ∃ t, mget A e = some (true, t)) (hn : l.Nodup) (hc : A.length + l.length ≤ 500) : Okay (makeF A l) := by
  refine ⟨makeF_sorted l hA.sorted, fun k n h => ?_, fun k n h d hd => ?_, by rw [makeF_size hA.sorted fun d hd => (hl d hd).1]; exact hA.size, by rw [makeF_len hA.sorted hn fun d hd => (hl d hd).1]; exact hc, fun k n h => ?_⟩
  · rw [mget_makeF] at h
    split at h
    · rename_i hk; exact ⟨(hl k hk).2.1, (hl k hk).2.2.1⟩
    · exact hA.clean k n h
  · rw [mget_makeF] at h
    rw [mget_makeF]
    split
    · exact ⟨_, rfl⟩
    · rename_i hdl
      split at h
      · rename_i hk
        rcases (hl k hk).2.2.2 d hd with h1 | h1
        · exact absurd h1 hdl
        · exact h1
      · exact hA.above k n h d hd
  · rw [mget_makeF] at h
    split at h
    · cases h; exact ⟨by simp, fun _ => rfl⟩
    · exact hA.file k n h
theorem lack_made {A : Tr} (hA : Okay A) {p : Txt} (hp : CleanP p) (hf : fileF A p = false) : ∀ d ∈ lackF A p, mget A d = none ∧ CleanP d ∧ d ≠ [] ∧ ∀ e ∈ pars d, e ∈ lackF A p ∨ ∃ t, mget A e = some (true, t) := by
  intro d hd
  obtain ⟨h1, h2⟩ := lack_none hd
  have hpar := clean_par hp h1
  refine ⟨h2, hpar.clean, hpar.ne, fun e he => ?_⟩
  have he' := hpar.sub e he
  rcases dir_above hf he' with h | h
  · left; unfold lackF; rw [List.mem_filter]; exact ⟨he', by simp [h]⟩
  · exact .inr h
theorem lack_nodup {A : Tr} {p : Txt} (hp : CleanP p) : (lackF A p).Nodup := (pars_nodup hp).sublist (List.filter_sublist)
/-- one file is put in its place -/
theorem Okay.put {A : Tr} (hA : Okay A) {p b : Txt} (hp : CleanP p) (hn : p ≠ []) (hd : dirF A p = false) (ha : ∀ d ∈ pars p, ∃ t, mget A d = some (true, t)) (hb : b.length ≤ 65536) (hs : sizeT A - oldF A p + b.length ≤ 1048576) (hc : A.length + (if mget A p = none then 1 else 0) ≤ 500) : Okay (putF A p (false, b)) := by
  have hps : sizeT (putF A p (false, b)) + oldF A p = sizeT A + b.length := putF_size hA.sorted p (false, b)
  refine ⟨putF_sorted hA.sorted p _, fun k n h => ?_, fun k n h d hdp => ?_, by omega, by rw [putF_len hA.sorted]; exact hc, fun k n h => ?_⟩
  · rw [mget_putF] at h
    split at h
    · rename_i e; subst e; exact ⟨hp, hn⟩
    · exact hA.clean k n h
  · rw [mget_putF] at h ⊢
    have key : ∃ t, mget A d = some (true, t) := by
      split at h
      · rename_i e; subst e; exact ha d hdp
      · exact hA.above k n h d hdp
    split
    · rename_i e; subst e
      obtain ⟨t, ht⟩ := key
      unfold dirF at hd; rw [ht] at hd; simp at hd
    · exact key
  · rw [mget_putF] at h
    split at h
    · cases h; exact ⟨hb, fun h => by cases h⟩
    · exact hA.file k n h
theorem old_makeF {A : Tr} (h : Sorted A) {l : List Txt} {p : Txt} (hp : p ∉ l) : oldF (makeF A l) p = oldF A p := by unfold oldF; rw [mget_makeF, if_neg hp]
theorem lack_np {A : Tr} {p : Txt} (hp : CleanP p) : p ∉ lackF A p := fun h => (clean_par hp (lack_none h).1).np rfl
theorem Okay.write {A : Tr} (hA : Okay A) {p b : Txt} (hp : CleanP p) : Okay (writeP A p b).1 := by
  unfold writeP
  split
  · exact hA
  · rename_i h1
    split
    · exact hA
    · rename_i h2
      rw [not_or] at h1
      rw [not_or, not_or] at h2
      have hd : dirF A p = false := by simpa using h1.1
      have hf : fileF A p = false := by simpa using h1.2
      have hn : p ≠ [] := by rintro rfl; simp [dirF] at hd
      have hm : moreF A p = (lackF A p).length + (if mget A p = none then 1 else 0) := by
        unfold moreF
        cases hg : mget A p with
        | none => simp
        | some n => simp [(lack_nil hA hg).1]
      have hB := hA.made (lack_made hA hp hf) (lack_nodup hp) (by omega)
      have hlen := makeF_len hA.sorted (lack_nodup (A := A) hp) fun d hd => (lack_none hd).2
      have hsz := makeF_size hA.sorted (l := lackF A p) fun d hd => (lack_none hd).2
      have hnp := lack_np (A := A) hp
      have hgp : mget (makeF A (lackF A p)) p = mget A p := by rw [mget_makeF, if_neg hnp]
      refine hB.put hp hn ?_ (fun d hd => ?_) (by omega) (by rw [hsz, old_makeF hA.sorted hnp]; omega) (by rw [hgp, hlen]; omega)
      · unfold dirF at hd ⊢; rw [hgp]; exact hd
      · rw [mget_makeF]
        split
        · exact ⟨_, rfl⟩
        · rename_i hnl
          rcases dir_above hf hd with h | h
          · exact absurd (by unfold lackF; rw [List.mem_filter]; exact ⟨hd, by simp [h]⟩) hnl
          · exact h
theorem clean_of {s : Txt} (h : (cleanF s).2 = 0) : CleanP (cleanF s).1 := (clean_ok (p := (cleanF s).1) (Prod.ext rfl h)).1
theorem Okay.writeF {A : Tr} (hA : Okay A) (s b : Txt) : Okay (writeF A s b).1 := by
  unfold Tre.writeF
  split
  · rename_i h; exact hA.write (clean_of h)
  · exact hA
theorem Okay.appendF {A : Tr} (hA : Okay A) (s b : Txt) : Okay (appendF A s b).1 := by
  unfold Tre.appendF
  split
  · rename_i h; exact hA.write (clean_of h)
  · exact hA
theorem Okay.mkdir {A : Tr} (hA : Okay A) {p : Txt} (hp : CleanP p) : Okay (mkdirP A p).1 := by
  unfold mkdirP
  split
  · exact hA
  · rename_i h1
    split
    · exact hA
    · rename_i h2
      split
      · exact hA
      · rename_i h3
        rw [not_or] at h2
        have hf : fileF A p = false := by simpa using h2.2
        have hg : mget A p = none := by simpa using h2.1
        have hn : p ≠ [] := by rintro rfl; simp [dirF] at h1
        refine hA.made (fun d hd => ?_) ?_ (by rw [List.length_append]; simpa using h3)
        · have hall : ∀ e ∈ pars p, e ∈ lackF A p ++ [p] ∨ ∃ t, mget A e = some (true, t) := fun e he => by
            rcases dir_above hf he with h | h
            · left; rw [List.mem_append]; left; unfold lackF; rw [List.mem_filter]; exact ⟨he, by simp [h]⟩
            · exact .inr h
          rcases List.mem_append.1 hd with hd | hd
          · obtain ⟨k1, k2, k3, k4⟩ := lack_made hA hp hf d hd
            exact ⟨k1, k2, k3, fun e he => (k4 e he).elim (fun h => .inl (List.mem_append.2 (.inl h))) .inr⟩
          · rw [List.mem_singleton] at hd; subst hd
            exact ⟨hg, hp, hn, hall⟩
        · rw [List.nodup_append]
          exact ⟨lack_nodup hp, by simp, fun a ha b hb e => by rw [List.mem_singleton] at hb; subst hb; subst e; exact lack_np hp ha⟩
theorem Okay.mkdirF {A : Tr} (hA : Okay A) (s : Txt) : Okay (mkdirF A s).1 := by
  unfold Tre.mkdirF
  split
  · rename_i h; exact hA.mkdir (clean_of h)
  · exact hA
theorem mget_filter {A : Tr} (f : Txt → Bool) (k : Txt) : mget (A.filter fun x => f x.1) k = if f k = true then mget A k else none := by
  induction A with
  | nil => simp [mget]
  | cons x l ih =>
    rw [List.filter_cons]
    by_cases hx : f x.1 = true
    · rw [if_pos hx]
      simp only [mget, ih]
      by_cases hk : k = x.1
      · rw [if_pos hk, if_pos (by rw [hk]; exact hx), if_pos hk]
      · rw [if_neg hk, if_neg hk]
    · rw [if_neg hx, ih]
      simp only [mget]
      by_cases hk : k = x.1
      · rw [if_neg (by rw [hk]; exact hx), if_neg (by rw [hk]; exact hx)]
      · simp only [if_neg hk]
theorem filter_size (A : Tr) (f : Txt × Node → Bool) : sizeT (A.filter f) ≤ sizeT A := by
  induction A with
  | nil => exact Nat.le_refl _
  | cons x l ih =>
    have e1 : ∀ (y : Txt × Node) (m : Tr), sizeT (y :: m) = y.2.2.length + sizeT m := fun y m => by simp [sizeT]
    rw [List.filter_cons]
    split
    · rw [e1, e1]; omega
    · rw [e1]; omega
theorem Okay.removed {A : Tr} (hA : Okay A) {p : Txt} (hp : CleanP p) : Okay (A.filter fun x => !withinF x.1 p) := by
  have hg : ∀ k, mget (A.filter fun x => !withinF x.1 p) k = if (!withinF k p) = true then mget A k else none := mget_filter fun x => !withinF x p
  refine ⟨hA.sorted.sublist List.filter_sublist, fun k n h => ?_, fun k n h d hd => ?_, Nat.le_trans (filter_size _ _) hA.size, Nat.le_trans (List.length_filter_le _ _) hA.count, fun k n h => ?_⟩
  · rw [hg] at h; split at h
    · exact hA.clean k n h
    · cases h
  · rw [hg] at h ⊢
    split at h
    · rename_i hk
      obtain ⟨t, ht⟩ := hA.above k n h d hd
      rw [if_pos ?_]
      · exact ⟨t, ht⟩
      · obtain ⟨⟨l, rfl, hl⟩, hkn⟩ := hA.clean k n h
        obtain ⟨m, rfl, hm⟩ := hp
        obtain ⟨j, hj, _, _, rfl⟩ := (mem_pars hl.good).1 hd
        have hjc := good_pre hl hj
        cases hw : withinF (glue j) (glue m) with
        | false => rfl
        | true =>
          have := (Pth.within_iff hjc.good hm.good).1 hw
          have hk2 : withinF (glue l) (glue m) = true := (Pth.within_iff hl.good hm.good).2 (this.trans hj)
          rw [hk2] at hk; cases hk
    · cases h
  · rw [hg] at h; split at h
    · exact hA.file k n h
    · cases h
theorem Okay.removeF {A : Tr} (hA : Okay A) (s : Txt) : Okay (removeF A s).1 := by
  unfold Tre.removeF
  split
  · rename_i h
    split
    · exact hA
    · split
      · exact hA
      · exact hA.removed (clean_of h)
  · exact hA
end Go.Tre
/- Trees of files, plain: one path told under another. -/
namespace Go.Tre
open Go.Pth Go.Scr
open Go.Vc (mget mput mdel mget_put mget_mem mget_of_mem mget_none)
def movedF (A : Tr) (p q : Txt) : Tr := (A.filter fun x => withinF x.1 p).map fun x => (q ++ x.1.drop p.length, x.2)
def badM (l : Tr) : Bool := l.any fun x => (cleanF x.1).2 != 0
def putsF (A : Tr) (l : Tr) : Tr := l.foldl (fun A x => putF A x.1 x.2) A
def restF (A : Tr) (p : Txt) (stays : Bool) : Tr := if stays = true then A else A.filter fun x => !withinF x.1 p
def twoP (A : Tr) (p q : Txt) (stays : Bool) : Tr × Nat :=
  if p ≠ [] ∧ mget A p = none then (A, 52)
  else if p = [] ∨ withinF q p = true then (A, 54)
  else if q = [] ∨ (mget A q).isSome = true then (A, 53)
  else if fileF A q = true then (A, 54)
  else if badM (movedF A p q) = true then (A, 50)
  else if 500 < A.length + ((lackF A q).length + if stays = true then (movedF A p q).length else 0) ∨ 1048576 < sizeT A + (if stays = true then sizeT (movedF A p q) else 0) then (A, 55)
  else (putsF (makeF (restF A p stays) (lackF A q)) (movedF A p q), 0)
def twoF (A : Tr) (s t : Txt) (stays : Bool) : Tr × Nat :=
  if (cleanF s).2 = 0 then (if (cleanF t).2 = 0 then twoP A (cleanF s).1 (cleanF t).1 stays else (A, (cleanF t).2)) else (A, (cleanF s).2)
theorem mget_putsF (k : Txt) : ∀ (l A : Tr), (l.map (·.1)).Nodup → mget (putsF A l) k = match mget l k with
    | some n => some n
    | none => mget A k
  | [], A, _ => rfl
  | x :: l, A, h => by
    rw [List.map_cons, List.nodup_cons] at h
    show mget (putsF (putF A x.1 x.2) l) k = _
    rw [mget_putsF k l _ h.2, mget_putF]
    simp only [mget]
    by_cases hk : k = x.1
    · have hn : mget l k = none := by rw [mget_none, hk]; exact h.1
      rw [hn, if_pos hk, if_pos hk]
    · rw [if_neg hk, if_neg hk]
theorem putsF_sorted : ∀ (l : Tr) {A : Tr}, Sorted A → Sorted (putsF A l)
  | [], _, h => h
  | x :: l, _, h => putsF_sorted l (putF_sorted h _ _)
theorem putsF_cnt : ∀ (l : Tr) {A : Tr}, Sorted A → (l.map (·.1)).Nodup → (∀ x ∈ l, mget A x.1 = none) → (putsF A l).length = A.length + l.length ∧ sizeT (putsF A l) = sizeT A + sizeT l
  | [], _, _, _, _ => ⟨rfl, rfl⟩
  | x :: l, A, h, hn, hl => by
    rw [List.map_cons, List.nodup_cons] at hn
    have hx := hl x (by simp)
    have e1 : ∀ (y : Txt × Node) (m : Tr), sizeT (y :: m) = y.2.2.length + sizeT m := fun y m => by simp [sizeT]
    have h1 := putF_len h x.1 x.2
    have h2 := putF_size h x.1 x.2
    rw [if_pos hx] at h1
    have h3 : oldF A x.1 = 0 := by unfold oldF; rw [hx]
    obtain ⟨g1, g2⟩ := putsF_cnt l (putF_sorted h x.1 x.2) hn.2 fun y hy => by
      rw [mget_putF, if_neg fun e => hn.1 (by rw [← e]; exact List.mem_map_of_mem hy)]; exact hl y (by simp [hy])
    show (putsF (putF A x.1 x.2) l).length = _ ∧ sizeT (putsF (putF A x.1 x.2) l) = _
    rw [g1, g2, h1, e1, List.length_cons]
    omega
/-- what is below a path, and where it goes -/
structure Goes (A : Tr) (p q : Txt) : Prop where
  nodup : ((movedF A p q).map (·.1)).Nodup
  keys : ∀ x ∈ movedF A p q, ∃ k m r, p = glue k ∧ q = glue m ∧ CleanL (k ++ r) ∧ (∀ y ∈ m ++ r, GoodP y) ∧ x.1 = glue (m ++ r) ∧ mget A (glue (k ++ r)) = some x.2
theorem goes {A : Tr} (hA : Okay A) {p q : Txt} (hp : CleanP p) (hq : CleanP q) (hpn : p ≠ []) (hqn : q ≠ []) : Goes A p q := by
  obtain ⟨k, rfl, hk⟩ := hp
  obtain ⟨m, rfl, hm⟩ := hq
  have hkn : k ≠ [] := by rintro rfl; exact hpn rfl
  have hmn : m ≠ [] := by rintro rfl; exact hqn rfl
  have key : ∀ y ∈ A, withinF y.1 (glue k) = true → ∃ r, y.1 = glue (k ++ r) ∧ CleanL (k ++ r) := by
    intro y hy hw
    obtain ⟨⟨l, e, hl⟩, _⟩ := hA.clean y.1 y.2 (mget_of_mem hA.sorted.nodup hy)
    rw [e] at hw
    obtain ⟨r, rfl⟩ := (Pth.within_iff hl.good hk.good).1 hw
    exact ⟨r, e, hl⟩
  have gm : ∀ {r : List Txt}, CleanL (k ++ r) → ∀ y ∈ m ++ r, GoodP y := fun {r} h y hy => (List.mem_append.1 hy).elim (hm.good y) fun hy => h.good y (by simp [hy])
  refine ⟨?_, fun x hx => ?_⟩
  · unfold movedF
    rw [List.map_map]
    unfold List.Nodup
    rw [List.pairwise_map]
    refine List.Pairwise.imp_of_mem ?_ (List.Pairwise.filter (fun x : Txt × Node => withinF x.1 (glue k)) (List.pairwise_map.1 hA.sorted.nodup))
    intro a b ha hb hne e
    rw [List.mem_filter] at ha hb
    obtain ⟨r, ea, hra⟩ := key a ha.1 ha.2
    obtain ⟨s, eb, hrb⟩ := key b hb.1 hb.2
    have e' : glue m ++ a.1.drop (glue k).length = glue m ++ b.1.drop (glue k).length := e
    rw [ea, eb, glue_move hkn hmn, glue_move hkn hmn] at e'
    have := List.append_cancel_left (glue_inj (gm hra) (gm hrb) e')
    exact hne (by rw [ea, eb, this])
  · unfold movedF at hx
    obtain ⟨y, hy, rfl⟩ := List.mem_map.1 hx
    rw [List.mem_filter] at hy
    obtain ⟨r, ea, hra⟩ := key y hy.1 hy.2
    refine ⟨k, m, r, rfl, rfl, hra, gm hra, ?_, ?_⟩
    · show glue m ++ y.1.drop (glue k).length = _
      rw [ea, glue_move hkn hmn]
    · rw [← ea]; exact mget_of_mem hA.sorted.nodup hy.1
/-- nothing stands below a path that is not there -/
theorem below_none {A : Tr} (hA : Okay A) {m r : List Txt} (hg : ∀ y ∈ m ++ r, GoodP y) (hmn : m ≠ []) (h : mget A (glue m) = none) : mget A (glue (m ++ r)) = none := by
  by_cases hr : r = []
  · subst hr; rw [List.append_nil]; exact h
  · cases hx : mget A (glue (m ++ r)) with
    | none => rfl
    | some n =>
      have hd : glue m ∈ pars (glue (m ++ r)) := (mem_pars hg).2 ⟨m, List.prefix_append _ _, hmn, by rw [List.length_append]; have := List.length_pos_iff.2 hr; omega, rfl⟩
      obtain ⟨t, ht⟩ := hA.above _ n hx _ hd
      rw [h] at ht; cases ht
/-- neither what lacks nor what is moved stands below what it is moved from -/
structure Apart (A : Tr) (p q : Txt) : Prop where
  lack : ∀ d ∈ lackF A q, withinF d p = false
  moved : ∀ x ∈ movedF A p q, withinF x.1 p = false
  fresh : ∀ x ∈ movedF A p q, mget A x.1 = none
  nlack : ∀ x ∈ movedF A p q, x.1 ∉ lackF A q
theorem apart {A : Tr} (hA : Okay A) {p q : Txt} (hp : CleanP p) (hq : CleanP q) (hpn : p ≠ []) (hqn : q ≠ []) (hpe : mget A p ≠ none) (hqe : mget A q = none) (hw : withinF q p = false) : Apart A p q := by
  have hG := goes hA hp hq hpn hqn
  obtain ⟨k, rfl, hk⟩ := hp
  obtain ⟨m, rfl, hm⟩ := hq
  have hkn : k ≠ [] := by rintro rfl; exact hpn rfl
  have hmn : m ≠ [] := by rintro rfl; exact hqn rfl
  have hnp : ¬ k <+: m := fun h => by rw [(Pth.within_iff hm.good hk.good).2 h] at hw; cases hw
  refine ⟨fun d hd => ?_, fun x hx => ?_, fun x hx => ?_, fun x hx hl => ?_⟩
  · obtain ⟨h1, _⟩ := lack_none hd
    obtain ⟨j, hj, _, _, rfl⟩ := (mem_pars hm.good).1 h1
    cases hwd : withinF (glue j) (glue k) with
    | false => rfl
    | true => exact absurd (((Pth.within_iff (good_pre hm hj).good hk.good).1 hwd).trans hj) hnp
  · obtain ⟨k', m', r, ek, em, hkr, hmr, e, _⟩ := hG.keys x hx
    have hgk' : ∀ y ∈ k', GoodP y := fun y hy => hkr.good y (by simp [hy])
    have hgm' : ∀ y ∈ m', GoodP y := fun y hy => hmr y (by simp [hy])
    have := glue_inj hk.good hgk' ek; subst this
    have := glue_inj hm.good hgm' em; subst this
    cases hwd : withinF x.1 (glue k) with
    | false => rfl
    | true =>
      rw [e] at hwd
      have h1 := (Pth.within_iff hmr hk.good).1 hwd
      rcases List.prefix_or_prefix_of_prefix h1 (List.prefix_append m r) with h2 | h2
      · exact absurd h2 hnp
      · obtain ⟨s, rfl⟩ := h2
        exact absurd (below_none hA hk.good hmn hqe) hpe
  · obtain ⟨k', m', r, ek, em, hkr, hmr, e, _⟩ := hG.keys x hx
    have hgm' : ∀ y ∈ m', GoodP y := fun y hy => hmr y (by simp [hy])
    have := glue_inj hm.good hgm' em; subst this
    rw [e]; exact below_none hA hmr hmn hqe
  · obtain ⟨k', m', r, ek, em, hkr, hmr, e, _⟩ := hG.keys x hx
    have hgm' : ∀ y ∈ m', GoodP y := fun y hy => hmr y (by simp [hy])
    have := glue_inj hm.good hgm' em; subst this
    obtain ⟨j, hj, _, hjl, e2⟩ := (mem_pars hm.good).1 (lack_none hl).1
    rw [e] at e2
    have := glue_inj hmr (good_pre hm hj).good e2
    have := congrArg List.length this
    rw [List.length_append] at this; omega
end Go.Tre
/- Trees of files, the code: what a tree is in a heap. -/
namespace Go.Vc
variable {P : Program} {H H' : Heap}
def dumbV : Value → Bool
  | .int .u8 _ => false
  | .string _ => false
  | _ => true
/-- a block of neither bytes nor texts -/
structure Dumb (H : Heap) (b : Nat) : Prop where
  out : ∀ o v, hcell H ⟨b, o, none⟩ = some v → dumbV v = true
theorem Dumb.map {b : Nat} {l : List (Bs × Value)} (h : MapO H b l) : Dumb H b := ⟨fun o v hv => by
  obtain ⟨_, _, h1, _⟩ := h.out
  unfold hcell at hv; rw [h1] at hv; cases hv⟩
theorem Dumb.iter {r b : Nat} {l : List (Bs × Value)} {vis : List Bs} (h : IterO H r b l vis) : Dumb H r := ⟨fun o v hv => by
  obtain ⟨_, _, _, _, _, h1, _⟩ := h.out
  unfold hcell at hv; rw [h1] at hv; cases hv⟩
theorem Dumb.blk {b : Nat} {c : Array Value} {t : TypeId} (h : Blk H b c t) (hc : ∀ v ∈ c.toList, dumbV v = true) : Dumb H b := ⟨fun o v hv => by
  rw [h.cell] at hv
  exact hc v (by rw [← Array.getElem?_toList] at hv; exact List.mem_of_getElem? hv)⟩
theorem Dumb.keep {F : Nat → Prop} {b : Nat} (h : Dumb H b) (hb : b < H.size) (k : Only F H H') (hF : ¬ F b) : Dumb H' b := ⟨fun o v hv => by
  refine h.out o v ?_
  unfold hcell at hv ⊢
  rw [k.same b hb hF] at hv; exact hv⟩
theorem Row.bytes {F : Nat → Prop} {a : Option Addr} {l : List UInt8} (h : Row H a (strV l)) (k : Only F H H') (hF : ∀ b, F b → b < H.size → Dumb H b) : Row H' a (strV l) := h.keep' k fun hne p hp hf => by
  have hpos : 0 < (strV l).length := List.length_pos_iff.2 hne
  obtain ⟨b, o, ha, hlt, hc⟩ := h.at hpos
  rw [ha] at hp; cases hp
  rw [strV_length] at hpos
  have h0 := hc 0 _ (strV_get hpos)
  have := (hF _ hf hlt).out _ _ h0
  cases this
theorem Row.texts {F : Nat → Prop} {a : Option Addr} {l : List Bs} (h : Row H a (strs l)) (k : Only F H H') (hF : ∀ b, F b → b < H.size → Dumb H b) : Row H' a (strs l) := h.keep' k fun hne p hp hf => by
  have hpos : 0 < (strs l).length := List.length_pos_iff.2 hne
  obtain ⟨b, o, ha, hlt, hc⟩ := h.at hpos
  rw [ha] at hp; cases hp
  cases l with
  | nil => exact hne rfl
  | cons x l =>
    have h0 := hc 0 (.string (mkS x)) rfl
    have := (hF _ hf hlt).out _ _ h0
    cases this
end Go.Vc
namespace Go.Proofs.YtjcmcmogbkdjcaaDoor
open Go Go.Vc Go.Scr Go.Pth Go.Tre
variable {Z : Nat → Prop}
/-- a block that is neither bytes nor a node -/
structure Oth (H : Heap) (b : Nat) : Prop where
  dumb : Dumb H b
  nn : ∀ c, ¬ Blk H b c 61
theorem Oth.map {H : Heap} {b : Nat} {l : List (Bs × Value)} (h : MapO H b l) : Oth H b := ⟨.map h, fun _ k => h.ne k rfl⟩
theorem Oth.iter {H : Heap} {r b : Nat} {l : List (Bs × Value)} {vis : List Bs} (h : IterO H r b l vis) : Oth H r := ⟨.iter h, fun _ k => h.neB k rfl⟩
theorem blk_one {H : Heap} {b : Nat} {c d : Array Value} {t u : TypeId} (h : Blk H b c t) (k : Blk H b d u) : t = u ∧ c = d := by
  obtain ⟨_, h1, _⟩ := h.out
  obtain ⟨_, h2, _⟩ := k.out
  rw [h1] at h2; simp only [Option.some.injEq, Obj.cells.injEq] at h2
  exact ⟨h2.2.1, h2.1⟩
theorem Oth.blk {H : Heap} {b : Nat} {c : Array Value} {t : TypeId} (h : Blk H b c t) (hc : ∀ v ∈ c.toList, dumbV v = true) (ht : t ≠ 61) : Oth H b := ⟨.blk h hc, fun _ k => ht (blk_one h k).1⟩
theorem Oth.keep {F : Nat → Prop} {H H' : Heap} {b : Nat} (h : Oth H b) (hb : b < H.size) (k : Only F H H') (hF : ¬ F b) : Oth H' b := ⟨h.dumb.keep hb k hF, fun c hc => h.nn c ⟨by
  obtain ⟨fr, h1, h2⟩ := hc.out
  exact ⟨fr, by rw [← k.same b hb hF]; exact h1, h2⟩⟩⟩
/-- no blocks to keep off -/
abbrev no : Nat → Prop := fun _ => False
/-- a pointer to a node; its bytes keep off Z -/
structure NodeO (Z : Nat → Prop) (H : Heap) (v : Value) (n : Tre.Node) : Prop where
  out : ∃ g a cap, v = .pointer (some ⟨g, 0, none⟩) ∧ Blk H g #[.bool n.1, .slice a n.2.length cap] 61 ∧ Row H a (strV n.2)
  foot : ∀ g a cap, v = .pointer (some ⟨g, 0, none⟩) → Blk H g #[.bool n.1, .slice a n.2.length cap] 61 → n.2 ≠ [] → ∀ p, a = some p → ¬ Z p.block
theorem NodeO.keepY {Y F : Nat → Prop} {H H' : Heap} {v : Value} {n : Tre.Node} (h : NodeO Z H v n) (k : Only F H H') (hF : ∀ b, F b → b < H.size → (Oth H b ∨ (Z b ∧ ∀ c, ¬ Blk H b c 61))) (hY : ∀ x, Y x → Z x ∨ H.size ≤ x) : NodeO Y H' v n := by
  obtain ⟨g, a, cap, h1, h2, h3⟩ := h.out
  have hg : ¬ F g := fun hf => by
    rcases hF _ hf h2.lt with e | e
    · exact e.nn _ h2
    · exact e.2 _ h2
  have h2' := h2.keep k hg
  refine ⟨⟨g, a, cap, h1, h2', h3.keep' k fun hne p hp hf => ?_⟩, fun g' a' cap' e hb hn p hp => ?_⟩
  · have hpos : 0 < (strV n.2).length := List.length_pos_iff.2 hne
    obtain ⟨b, o, ha, hlt, hc⟩ := h3.at hpos
    have hnn : n.2 ≠ [] := fun e => by rw [e] at hpos; exact absurd hpos (by decide)
    have hz := h.foot g a cap h1 h2 hnn p hp
    rw [ha] at hp; cases hp
    rcases hF _ hf hlt with e | e
    · rw [strV_length] at hpos
      have := e.dumb.out _ _ (hc 0 _ (strV_get hpos))
      cases this
    · exact hz e.1
  · rw [h1] at e; cases e
    have := (blk_one hb h2').2
    simp only [Array.mk.injEq, List.cons.injEq, Value.slice.injEq, true_and, and_true] at this
    rw [this.1] at hp
    intro hy
    rcases hY _ hy with e | e
    · exact h.foot g a cap h1 h2 hn p hp e
    · obtain ⟨b, o, ha, hlt, _⟩ := h3.at (by rw [strV_length]; exact List.length_pos_iff.2 hn)
      rw [ha] at hp; cases hp
      exact absurd hlt (by dsimp only at e; omega)
theorem NodeO.keep {F : Nat → Prop} {H H' : Heap} {v : Value} {n : Tre.Node} (h : NodeO Z H v n) (k : Only F H H') (hF : ∀ b, F b → b < H.size → (Oth H b ∨ (Z b ∧ ∀ c, ¬ Blk H b c 61))) : NodeO Z H' v n := h.keepY k hF fun _ => .inl
theorem NodeO.ext {H H' : Heap} {v : Value} {n : Tre.Node} (h : NodeO Z H v n) (k : Ext H H') : NodeO Z H' v n := h.keep k fun _ h => h.elim
theorem NodeO.mk1 {H : Heap} {g cap : Nat} {a : Option Addr} {n : Tre.Node} (h2 : Blk H g #[.bool n.1, .slice a n.2.length cap] 61) (h3 : Row H a (strV n.2)) (hz : n.2 ≠ [] → ∀ p, a = some p → ¬ Z p.block) : NodeO Z H (.pointer (some ⟨g, 0, none⟩)) n := ⟨⟨g, a, cap, rfl, h2, h3⟩, fun g' a' cap' e hb hn p hp => by
  cases e
  have := (blk_one hb h2).2
  simp only [Array.mk.injEq, List.cons.injEq, Value.slice.injEq, true_and, and_true] at this
  rw [this.1] at hp
  exact hz hn p hp⟩
/-- the map of a tree -/
structure MapT (Z : Nat → Prop) (H : Heap) (mb : Nat) (A : Tr) : Prop where
  out : ∃ l, MapO H mb l ∧ (∀ k, mget A k = none → mget l k = none) ∧ ∀ k n, mget A k = some n → ∃ v, mget l k = some v ∧ NodeO Z H v n
structure TreeO (Z : Nat → Prop) (H : Heap) (b mb : Nat) (A : Tr) : Prop where
  map : MapT Z H mb A
  blk : Blk H b #[.map (some mb), .int .i64 (sizeT A)] 68
  low : ∀ x, Z x → x < H.size
theorem MapT.oth {H : Heap} {mb : Nat} {A : Tr} (h : MapT Z H mb A) : Oth H mb := let ⟨_, h, _⟩ := h.out; .map h
theorem MapT.lt {H : Heap} {mb : Nat} {A : Tr} (h : MapT Z H mb A) : mb < H.size := let ⟨_, h, _⟩ := h.out; h.lt
theorem MapT.ne {H : Heap} {mb g : Nat} {A : Tr} {c : Array Value} {t : TypeId} (h : MapT Z H mb A) (k : Blk H g c t) : mb ≠ g := let ⟨_, h, _⟩ := h.out; h.ne k
theorem MapT.keepY {Y F : Nat → Prop} {H H' : Heap} {mb : Nat} {A : Tr} (h : MapT Z H mb A) (k : Only F H H') (hm : ¬ F mb) (hF : ∀ b, F b → b < H.size → (Oth H b ∨ (Z b ∧ ∀ c, ¬ Blk H b c 61))) (hY : ∀ x, Y x → Z x ∨ H.size ≤ x) : MapT Y H' mb A := by
  obtain ⟨l, h1, h2, h3⟩ := h.out
  exact ⟨l, h1.keep k hm, h2, fun k' n hk => let ⟨v, g1, g2⟩ := h3 k' n hk; ⟨v, g1, g2.keepY k hF hY⟩⟩
theorem MapT.keep {F : Nat → Prop} {H H' : Heap} {mb : Nat} {A : Tr} (h : MapT Z H mb A) (k : Only F H H') (hm : ¬ F mb) (hF : ∀ b, F b → b < H.size → (Oth H b ∨ (Z b ∧ ∀ c, ¬ Blk H b c 61))) : MapT Z H' mb A := h.keepY k hm hF fun _ => .inl
theorem MapT.ext {H H' : Heap} {mb : Nat} {A : Tr} (h : MapT Z H mb A) (k : Ext H H') : MapT Z H' mb A := h.keep k id fun _ h => h.elim
theorem tree_dumb (mb : Nat) (s : Int) : ∀ v ∈ (#[.map (some mb), .int .i64 s] : Array Value).toList, dumbV v = true := by simp [dumbV]
theorem oth_tree {H : Heap} {b mb : Nat} {s : Int} (h : Blk H b #[.map (some mb), .int .i64 s] 68) : Oth H b := .blk h (tree_dumb _ _) (by decide)
theorem TreeO.oth {H : Heap} {b mb : Nat} {A : Tr} (h : TreeO Z H b mb A) : Oth H b := oth_tree h.blk
theorem TreeO.keep {F : Nat → Prop} {H H' : Heap} {b mb : Nat} {A : Tr} (h : TreeO Z H b mb A) (k : Only F H H') (hb : ¬ F b) (hm : ¬ F mb) (hF : ∀ b, F b → b < H.size → (Oth H b ∨ (Z b ∧ ∀ c, ¬ Blk H b c 61))) : TreeO Z H' b mb A := ⟨h.map.keep k hm hF, h.blk.keep k hb, fun x hx => Nat.lt_of_lt_of_le (h.low x hx) k.size⟩
theorem TreeO.keepY {Y F : Nat → Prop} {H H' : Heap} {b mb : Nat} {A : Tr} (h : TreeO Z H b mb A) (k : Only F H H') (hb : ¬ F b) (hm : ¬ F mb) (hF : ∀ b, F b → b < H.size → (Oth H b ∨ (Z b ∧ ∀ c, ¬ Blk H b c 61))) (hY : ∀ x, Y x → x < H'.size ∧ (Z x ∨ H.size ≤ x)) : TreeO Y H' b mb A := ⟨h.map.keepY k hm hF fun x hx => (hY x hx).2, h.blk.keep k hb, fun x hx => (hY x hx).1⟩
theorem TreeO.ext {H H' : Heap} {b mb : Nat} {A : Tr} (h : TreeO Z H b mb A) (k : Ext H H') : TreeO Z H' b mb A := h.keep k id id fun _ h => h.elim
/-- only this tree has been written -/
abbrev ButT (b mb : Nat) (H H' : Heap) : Prop := Only (fun x => x = b ∨ x = mb) H H'
theorem TreeO.other {H H' : Heap} {b mb b' mb' : Nat} {A A' : Tr} (h : TreeO Z H b mb A) (h' : TreeO Z H b' mb' A') (hb : b ≠ b') (hm : mb ≠ mb') (k : ButT b' mb' H H') : TreeO Z H' b mb A :=
  h.keep k (fun e => e.elim hb fun e => h'.map.ne h.blk e.symm) (fun e => e.elim (fun e => h.map.ne h'.blk e) hm) fun x e _ => by
    rcases e with rfl | rfl
    · exact .inl h'.oth
    · exact .inl h'.map.oth
theorem MapT.put {H H' : Heap} {mb : Nat} {A : Tr} {l : List (Bs × Value)} {k : Bs} {v : Value} {n : Tre.Node} (h1 : MapO H mb l) (h2 : ∀ k, mget A k = none → mget l k = none) (h3 : ∀ k n, mget A k = some n → ∃ v, mget l k = some v ∧ NodeO Z H v n) (hv : NodeO Z H v n) (h4 : MapO H' mb (mput l k v)) (hx : But mb H H') : MapT Z H' mb (putF A k n) := by
  have ho : ∀ b, b = mb → b < H.size → (Oth H b ∨ (Z b ∧ ∀ c, ¬ Blk H b c 61)) := fun b e _ => by subst e; exact .inl (.map h1)
  refine ⟨_, h4, fun k' hk' => ?_, fun k' m hk' => ?_⟩
  · rw [mget_putF] at hk'; rw [mget_put]
    split at hk'
    · cases hk'
    · rename_i hne; rw [if_neg hne]; exact h2 _ hk'
  · rw [mget_putF] at hk'; rw [mget_put]
    split at hk'
    · rename_i e; rw [if_pos e]; cases hk'; exact ⟨v, rfl, hv.keep hx ho⟩
    · rename_i hne; rw [if_neg hne]
      obtain ⟨u, g1, g2⟩ := h3 _ _ hk'
      exact ⟨u, g1, g2.keep hx ho⟩
theorem treeGet0 {P : Program} {H : Heap} {t kt et : TypeId} {i : TypeInfo} {z : Value} {mb : Nat} {A : Tr} {k : Bs} {K : Value → Heap → Prop} (hm : MapT Z H mb A) (hA : mget A k = none) (ht : P.underlying t = some (.map kt et)) (hk : P.underlying kt = some .string)
    (hi : P.info? et = some i) (hz : i.zero = some z) (h : K z H) : SemH P (Instr.lookup t (.map (some mb)) (.string (mkS k)) false) H K := by
  obtain ⟨l, h1, h2, h3⟩ := hm.out
  refine SemH.lookupS h1 ht hk hi hz ?_
  rw [h2 k hA]; exact h
theorem treeGet1 {P : Program} {H : Heap} {t kt et : TypeId} {i : TypeInfo} {z : Value} {mb : Nat} {A : Tr} {k : Bs} {n : Tre.Node} {K : Value → Heap → Prop} (hm : MapT Z H mb A) (hA : mget A k = some n) (ht : P.underlying t = some (.map kt et)) (hk : P.underlying kt = some .string)
    (hi : P.info? et = some i) (hz : i.zero = some z) (h : ∀ g a cap, Blk H g #[.bool n.1, .slice a n.2.length cap] 61 → Row H a (strV n.2) → K (.pointer (some ⟨g, 0, none⟩)) H) : SemH P (Instr.lookup t (.map (some mb)) (.string (mkS k)) false) H K := by
  obtain ⟨l, h1, h2, h3⟩ := hm.out
  refine SemH.lookupS h1 ht hk hi hz ?_
  obtain ⟨v, g1, g2⟩ := h3 k n hA
  obtain ⟨g, a, cap, rfl, g3, g4⟩ := g2.out
  rw [g1]; exact h g a cap g3 g4
theorem treeGetN {P : Program} {H : Heap} {t kt et : TypeId} {i : TypeInfo} {z : Value} {mb : Nat} {A : Tr} {k : Bs} {n : Tre.Node} {K : Value → Heap → Prop} (hm : MapT Z H mb A) (hA : mget A k = some n) (ht : P.underlying t = some (.map kt et)) (hk : P.underlying kt = some .string)
    (hi : P.info? et = some i) (hz : i.zero = some z) (h : ∀ v, NodeO Z H v n → K v H) : SemH P (Instr.lookup t (.map (some mb)) (.string (mkS k)) false) H K := by
  obtain ⟨l, h1, h2, h3⟩ := hm.out
  refine SemH.lookupS h1 ht hk hi hz ?_
  obtain ⟨v, g1, g2⟩ := h3 k n hA
  rw [g1]; exact h v g2
theorem treePut {P : Program} {H : Heap} {t kt et : TypeId} {mb : Nat} {A : Tr} {k : Bs} {v : Value} {n : Tre.Node} {K : Heap → Prop} (hm : MapT Z H mb A) (hv : NodeO Z H v n) (ht : P.underlying t = some (.map kt et)) (hk : P.underlying kt = some .string)
    (h : ∀ H', H'.size = H.size → MapT Z H' mb (putF A k n) → But mb H H' → K H') : DoH P (Instr.mapUpdate t (.map (some mb)) (.string (mkS k)) v) H K := by
  obtain ⟨l, h1, h2, h3⟩ := hm.out
  exact DoH.mapPut h1 ht hk fun H' hz h4 hx => h H' hz (MapT.put h1 h2 h3 hv h4 hx) hx
/-- a path less -/
def delT (A : Tr) (k : Txt) : Tr := A.filter fun x => !(x.1 == k)
theorem mget_delT (A : Tr) (k k' : Txt) : mget (delT A k) k' = if k' = k then none else mget A k' := by
  unfold delT
  rw [mget_filter (fun x => !(x == k))]
  by_cases h : k' = k <;> simp [h]
theorem treeDel {P : Program} {H : Heap} {t u kt et ty : TypeId} {cb : Array Bool} {mb : Nat} {A : Tr} {k : Bs} {K : Value → Heap → Prop} (hm : MapT Z H mb A) (ht : P.underlying t = some (.map kt et)) (hk : P.underlying kt = some .string)
    (h : ∀ H', H'.size = H.size → MapT Z H' mb (delT A k) → But mb H H' → K (.tuple #[]) H') : NextH P (builtin .delete #[t, u] ty cb #[.map (some mb), .string (mkS k)]) H K := by
  obtain ⟨l, h1, h2, h3⟩ := hm.out
  refine NextH.mapDelete h1 ht hk fun H' hz h4 hx => h H' hz ⟨_, h4, fun k' hk' => ?_, fun k' m hk' => ?_⟩ hx
  · rw [mget_delT] at hk'; rw [mget_del h1.nodup]
    split at hk'
    · rename_i e; rw [if_pos e]
    · rename_i hne; rw [if_neg hne]; exact h2 _ hk'
  · rw [mget_delT] at hk'; rw [mget_del h1.nodup]
    split at hk'
    · cases hk'
    · rename_i hne; rw [if_neg hne]
      obtain ⟨w, g1, g2⟩ := h3 _ _ hk'
      exact ⟨w, g1, g2.keep hx fun b e _ => by subst e; exact .inl (.map h1)⟩
theorem MapT.len {H : Heap} {mb : Nat} {A : Tr} {l : List (Bs × Value)} (hA : (A.map (·.1)).Nodup) (h1 : MapO H mb l) (h2 : ∀ k, mget A k = none → mget l k = none) (h3 : ∀ k n, mget A k = some n → ∃ v, mget l k = some v ∧ NodeO Z H v n) : A.length = l.length :=
  keys_len hA h1.nodup fun k => ⟨h2 k, fun h => by
    cases hg : mget A k with
    | none => rfl
    | some n => obtain ⟨v, g, _⟩ := h3 k n hg; rw [h] at g; cases g⟩
theorem treeLen {P : Program} {H : Heap} {t kt et ty : TypeId} {ts : Array TypeId} {mb : Nat} {A : Tr} {K : Value → Heap → Prop} (hm : MapT Z H mb A) (hA : Sorted A) (h0 : ts[0]? = some t) (ht : P.underlying t = some (.map kt et))
    (h : K (.int .i64 A.length) H) : SemH P (Builtin.len_ ts ty #[.map (some mb)]) H K := by
  obtain ⟨l, h1, h2, h3⟩ := hm.out
  refine SemH.mapLen h1 h0 ht ?_
  rw [← MapT.len hA.nodup h1 h2 h3]; exact h
/-- an answer to what stands at a path -/
def AtV (Z : Nat → Prop) (H : Heap) (v : Value) : Option Tre.Node → Prop
  | none => v = .pointer none
  | some n => NodeO Z H v n
def nodeAt (A : Tr) (p : Txt) : Option Tre.Node := if p = [] then some (true, []) else mget A p
end Go.Proofs.YtjcmcmogbkdjcaaDoor
/- Trees of files, the code: what stands at a path and above it; room. -/
namespace Go.Proofs.YtjcmcmogbkdjcaaDoor
open Go Go.Vc Go.Scr Go.Pth Go.Tre
variable {Z : Nat → Prop}
theorem NodeO.dir {H : Heap} {g : Nat} (h : Blk H g #[.bool true, .slice none 0 0] 61) : NodeO Z H (.pointer (some ⟨g, 0, none⟩)) (true, []) := .mk1 h (Row.nil _ _) fun e => absurd rfl e
theorem eq_empty (p : Bs) : ((mkS p).toList == (⟨#[]⟩ : ByteArray).toList) = decide (p = []) := by rw [show (⟨#[]⟩ : ByteArray) = mkS [] from rfl, str_beq]; simp [mkS_inj]
theorem newZ_any {H : Heap} (hZ : ∀ x, Z x → x < H.size) : CallH Tryd.prog 21 [] H fun v H' => (∃ b mb, v = .pointer (some ⟨b, 0, none⟩) ∧ TreeO Z H' b mb [] ∧ H.size ≤ b ∧ H.size ≤ mb) ∧ Ext H H' := by
  refine Vc.CallH.body Tryd.func21 Tryd.call21 rfl (by decide +kernel) rfl ?_
  ((conv => whnf); repeat (any_goals (first | (((with_reducible apply SemH.makeMap0); (focus ((intro H1 z1 m1 x1; (conv => whnf))))); (conv => whnf)) | ((refine PureH.build #[.map (some H.size), .int .i64 0] (by kernel_rfl) ?_); (conv => whnf)) | (refine Vc.stp ?_; intros; (conv => whnf)) | (refine Vc.spl ?_ ?_ <;> (intro _; (conv => whnf))))))
  rename_i H2 z2 b2 x2
  exact ⟨⟨H1.size, H.size, rfl, ⟨⟨[], m1.ext x2, fun _ _ => rfl, fun k n h => by simp [mget] at h⟩, b2, fun x hx => by have := hZ x hx; omega⟩, by omega, Nat.le_refl _⟩, x1.trans x2⟩
theorem new_any (H : Heap) : CallH Tryd.prog 21 [] H fun v H' => (∃ b mb, v = .pointer (some ⟨b, 0, none⟩) ∧ TreeO no H' b mb [] ∧ H.size ≤ b ∧ H.size ≤ mb) ∧ Ext H H' := newZ_any fun _ h => h.elim
theorem at_any {b mb : Nat} {A : Tr} {H : Heap} (h : TreeO Z H b mb A) (p : Bs) : CallH Tryd.prog 23 [.pointer (some ⟨b, 0, none⟩), .string (mkS p)] H fun v H' => AtV Z H' v (nodeAt A p) ∧ Ext H H' := by
  have hb := h.blk
  have hm := h.map
  have e0 := eq_empty p
  refine Vc.CallH.body Tryd.func23 Tryd.call23 rfl (by decide +kernel) rfl ?_
  unfold nodeAt
  by_cases hp : p = []
  · rw [decide_eq_true hp] at e0
    rw [if_pos hp]
    ((conv => whnf); repeat (any_goals (first | ((refine PureH.build #[.bool true, .slice none 0 0] (by kernel_rfl) ?_); (conv => whnf)) | (refine Vc.stp ?_; intros; (conv => whnf)) | (refine Vc.spl ?_ ?_ <;> (intro _; (conv => whnf))))))
    rename_i H1 z1 b1 x1
    exact ⟨NodeO.dir b1, x1⟩
  · rw [decide_eq_false hp] at e0
    rw [if_neg hp]
    cases hA : mget A p with
    | none =>
      ((conv => whnf); repeat (any_goals (first | (((with_reducible apply treeGet0 hm hA); (focus (rfl)); (focus (rfl)); (focus (rfl)); (focus (rfl)); (focus ((conv => whnf)))); (conv => whnf)) | (refine Vc.stp ?_; intros; (conv => whnf)) | (refine Vc.spl ?_ ?_ <;> (intro _; (conv => whnf))))))
      exact ⟨rfl, Ext.refl _⟩
    | some n =>
      ((conv => whnf); repeat (any_goals (first | (((with_reducible apply treeGetN hm hA); (focus (rfl)); (focus (rfl)); (focus (rfl)); (focus (rfl)); (focus ((intro v hv; (conv => whnf))))); (conv => whnf)) | (refine Vc.stp ?_; intros; (conv => whnf)) | (refine Vc.spl ?_ ?_ <;> (intro _; (conv => whnf))))))
      exact ⟨hv, Ext.refl _⟩
theorem room_any {b mb : Nat} {A : Tr} {H : Heap} (h : TreeO Z H b mb A) (hA : Sorted A) (hl : A.length ≤ 100000) (hs : sizeT A ≤ 100000000) (m : Nat) (k : Int) (hm : m ≤ 100000) (hk : -100000000 ≤ k ∧ k ≤ 10000000000) :
    CallH Tryd.prog 40 [.pointer (some ⟨b, 0, none⟩), .int .i64 m, .int .i64 k] H fun v H' => v = .bool (decide (m + A.length ≤ 500 ∧ k + sizeT A ≤ 1048576)) ∧ H = H' := by
  have hb := h.blk
  have hmm := h.map
  refine Vc.CallH.body Tryd.func40 Tryd.call40 rfl (by decide +kernel) rfl ?_
  by_cases h1 : m + A.length ≤ 500
  · by_cases h2 : k + sizeT A ≤ 1048576
    · rw [decide_eq_true ⟨h1, h2⟩]
      ((conv => whnf); repeat (any_goals (first | (((with_reducible apply treeLen hmm hA); (focus (rfl)); (focus (rfl)); (focus ((conv => whnf)))); (conv => whnf)) | (refine Vc.stp ?_; intros; (conv => whnf)) | (refine Vc.spl ?_ ?_ <;> (intro _; (conv => whnf))))))
      exact ⟨by (show Value.bool (decide _) = _); rw [decide_eq_true (by omega)], rfl⟩
    · rw [decide_eq_false (fun e => h2 e.2)]
      ((conv => whnf); repeat (any_goals (first | (((with_reducible apply treeLen hmm hA); (focus (rfl)); (focus (rfl)); (focus ((conv => whnf)))); (conv => whnf)) | (refine Vc.stp ?_; intros; (conv => whnf)) | (refine Vc.spl ?_ ?_ <;> (intro _; (conv => whnf))))))
      exact ⟨by (show Value.bool (decide _) = _); rw [decide_eq_false (by omega)], rfl⟩
  · rw [decide_eq_false (fun e => h1 e.1)]
    ((conv => whnf); repeat (any_goals (first | (((with_reducible apply treeLen hmm hA); (focus (rfl)); (focus (rfl)); (focus ((conv => whnf)))); (conv => whnf)) | (refine Vc.stp ?_; intros; (conv => whnf)) | (refine Vc.spl ?_ ?_ <;> (intro _; (conv => whnf))))))
    exact ⟨rfl, rfl⟩
/-- what ahead answers -/
def AheadV (H' : Heap) (base : Nat) (v : Value) (A : Tr) (p : Txt) : Prop :=
  if fileF A p = true then v = .tuple #[.slice none 0 0, .int .i64 54]
  else ∃ a cap, v = .tuple #[.slice a (lackF A p).length cap, .int .i64 0] ∧ Own H' base 9 1 a (lackF A p).length cap (strs (lackF A p).reverse)
structure AhS where
  m : Nat
  out : List Bs
  a : Option Addr
  cap : Nat
theorem ahead_any {b mb : Nat} {A : Tr} {H : Heap} (h : TreeO Z H b mb A) {p : Bs} (hp : CleanP p) : CallH Tryd.prog 39 [.pointer (some ⟨b, 0, none⟩), .string (mkS p)] H fun v H' => AheadV H' H.size v A p ∧ Ext H H' := by
  obtain ⟨l, rfl, hl⟩ := hp
  have hlong := hl.long
  have hdeep := hl.deep
  have hpar : ∀ m H, m ≤ l.length → CallH Tryd.prog 50 [.string (mkS (glue (l.take m)))] H fun v H' => v = .string (mkS (glue (l.take (m - 1)))) ∧ H = H' := fun m H hm => by
    have := parent_any (glue (l.take m)) (by have := (hl.take m).long; omega) H
    rw [parent_glue (hl.take m).good, List.dropLast_eq_take, List.take_take, List.length_take] at this
    rwa [show min (min m l.length - 1) m = m - 1 by omega] at this
  have hpar0 := fun H => hpar l.length H (Nat.le_refl _)
  rw [List.take_length] at hpar0
  obtain ⟨ps, hps⟩ : ∃ ps, pars (glue l) = ps := ⟨_, rfl⟩
  have hpl : ps.length = l.length - 1 := by rw [← hps, pars_len, parts_glue hl.good]
  have hpg : ∀ m, m < l.length - 1 → ps[m]? = some (glue (l.take (m + 1))) := fun m hm => by rw [← hps, pars_get _ (by rw [parts_glue hl.good]; exact hm), parts_glue hl.good]
  refine Vc.CallH.body Tryd.func39 Tryd.call39 rfl (by decide +kernel) rfl ?_
  have hd0 : ps.drop (l.length - 1) = [] := List.drop_of_length_le (by omega)
  ((conv => whnf); repeat (any_goals (first | ((refine (hpar0 _).mono ?_; rintro _ _ ⟨rfl, rfl⟩); (conv => whnf)) | (refine Vc.stp ?_; intros; (conv => whnf)) | (refine Vc.spl ?_ ?_ <;> (intro _; (conv => whnf))))))
  refine LoopH.intro (fun (x : AhS) => [(7, .string (mkS (glue (l.take x.m)))), (6, .slice x.a x.out.length x.cap)])
    (fun x H' => x.m ≤ l.length - 1 ∧ x.out = ((ps.drop x.m).filter fun d => (mget A d).isNone).reverse ∧ (∀ d ∈ ps.drop x.m, ∀ n, mget A d = some n → n.1 = true) ∧ Own H' H.size 9 1 x.a x.out.length x.cap (strs x.out) ∧ Ext H H') (fun x => x.m) ⟨l.length - 1, [], none, 0⟩ ⟨rfl, rfl, trivial⟩
    ⟨Nat.le_refl _, by (show [] = ((ps.drop (l.length - 1)).filter _).reverse; rw [hd0]; rfl), by (show ∀ d ∈ ps.drop (l.length - 1), _; rw [hd0]; intro d hd; cases hd), Own.nil _ _ _ _, Ext.refl _⟩ ?_
  rintro ⟨m, out, a, cap⟩ H2 ⟨hm, hout, hdir, ho2, hx2⟩
  dsimp only at hm hout hdir ho2 ⊢
  have hb := h.blk.ext hx2
  have hmm := h.map.ext hx2
  have hz2 := hx2.size
  have e0 := eq_empty (glue (l.take m))
  have hol : out.length ≤ 12 := by
    rw [hout, List.length_reverse]
    refine Nat.le_trans (List.length_filter_le _ _) ?_
    rw [List.length_drop]; omega
  have hpm := fun H => hpar m H (by omega)
  by_cases hm0 : m = 0
  · subst hm0
    have hff : fileF A (glue l) = false := by
      unfold fileF
      rw [List.any_eq_false, hps]
      intro d hd
      have := hdir d (by simpa using hd)
      cases hg : mget A d with
      | none => simp
      | some n => simp [this n hg]
    have hlk : out = (lackF A (glue l)).reverse := by rw [hout]; unfold lackF; rw [hps]; rfl
    have hll : out.length = (lackF A (glue l)).length := by rw [hlk, List.length_reverse]
    rw [decide_eq_true (show glue (l.take 0) = [] from rfl)] at e0
    ((conv => whnf); repeat (any_goals (first | (refine Vc.stp ?_; intros; (conv => whnf)) | (refine Vc.spl ?_ ?_ <;> (intro _; (conv => whnf))))))
    refine ⟨?_, hx2⟩
    unfold AheadV
    rw [hff, if_neg (by simp)]
    rw [← hlk, ← hll]
    exact ⟨a, cap, rfl, ho2⟩
  · have hne : glue (l.take m) ≠ [] := glue_nil (hl.take m).good (fun e => by have := congrArg List.length e; rw [List.length_take, List.length_nil] at this; omega)
    rw [decide_eq_false hne] at e0
    have hget := hpg (m - 1) (by omega)
    rw [show m - 1 + 1 = m by omega] at hget
    have hdm : ps.drop (m - 1) = glue (l.take m) :: ps.drop m := by
      have hlt : m - 1 < ps.length := by omega
      rw [List.drop_eq_getElem_cons hlt, show m - 1 + 1 = m by omega]
      rw [List.getElem?_eq_getElem hlt] at hget
      rw [Option.some.inj hget]
    cases hg : mget A (glue (l.take m)) with
    | none =>
      ((conv => whnf); repeat (any_goals (first | (((with_reducible apply treeGet0 hmm hg); (focus (rfl)); (focus (rfl)); (focus (rfl)); (focus (rfl)); (focus ((conv => whnf)))); (conv => whnf)) | ((refine (hpm _).mono ?_; rintro _ _ ⟨rfl, rfl⟩); (conv => whnf)) | (refine Vc.stp ?_; intros; (conv => whnf)) | (refine Vc.spl ?_ ?_ <;> (intro _; (conv => whnf))))))
      rename_i H5 hs5 hb5 hx5 a6 c6 H6 ho6 hx6
      refine ⟨⟨m - 1, out ++ [glue (l.take m)], a6, c6⟩, ⟨rfl, sl_snocS _ _ _ _, trivial⟩, ⟨by show m - 1 ≤ _; omega, ?_, ?_, own_snocS rfl ho6, hx6⟩, by show m - 1 < m; omega⟩
      · show out ++ _ = _
        rw [hdm, List.filter_cons, if_pos (by rw [hg]; rfl), List.reverse_cons, hout]
      · show ∀ d ∈ ps.drop (m - 1), _
        rw [hdm]
        intro d hd n hn
        rcases List.mem_cons.1 hd with rfl | hd
        · rw [hg] at hn; cases hn
        · exact hdir d hd n hn
    | some n =>
      obtain ⟨dir, t⟩ := n
      cases dir with
      | true =>
        ((conv => whnf); repeat (any_goals (first | (((with_reducible apply treeGet1 hmm hg); (focus (rfl)); (focus (rfl)); (focus (rfl)); (focus (rfl)); (focus ((intro g1 a1 c1 k1 k2; (conv => whnf))))); (conv => whnf)) | ((refine (hpm _).mono ?_; rintro _ _ ⟨rfl, rfl⟩); (conv => whnf)) | (refine Vc.stp ?_; intros; (conv => whnf)) | (refine Vc.spl ?_ ?_ <;> (intro _; (conv => whnf))))))
        refine ⟨⟨m - 1, out, a, cap⟩, ⟨rfl, rfl, trivial⟩, ⟨by show m - 1 ≤ _; omega, ?_, ?_, ho2, hx2⟩, by show m - 1 < m; omega⟩
        · show out = _
          rw [hdm, List.filter_cons, if_neg (by rw [hg]; simp), hout]
        · show ∀ d ∈ ps.drop (m - 1), _
          rw [hdm]
          intro d hd n hn
          rcases List.mem_cons.1 hd with rfl | hd
          · rw [hg] at hn; cases hn; rfl
          · exact hdir d hd n hn
      | false =>
        ((conv => whnf); repeat (any_goals (first | (((with_reducible apply treeGet1 hmm hg); (focus (rfl)); (focus (rfl)); (focus (rfl)); (focus (rfl)); (focus ((intro g1 a1 c1 k1 k2; (conv => whnf))))); (conv => whnf)) | ((refine (hpm _).mono ?_; rintro _ _ ⟨rfl, rfl⟩); (conv => whnf)) | (refine Vc.stp ?_; intros; (conv => whnf)) | (refine Vc.spl ?_ ?_ <;> (intro _; (conv => whnf))))))
        have hff : fileF A (glue l) = true := by
          unfold fileF
          rw [List.any_eq_true, hps]
          exact ⟨_, List.mem_of_getElem? hget, by rw [hg]; rfl⟩
        refine ⟨?_, hx2⟩
        unfold AheadV
        rw [if_pos hff]; rfl
end Go.Proofs.YtjcmcmogbkdjcaaDoor
/- Bytes, cloned and put one behind another. -/
namespace Go.Vc
theorem NextH.capS {P : Program} {H : Heap} {t e : TypeId} {ty : TypeId} {cb : Array Bool} {a : Option Addr} {n cap : Nat} {K : Value → Heap → Prop} (ht : P.underlying t = some (.slice e)) (h : K (.int .i64 cap) H) : NextH P (builtin .cap #[t] ty cb #[.slice a n cap]) H K := by
  refine ⟨fun w hw => ?_⟩
  have hr : (builtin .cap #[t] ty cb #[.slice a n cap]).run P w = .ok (.value (.int .i64 cap)) w := by simp [builtin, Builtin.cap_, Sem.run_bind, underlying_of ht, goInt]
  rw [hr]
  exact ⟨Same.refl w, by rw [hw]; exact h⟩
/-- noughts behind nothing -/
theorem NextH.appendZ {P : Program} {H : Heap} {t u e ty : TypeId} {k : IntKind} {i : TypeInfo} {z : Value} {m : Nat} {cb : Array Bool} {K : Value → Heap → Prop}
    (ht : P.underlying t = some (.slice e)) (hu : P.underlying u = some (.int k)) (hi : P.info? e = some i) (hz : i.zero = some z) (hzs : z.cells.size = i.size) (h0 : 0 < m)
    (h63 : m ≤ maxLen) (hbytes : m * i.bytes ≤ 140737488355328) (hs1 : 0 < i.size)
    (hk : ∀ cap' H', Own H' H.size e i.size (some ⟨H.size, 0, none⟩) 0 cap' [] → Ext H H' → m ≤ cap' → K (.slice (some ⟨H.size, 0, none⟩) m cap') H') :
    NextH P (builtin .append #[t, u] ty cb #[.slice none 0 0, .int .i64 m]) H K := by
  refine ⟨fun w hw => ?_⟩
  have hsmall : m ≤ 9223372036854775807 := by have := h63; simp only [maxLen] at this; omega
  have goal : ∀ {v w'}, (Builtin.append_ #[t, u] ty #[.slice none 0 0, .int .i64 m]).run P w = .ok v w' → Same w w' → K v w'.heap → Nexts P w K ((builtin .append #[t, u] ty cb #[.slice none 0 0, .int .i64 m]).run P w) := by
    intro v w' hr hs hk
    simp only [builtin, Sem.run_bind, hr, Result.andThen_ok]
    exact ⟨hs, hk⟩
  have hgrow : 0 < 0 + m := by omega
  have h63' : ¬ (9223372036854775807 < ((0 : Int) + (m : Int))) := by omega
  have hfit := growslice_fits hgrow (show (0 + m) * i.bytes ≤ _ by rw [Nat.zero_add]; exact hbytes)
  have h48 : ¬ (281474976710656 < Builtin.nextslicecap (0 + m) 0 * i.bytes) := by omega
  have hge : 0 + m ≤ grownCap w (0 + m) 0 e := grownCap_ge w (0 + m) 0 e
  have hcm : grownCap w (0 + m) 0 e ≤ maxLen := grownCap_le_maxLen w (0 + m) 0 e (by omega)
  have hold : ∀ w' : World, w'.heap = H → (Builtin.firstCells i.size 0 (.slice none 0 0)).run P w' = .ok #[] w' := fun w' hw' => run_firstRow (Row.nil _ _) (by simp) w' hw'
  have hwrap : IntKind.i64.wrap (m : Int) = m := by simp [IntKind.wrap, IntKind.bits, IntKind.signed]; omega
  have hng : ¬ ((m : Int) < 0) := by omega
  have hbm : ¬ (281474976710656 < (m : Int) * (i.bytes : Int)) := by
    have : ((m * i.bytes : Nat) : Int) ≤ 140737488355328 := by omega
    rw [Int.natCast_mul] at this; omega
  have hms : ¬ (m * i.size = 0) := by have := Nat.mul_pos h0 hs1; omega
  refine goal (v := .slice (some ⟨w.heap.size, 0, none⟩) (0 + m) (grownCap w (0 + m) 0 e))
    (w' := w.drew.alloc (.cells (#[] ++ Builtin.zeroCells z.cells m ++ Builtin.zeroCells z.cells (grownCap w (0 + m) 0 e - (0 + m))) e)) ?_ ⟨rfl, rfl, rfl⟩ ?_
  · have e1 := hold w.drew hw
    have hm0 : ¬ (m = 0) := by omega
    have hsz : i.size ≠ 0 := by omega
    simp [Builtin.append_, underlying_of ht, underlying_of hu, sizeOf_of hi, typeInfo_of hi, asInt, asIntOf, hwrap, hng, hbm, hm0, hsz, hms, Question.forced, e1, zeroValue, hz, newRow, grownCap] at h63' h48 ⊢
    simp [Int.not_lt.2 h63', Nat.not_lt.2 h48, e1]
  · subst hw
    rw [Nat.zero_add] at *
    refine hk _ _ ⟨by simp, .inr ⟨w.heap.size, _, rfl, Nat.le_refl _, Blk.new (push_last _ _), Nat.zero_le _, hcm, ?_, by simp⟩⟩ (Only.push _ _ _) hge
    simp only [Array.size_append, size_zeroCells, hzs, ← Nat.add_mul]
    simp
    rw [← Nat.add_mul]; congr 1; omega
end Go.Vc
namespace Go.Proofs.YtjcmcmogbkdjcaaDoor
open Go Go.Vc Go.Scr Go.Pth Go.Tre
theorem row_nil {H : Heap} {l : List UInt8} (hr : Row H none (strV l)) : l = [] := by
  cases l with
  | nil => rfl
  | cons c t => obtain ⟨b, o, h, _⟩ := hr.at (by simp [strV]); cases h
theorem clone_any (l : List UInt8) (a : Option Addr) (n cap : Nat) (H : Heap) (hr : Row H a (strV l)) (hn : l.length = n) (hm : n ≤ 140737488355328) :
    CallH Tryd.prog 28 [.slice a n cap] H fun v H' => (∃ a' cap', v = .slice a' n cap' ∧ Own H' H.size 5 1 a' n cap' (strV l)) ∧ Ext H H' := by
  refine Vc.CallH.body Tryd.func28 Tryd.call28 rfl (by decide +kernel) rfl ?_
  cases a with
  | none =>
    obtain rfl := row_nil hr
    obtain rfl : 0 = n := hn
    ((conv => whnf); repeat (any_goals (first | ((refine CondH.pos rfl ?_); (conv => whnf)) | (refine Vc.sts ?_; (conv => whnf)))))
    exact ⟨⟨none, 0, rfl, Own.nil _ _ _ _⟩, Ext.refl _⟩
  | some p =>
    ((conv => whnf); repeat (any_goals (first | ((refine CondH.neg rfl ?_); (conv => whnf)) | (refine Vc.sts ?_; (conv => whnf)))))
    refine SemH.lit (vs := []) rfl rfl rfl rfl rfl rfl rfl ?_
    intro H1 hs1 hb1 hx1
    ((conv => whnf); repeat (any_goals (first | (refine Vc.sts ?_; (conv => whnf)))))
    refine NextH.append (i := Tryd.t5) (z := .int .u8 0) (base := H.size) rfl ⟨_, rfl, fun _ h => by cases h⟩ rfl rfl rfl (own_new hb1 (Nat.le_refl _)) (Src.row (hr.ext hx1) (by rw [strV_length, hn]; exact (Nat.mul_one _).symm) (strV_plain _)) (by unfold maxLen; omega) (by show (0 + n) * 1 ≤ _; omega) (by omega) ?_
    intro a3 cap3 H3 ho3 hw3 hn3
    ((conv => whnf); repeat (any_goals (first | (refine Vc.sts ?_; (conv => whnf)))))
    rw [Nat.zero_add, List.nil_append] at *
    exact ⟨⟨a3, cap3, rfl, ho3⟩, hx1.but hw3.toBut (Nat.le_refl _)⟩
theorem grow0_any (n : Nat) (H : Heap) (hm : n ≤ 1000000000000) : CallH Tryd.prog 69 [.slice none 0 0, .int .i64 n] H fun v H' => (∃ a' cap', v = .slice a' 0 cap' ∧ Own H' H.size 5 1 a' 0 cap' []) ∧ Ext H H' := by
  refine Vc.CallH.body Tryd.func69 Tryd.call69 rfl (by decide +kernel) rfl ?_
  by_cases h0 : n = 0
  · subst h0
    ((conv => whnf); repeat (any_goals (first | (((with_reducible apply NextH.capS); (focus (rfl)); (focus ((conv => whnf)))); (conv => whnf)) | (refine Vc.stp ?_; intros; (conv => whnf)) | (refine Vc.spl ?_ ?_ <;> (intro _; (conv => whnf))))))
    exact ⟨⟨none, 0, rfl, Own.nil _ _ _ _⟩, Ext.refl _⟩
  · ((conv => whnf); repeat (any_goals (first | (((with_reducible apply NextH.capS); (focus (rfl)); (focus ((conv => whnf)))); (conv => whnf)) | ((refine BndH.nat 0 rfl (by omega) ?_); (conv => whnf)) | (((with_reducible apply NextH.appendZ); (focus (rfl)); (focus (rfl)); (focus (rfl)); (focus (rfl)); (focus (rfl)); (focus (omega)); (focus ((unfold maxLen; omega))); (focus ((show n * 1 ≤ _; omega))); (focus (decide)); (focus ((intro c5 H5 ho5 hx5 hc5; (conv => whnf))))); (conv => whnf)) | ((rw [show ((n : Int) - (((0 : Nat) : Int) - ((0 : Nat) : Int))) = (n : Int) by omega]); (conv => whnf)) | (refine Vc.stp ?_; intros; (conv => whnf)) | (refine Vc.spl ?_ ?_ <;> (intro _; (conv => whnf))))))
    exact ⟨⟨_, c5, rfl, ho5⟩, hx5⟩
theorem IdxA.cell {H : Heap} {a : Option Addr} {vs : List Value} {n : Nat} {i : Int} {K : Addr → Prop} (h : Row H a vs) (hn : vs.length = n) (j : Nat) (v : Value) (hi : i = j) (hv : vs[j]? = some v)
    (hk : ∀ b o, hcell H ⟨b, o + j, none⟩ = some v → K ⟨b, o + j, none⟩) : IdxA a n 1 i K := by
  have hj := (List.getElem?_eq_some_iff.1 hv).1
  refine (Go.Vc.IdxA.row (size := 1) h (by rw [hn, Nat.mul_one]) (by decide) j hi (by omega) fun b o h1 h2 h3 => ?_)
  have h3 := h3 0 v (by rw [Nat.mul_one, Nat.add_zero]; exact hv)
  rw [Nat.mul_one]
  rw [Nat.mul_one] at h3
  exact hk b o (by simpa using h3)
theorem row_two {H : Heap} {g : Nat} {e : TypeId} {u v : Value} (h : Blk H g #[u, v] e) : Row H (some ⟨g, 0, none⟩) [u, v] := Blk.row (c := [u, v]) h
theorem pick_two {x y : List UInt8} {i : Nat} {l : List UInt8} (h : [x, y][i]? = some l) : (i = 0 ∧ l = x) ∨ (i = 1 ∧ l = y) := by
  match i, h with
  | 0, h => simp at h; exact .inl ⟨rfl, h.symm⟩
  | 1, h => simp at h; exact .inr ⟨rfl, h.symm⟩
structure CcS where
  i : Nat
  a : Option Addr
  cap : Nat
theorem concat_any (x y : List UInt8) (a b : Option Addr) (n m ca cb g : Nat) (H : Heap) (hx : Row H a (strV x)) (hy : Row H b (strV y)) (hn : x.length = n) (hm : y.length = m) (hm1 : n ≤ 100000000000) (hm2 : m ≤ 100000000000) (hg : Blk H g #[.slice a n ca, .slice b m cb] 24) :
    CallH Tryd.prog 51 [.slice (some ⟨g, 0, none⟩) 2 2] H fun v H' => (∃ a' cap', v = .slice a' (n + m) cap' ∧ Own H' H.size 5 1 a' (n + m) cap' (strV (x ++ y))) ∧ Ext H H' := by
  have hr := row_two hg
  refine Vc.CallH.body Tryd.func51 Tryd.call51 rfl (by decide +kernel) rfl ?_
  ((conv => whnf); repeat (any_goals (first | (refine Vc.stp ?_; intros; (conv => whnf)) | (refine Vc.spl ?_ ?_ <;> (intro _; (conv => whnf))))))
  obtain ⟨L, l0, l1, l2⟩ : ∃ L : Nat → Nat, L 0 = 0 ∧ L 1 = n ∧ L 2 = n + m := ⟨fun i => if i = 0 then 0 else if i = 1 then n else n + m, rfl, rfl, rfl⟩
  obtain ⟨M, m0, m1, m2⟩ : ∃ M : Nat → List UInt8, M 0 = [] ∧ M 1 = x ∧ M 2 = x ++ y := ⟨fun i => if i = 0 then [] else if i = 1 then x else x ++ y, rfl, rfl, rfl⟩
  refine LoopH.intro (fun (i : Nat) => [(11, .int .i64 i), (3, .int .i64 (L i))]) (fun i H' => H = H' ∧ i ≤ 2) (fun i => 2 - i) 0 ⟨rfl, by rw [l0]; rfl, trivial⟩ ⟨rfl, Nat.zero_le _⟩ ?_
  rintro i _ ⟨rfl, hi⟩
  dsimp only
  by_cases h0 : i = 0
  · subst h0
    ((conv => whnf); repeat (any_goals (first | ((refine IdxA.cell hr rfl 0 _ rfl rfl ?_; intro _ _ _); (conv => whnf)) | (refine Vc.stp ?_; intros; (conv => whnf)) | (refine Vc.spl ?_ ?_ <;> (intro _; (conv => whnf))))))
    exact ⟨1, ⟨rfl, by (show Value.int .i64 (((L 0 : Nat) : Int) + n) = Value.int .i64 (L 1 : Int); rw [l0, l1]; congr 1; omega), trivial⟩, ⟨rfl, by omega⟩, by omega⟩
  by_cases h1 : i = 1
  · subst h1
    ((conv => whnf); repeat (any_goals (first | ((refine IdxA.cell hr rfl 1 _ rfl rfl ?_; intro _ _ _); (conv => whnf)) | (refine Vc.stp ?_; intros; (conv => whnf)) | (refine Vc.spl ?_ ?_ <;> (intro _; (conv => whnf))))))
    exact ⟨2, ⟨rfl, by (show Value.int .i64 ((L 1 : Int) + m) = Value.int .i64 (L 2 : Int); rw [l1, l2]; congr 1), trivial⟩, ⟨rfl, by omega⟩, by omega⟩
  obtain rfl : i = 2 := by omega
  rw [l2]
  have hgr := fun H => grow0_any (n + m) H (by omega)
  ((conv => whnf); repeat (any_goals (first | ((refine (hgr _).mono ?_; rintro _ H1 ⟨⟨a1, c1, rfl, ho1⟩, hx1⟩; have hz1 := hx1.size); (conv => whnf)) | (refine Vc.stp ?_; intros; (conv => whnf)) | (refine Vc.spl ?_ ?_ <;> (intro _; (conv => whnf))))))
  refine LoopH.intro (fun (x : CcS) => [(27, .int .i64 x.i), (6, .slice x.a (L x.i) x.cap)]) (fun z H' => z.i ≤ 2 ∧ Own H' H.size 5 1 z.a (L z.i) z.cap (strV (M z.i)) ∧ Ext H H') (fun z => 2 - z.i) ⟨0, a1, c1⟩ ⟨rfl, by (show Value.slice a1 0 c1 = .slice a1 (L 0) c1; rw [l0]), trivial⟩ ⟨Nat.zero_le _, by (show Own H1 H.size _ 1 a1 (L 0) c1 (strV (M 0)); rw [l0, m0]; exact ho1), hx1⟩ ?_
  rintro ⟨i, a2, c2⟩ H2 ⟨hi, ho2, hx2⟩
  dsimp only at hi ho2 ⊢
  have hz2 := hx2.size
  have hr2 := hr.ext hx2
  have hx' := hx.ext hx2
  have hy' := hy.ext hx2
  by_cases h0 : i = 0
  · subst h0
    ((conv => whnf); repeat (any_goals (first | ((refine IdxA.cell hr2 rfl 0 _ rfl rfl ?_; intro _ _ _); (conv => whnf)) | ((refine NextH.append (m := n) (i := Tryd.t5) (z := .int .u8 0) (base := H.size) rfl ⟨_, rfl, fun _ h => by cases h⟩ rfl rfl rfl ho2 (Src.row hx' (by rw [strV_length, hn]; exact (Nat.mul_one _).symm) (strV_plain _)) (by unfold maxLen; omega) (by show (L 0 + n) * 1 ≤ _; omega) (by omega) ?_; intro a3 c3 H3 ho3 hw3 hn3); (conv => whnf)) | (refine Vc.stp ?_; intros; (conv => whnf)) | (refine Vc.spl ?_ ?_ <;> (intro _; (conv => whnf))))))
    have e1 : L 0 + n = L 1 := by omega
    have e2 : strV (M 0) ++ strV x = strV (M 1) := by rw [m0, m1]; rfl
    rw [e1, e2] at ho3
    exact ⟨⟨1, a3, c3⟩, ⟨rfl, by rw [e1]; rfl, trivial⟩, ⟨by show 1 ≤ 2; omega, ho3, hx2.wr ho2 (Nat.le_refl _) hw3⟩, by show 2 - 1 < 2 - 0; omega⟩
  by_cases h1 : i = 1
  · subst h1
    ((conv => whnf); repeat (any_goals (first | ((refine IdxA.cell hr2 rfl 1 _ rfl rfl ?_; intro _ _ _); (conv => whnf)) | ((refine NextH.append (m := m) (i := Tryd.t5) (z := .int .u8 0) (base := H.size) rfl ⟨_, rfl, fun _ h => by cases h⟩ rfl rfl rfl ho2 (Src.row hy' (by rw [strV_length, hm]; exact (Nat.mul_one _).symm) (strV_plain _)) (by unfold maxLen; omega) (by show (L 1 + m) * 1 ≤ _; omega) (by omega) ?_; intro a3 c3 H3 ho3 hw3 hn3); (conv => whnf)) | (refine Vc.stp ?_; intros; (conv => whnf)) | (refine Vc.spl ?_ ?_ <;> (intro _; (conv => whnf))))))
    have e1 : L 1 + m = L 2 := by omega
    have e2 : strV (M 1) ++ strV y = strV (M 2) := by rw [m1, m2, strV_append]
    rw [e1, e2] at ho3
    exact ⟨⟨2, a3, c3⟩, ⟨rfl, by rw [e1]; rfl, trivial⟩, ⟨Nat.le_refl _, ho3, hx2.wr ho2 (Nat.le_refl _) hw3⟩, by show 2 - 2 < 2 - 1; omega⟩
  obtain rfl : i = 2 := by omega
  rw [l2, m2] at *
  ((conv => whnf); repeat (any_goals (first | (refine Vc.stp ?_; intros; (conv => whnf)) | (refine Vc.spl ?_ ?_ <;> (intro _; (conv => whnf))))))
  exact ⟨⟨a2, c2, rfl, ho2⟩, hx2⟩
end Go.Proofs.YtjcmcmogbkdjcaaDoor
/- Trees of files, the code: files and directories are written. -/
namespace Go.Tre
open Go.Pth Go.Scr
open Go.Vc (mget mput mdel mget_put mget_mem mget_of_mem mget_none)
theorem makeF_snoc (A : Tr) (l : List Txt) (d : Txt) : makeF A (l ++ [d]) = putF (makeF A l) d (true, []) := by unfold makeF; rw [List.foldl_append]; rfl
theorem makeF_rev {A : Tr} (h : Sorted A) (l : List Txt) : makeF A l.reverse = makeF A l := makeF_same h fun x => by simp
theorem write_size {A : Tr} (hA : Okay A) {q : Txt} (hq : CleanP q) (b : Txt) : sizeT (putF (makeF A (lackF A q)) q (false, b)) + oldF A q = sizeT A + b.length := by
  have h1 := putF_size (makeF_sorted (lackF A q) hA.sorted) q (false, b)
  rw [old_makeF hA.sorted (lack_np hq), makeF_size hA.sorted fun d hd => (lack_none hd).2] at h1
  exact h1
theorem old_le : ∀ (A : Tr) (p : Txt), oldF A p ≤ sizeT A
  | [], p => Nat.zero_le _
  | x :: l, p => by
    have e1 : sizeT (x :: l) = x.2.2.length + sizeT l := by simp [sizeT]
    have := old_le l p
    unfold oldF at this ⊢
    simp only [mget]
    by_cases h : p = x.1
    · rw [if_pos h, e1]; exact Nat.le_add_right _ _
    · rw [if_neg h, e1]
      exact Nat.le_trans this (Nat.le_add_left _ _)
end Go.Tre
namespace Go.Proofs.YtjcmcmogbkdjcaaDoor
open Go Go.Vc Go.Scr Go.Pth Go.Tre
variable {Z : Nat → Prop}
theorem make_any {b mb : Nat} {A : Tr} {H : Heap} {s : Int} (hb : Blk H b #[.map (some mb), .int .i64 s] 68) (hm : MapT Z H mb A) (ds : List Bs) (a : Option Addr) (n cap : Nat) (hr : Row H a (strs ds)) (hn : ds.length = n) (hn1 : n ≤ 1000000) :
    CallH Tryd.prog 41 [.pointer (some ⟨b, 0, none⟩), .slice a n cap] H fun v H' => v = .tuple #[] ∧ MapT Z H' mb (makeF A ds) ∧ But mb H H' := by
  refine Vc.CallH.body Tryd.func41 Tryd.call41 rfl (by decide +kernel) rfl ?_
  have hmb := hm.ne hb
  ((conv => whnf); repeat (any_goals (first | (refine Vc.stp ?_; intros; (conv => whnf)) | (refine Vc.spl ?_ ?_ <;> (intro _; (conv => whnf))))))
  refine LoopH.intro (fun (i : Nat) => [(8, .int .i64 i)]) (fun i H' => i ≤ n ∧ MapT Z H' mb (makeF A (ds.take i)) ∧ But mb H H') (fun i => n - i) 0 ⟨rfl, trivial⟩ ⟨Nat.zero_le _, hm, Only.refl _ _⟩ ?_
  rintro i H2 ⟨hi, hm2, hx2⟩
  have hz2 := hx2.size
  have hb2 := hb.but hx2 hmb.symm
  have hr2 := hr.texts hx2 fun x e _ => by subst e; exact hm.oth.dumb
  by_cases hlt : i < n
  · obtain ⟨d, hd⟩ : ∃ d, ds[i]? = some d := ⟨_, List.getElem?_eq_getElem (by omega)⟩
    ((conv => whnf); repeat (any_goals (first | ((refine IdxA.strv hr2 hn i d (by omega) hd ?_; intro _ _ _ _ _); (conv => whnf)) | ((refine PureH.build #[.bool true, .slice none 0 0] (by kernel_rfl) ?_); (conv => whnf)) | (((with_reducible apply treePut); (focus ((exact hm2.ext (by assumption)))); (focus ((exact NodeO.dir (by assumption)))); (focus (rfl)); (focus (rfl)); (focus ((intro H5 z5 m5 x5; (conv => whnf))))); (conv => whnf)) | (refine Vc.stp ?_; intros; (conv => whnf)) | (refine Vc.spl ?_ ?_ <;> (intro _; (conv => whnf))))))
    rename_i H4 z4 b4 x4
    refine ⟨i + 1, ⟨rfl, trivial⟩, ⟨by omega, ?_, (hx2.ext x4).trans x5 fun _ _ h => h⟩, by omega⟩
    rw [List.take_add_one, hd]
    show MapT Z H5 mb (makeF A (ds.take i ++ [d]))
    rw [makeF_snoc]; exact m5
  · obtain rfl : i = n := by omega
    ((conv => whnf); repeat (any_goals (first | (refine Vc.stp ?_; intros; (conv => whnf)) | (refine Vc.spl ?_ ?_ <;> (intro _; (conv => whnf))))))
    refine ⟨rfl, ?_, hx2⟩
    rw [List.take_of_length_le (by omega)] at hm2; exact hm2
/-- what an operation on a tree leaves -/
structure Did (Z : Nat → Prop) (H H' : Heap) (b mb : Nat) (v : Value) (r : Tr × Nat) : Prop where
  code : v = .int .i64 r.2
  tree : TreeO Z H' b mb r.1
  only : ButT b mb H H'
theorem Did.none {H H' : Heap} {b mb : Nat} {A : Tr} (h : TreeO Z H b mb A) (k : Ext H H') (n : Nat) : Did Z H H' b mb (.int .i64 n) (A, n) := ⟨rfl, h.ext k, k.only⟩
theorem node_none {A : Tr} {q : Txt} (h : mget A q = none) (hq : q ≠ []) : nodeAt A q = none := by unfold nodeAt; rw [if_neg hq, h]
theorem node_some {A : Tr} {q : Txt} {n : Tre.Node} (h : mget A q = some n) (hq : q ≠ []) : nodeAt A q = some n := by unfold nodeAt; rw [if_neg hq, h]
theorem dir_node (A : Tr) (q : Txt) : dirF A q = true ↔ ∃ t, nodeAt A q = some (true, t) := by
  unfold dirF nodeAt
  by_cases h : q = []
  · subst h; simp
  · rw [if_neg h]
    cases hg : mget A q with
    | none => simp [h]
    | some n => obtain ⟨x, t⟩ := n; simp [h]
/-- the ways of writing behind what is there -/
def newB (A : Tr) (q bs : Bs) (more : Bool) : Bs := if more = true then bytesF A q ++ bs else bs
def putR (A : Tr) (p bs : Bs) (more : Bool) : Tr × Nat := if (cleanF p).2 = 0 then writeP A (cleanF p).1 (newB A (cleanF p).1 bs more) else (A, (cleanF p).2)
theorem putR_write (A : Tr) (p bs : Bs) : putR A p bs false = writeF A p bs := rfl
theorem putR_append (A : Tr) (p bs : Bs) : putR A p bs true = appendF A p bs := rfl
set_option maxHeartbeats 4000000 in
theorem put_any {b mb : Nat} {A : Tr} {H : Heap} (h : TreeO Z H b mb A) (hA : Okay A) (p BB : Bs) (a : Option Addr) (n cap : Nat) (more : Bool) (hr : Row H a (strV BB)) (hn : BB.length = n) (hm : n ≤ 10000000000) :
    CallH Tryd.prog 42 [.pointer (some ⟨b, 0, none⟩), .string (mkS p), .slice a n cap, .bool more] H fun v H' => Did Z H H' b mb v (putR A p BB more) := by
  subst hn
  have hmb := h.map.ne h.blk
  have hcl := fun H => clean_any p H
  obtain ⟨hcode, hcn⟩ := clean_code p
  unfold putR
  by_cases h0 : ¬ (cleanF p).2 = 0
  · rw [if_neg h0]
    generalize cleanF p = c at *
    refine Vc.CallH.body Tryd.func42 Tryd.call42 rfl (by decide +kernel) rfl ?_
    ((conv => whnf); repeat (any_goals (first | ((refine (hcl _).mono ?_; rintro _ H1 ⟨rfl, hx1⟩; have hz1 := hx1.size); (conv => whnf)) | (refine Vc.stp ?_; intros; (conv => whnf)) | (refine Vc.spl ?_ ?_ <;> (intro _; (conv => whnf))))))
    exact Did.none h hx1 _
  have h0 : (cleanF p).2 = 0 := by omega
  rw [if_pos h0]
  have hq := clean_of h0
  obtain ⟨q, hqe⟩ : ∃ q, (cleanF p).1 = q := ⟨_, rfl⟩
  rw [h0, hqe] at hcl
  rw [hqe] at hq ⊢
  have hat := fun H' (k : Ext H H') => at_any (h.ext k) q
  by_cases hd : dirF A q = true
  · obtain ⟨t, ht⟩ := (dir_node A q).1 hd
    rw [ht] at hat
    have hw : writeP A q (newB A q BB more) = (A, 54) := by unfold writeP; rw [if_pos (.inl hd)]
    rw [hw]
    refine Vc.CallH.body Tryd.func42 Tryd.call42 rfl (by decide +kernel) rfl ?_
    ((conv => whnf); repeat (any_goals (first | ((refine (hcl _).mono ?_; rintro _ H1 ⟨rfl, hx1⟩; have hz1 := hx1.size); (conv => whnf)) | ((refine (hat _ (by (repeat (first | assumption | exact Vc.Ext.refl _ | ((with_reducible apply Vc.Ext.trans); (case k => assumption)) | ((with_reducible apply Vc.Ext.but); (case k => assumption); (case hb => omega)))))).mono ?_; rintro v2 H2 ⟨hv2, hx2⟩; have hz2 := hx2.size; obtain ⟨g2, a2, c2, rfl, hb2, hr2⟩ := NodeO.out hv2); (conv => whnf)) | (refine Vc.stp ?_; intros; (conv => whnf)) | (refine Vc.spl ?_ ?_ <;> (intro _; (conv => whnf))))))
    exact Did.none h (by (repeat (first | assumption | exact Vc.Ext.refl _ | ((with_reducible apply Vc.Ext.trans); (case k => assumption)) | ((with_reducible apply Vc.Ext.but); (case k => assumption); (case hb => omega))))) _
  have hqn : q ≠ [] := by rintro rfl; exact hd rfl
  have hah := fun H' (k : Ext H H') => ahead_any (h.ext k) hq
  cases hg : mget A q with
  | none =>
    rw [node_none hg hqn] at hat
    have hnb : newB A q BB more = BB := by unfold newB bytesF; rw [hg]; cases more <;> rfl
    rw [hnb]
    unfold AheadV at hah
    by_cases hf : fileF A q = true
    · simp only [if_pos hf] at hah
      have hw : writeP A q BB = (A, 54) := by unfold writeP; rw [if_pos (.inr hf)]
      rw [hw]
      refine Vc.CallH.body Tryd.func42 Tryd.call42 rfl (by decide +kernel) rfl ?_
      ((conv => whnf); repeat (any_goals (first | ((refine (hcl _).mono ?_; rintro _ H1 ⟨rfl, hx1⟩; have hz1 := hx1.size); (conv => whnf)) | ((refine (hat _ (by (repeat (first | assumption | exact Vc.Ext.refl _ | ((with_reducible apply Vc.Ext.trans); (case k => assumption)) | ((with_reducible apply Vc.Ext.but); (case k => assumption); (case hb => omega)))))).mono ?_; rintro v2 H2 ⟨hv2, hx2⟩; have hz2 := hx2.size; obtain rfl := hv2); (conv => whnf)) | ((refine (hah _ (by (repeat (first | assumption | exact Vc.Ext.refl _ | ((with_reducible apply Vc.Ext.trans); (case k => assumption)) | ((with_reducible apply Vc.Ext.but); (case k => assumption); (case hb => omega)))))).mono ?_; rintro _ H3 ⟨rfl, hx3⟩; have hz3 := hx3.size); (conv => whnf)) | (refine Vc.stp ?_; intros; (conv => whnf)) | (refine Vc.spl ?_ ?_ <;> (intro _; (conv => whnf))))))
      exact Did.none h (by (repeat (first | assumption | exact Vc.Ext.refl _ | ((with_reducible apply Vc.Ext.trans); (case k => assumption)) | ((with_reducible apply Vc.Ext.but); (case k => assumption); (case hb => omega))))) _
    · simp only [if_neg hf] at hah
      have hlk : (lackF A q).length ≤ 12 := by
        have h1 : (lackF A q).length ≤ (pars q).length := List.length_filter_le _ _
        have h2 := hq.parts.deep
        rw [pars_len] at h1; omega
      have hoF : oldF A q = 0 := by unfold oldF; rw [hg]
      have hmF : moreF A q = (lackF A q).length + 1 := by unfold moreF; rw [hg]; simp
      by_cases hbig : 65536 < BB.length
      · have hw : writeP A q BB = (A, 55) := by unfold writeP; rw [if_neg (by rw [not_or]; exact ⟨hd, hf⟩), if_pos (.inl hbig)]
        rw [hw]
        refine Vc.CallH.body Tryd.func42 Tryd.call42 rfl (by decide +kernel) rfl ?_
        ((conv => whnf); repeat (any_goals (first | ((refine (hcl _).mono ?_; rintro _ H1 ⟨rfl, hx1⟩; have hz1 := hx1.size); (conv => whnf)) | ((refine (hat _ (by (repeat (first | assumption | exact Vc.Ext.refl _ | ((with_reducible apply Vc.Ext.trans); (case k => assumption)) | ((with_reducible apply Vc.Ext.but); (case k => assumption); (case hb => omega)))))).mono ?_; rintro v2 H2 ⟨hv2, hx2⟩; have hz2 := hx2.size; obtain rfl := hv2); (conv => whnf)) | ((refine (hah _ (by (repeat (first | assumption | exact Vc.Ext.refl _ | ((with_reducible apply Vc.Ext.trans); (case k => assumption)) | ((with_reducible apply Vc.Ext.but); (case k => assumption); (case hb => omega)))))).mono ?_; rintro _ H3 ⟨⟨a3, c3, rfl, ho3⟩, hx3⟩; have hz3 := hx3.size); (conv => whnf)) | (refine Vc.stp ?_; intros; (conv => whnf)) | (refine Vc.spl ?_ ?_ <;> (intro _; (conv => whnf))))))
        exact Did.none h (by (repeat (first | assumption | exact Vc.Ext.refl _ | ((with_reducible apply Vc.Ext.trans); (case k => assumption)) | ((with_reducible apply Vc.Ext.but); (case k => assumption); (case hb => omega))))) _
      have hroom := fun H' (k : Ext H H') => room_any (h.ext k) hA.sorted (by have := hA.count; omega) (by have := hA.size; omega) ((lackF A q).length + 1) ((BB.length : Int) - 0) (by omega) (by omega)
      rw [show (((lackF A q).length + 1 : Nat) : Int) = ((lackF A q).length : Int) + 1 by omega] at hroom
      by_cases hrm : (lackF A q).length + 1 + A.length ≤ 500 ∧ (BB.length : Int) - 0 + sizeT A ≤ 1048576
      · rw [decide_eq_true hrm] at hroom
        have hw : writeP A q BB = (putF (makeF A (lackF A q)) q (false, BB), 0) := by
          unfold writeP
          rw [if_neg (by rw [not_or]; exact ⟨hd, hf⟩), if_neg (by rw [not_or, not_or]; omega)]
        rw [hw]
        have hws := write_size hA hq BB
        refine Vc.CallH.body Tryd.func42 Tryd.call42 rfl (by decide +kernel) rfl ?_
        ((conv => whnf); repeat (any_goals (first | ((refine (hcl _).mono ?_; rintro _ H1 ⟨rfl, hx1⟩; have hz1 := hx1.size); (conv => whnf)) | ((refine (hat _ (by (repeat (first | assumption | exact Vc.Ext.refl _ | ((with_reducible apply Vc.Ext.trans); (case k => assumption)) | ((with_reducible apply Vc.Ext.but); (case k => assumption); (case hb => omega)))))).mono ?_; rintro v2 H2 ⟨hv2, hx2⟩; have hz2 := hx2.size; obtain rfl := hv2); (conv => whnf)) | ((refine (hah _ (by (repeat (first | assumption | exact Vc.Ext.refl _ | ((with_reducible apply Vc.Ext.trans); (case k => assumption)) | ((with_reducible apply Vc.Ext.but); (case k => assumption); (case hb => omega)))))).mono ?_; rintro _ H3 ⟨⟨a3, c3, rfl, ho3⟩, hx3⟩; have hz3 := hx3.size); (conv => whnf)) | ((refine (hroom _ (by (repeat (first | assumption | exact Vc.Ext.refl _ | ((with_reducible apply Vc.Ext.trans); (case k => assumption)) | ((with_reducible apply Vc.Ext.but); (case k => assumption); (case hb => omega)))))).mono ?_; rintro _ _ ⟨rfl, rfl⟩); (conv => whnf)) | ((refine (make_any (h.blk.ext (by (repeat (first | assumption | exact Vc.Ext.refl _ | ((with_reducible apply Vc.Ext.trans); (case k => assumption)) | ((with_reducible apply Vc.Ext.but); (case k => assumption); (case hb => omega)))))) (h.map.ext (by (repeat (first | assumption | exact Vc.Ext.refl _ | ((with_reducible apply Vc.Ext.trans); (case k => assumption)) | ((with_reducible apply Vc.Ext.but); (case k => assumption); (case hb => omega)))))) (lackF A q).reverse a3 _ c3 (ho3.row.ext (by (repeat (first | assumption | exact Vc.Ext.refl _ | ((with_reducible apply Vc.Ext.trans); (case k => assumption)) | ((with_reducible apply Vc.Ext.but); (case k => assumption); (case hb => omega)))))) (by simp) (by omega)).mono ?_; rintro _ H5 ⟨rfl, hm5, hx5⟩; have hz5 := hx5.size; have hx03 := (show Ext H H3 by (repeat (first | assumption | exact Vc.Ext.refl _ | ((with_reducible apply Vc.Ext.trans); (case k => assumption)) | ((with_reducible apply Vc.Ext.but); (case k => assumption); (case hb => omega))))); have hb5 := (h.blk.ext hx03).but hx5 hmb.symm; have hr5 := (hr.ext hx03).bytes hx5 (fun x e _ => by subst e; exact (h.map.ext hx03).oth.dumb)); (conv => whnf)) | ((refine (clone_any _ _ _ _ _ (hr5.ext (by (repeat (first | assumption | exact Vc.Ext.refl _ | ((with_reducible apply Vc.Ext.trans); (case k => assumption)) | ((with_reducible apply Vc.Ext.but); (case k => assumption); (case hb => omega)))))) rfl (by omega)).mono ?_; rintro _ H6 ⟨⟨a6, c6, rfl, ho6⟩, hx6⟩; have hz6 := hx6.size); (conv => whnf)) | ((refine PureH.build #[.bool false, .slice a6 BB.length c6] (by kernel_rfl) ?_); (conv => whnf)) | (((with_reducible apply treePut (n := (false, BB))); (focus ((exact hm5.ext (by (repeat (first | assumption | exact Vc.Ext.refl _ | ((with_reducible apply Vc.Ext.trans); (case k => assumption)) | ((with_reducible apply Vc.Ext.but); (case k => assumption); (case hb => omega)))))))); (focus ((exact .mk1 (by assumption) (ho6.row.ext (by assumption)) fun _ p hp hz => absurd (ho6.block p hp).1 (by have := h.low _ hz; omega)))); (focus (rfl)); (focus (rfl)); (focus ((intro H8 z8 m8 x8; (conv => whnf))))); (conv => whnf)) | (((with_reducible refine Vc.DrawH.held [0, 1, 2, 3, 4, 5, 6, 7, 8, 9] [(6, [3]), (8, [3])] mixed (by decide +kernel) ?_)); (conv => whnf)) | (refine Vc.stp ?_; intros; (conv => whnf)) | (refine Vc.spl ?_ ?_ <;> (intro _; (conv => whnf))))))
        (rename_i H7 z7 b7 x7 H9 z9 b9 x9; have o9 : ButT b mb H H9 := (((hx03.only.trans hx5 fun _ _ e => .inr e).ext (show Ext H5 H7 by (repeat (first | assumption | exact Vc.Ext.refl _ | ((with_reducible apply Vc.Ext.trans); (case k => assumption)) | ((with_reducible apply Vc.Ext.but); (case k => assumption); (case hb => omega)))))).trans x8 fun _ _ e => .inr e).trans x9 fun _ _ e => .inl e; rw [makeF_rev hA.sorted] at m8; have b8 := (hb5.ext (show Ext H5 H7 by (repeat (first | assumption | exact Vc.Ext.refl _ | ((with_reducible apply Vc.Ext.trans); (case k => assumption)) | ((with_reducible apply Vc.Ext.but); (case k => assumption); (case hb => omega)))))).but x8 hmb.symm; have b9 : Blk H9 b #[.map (some mb), .int .i64 ((sizeT A : Int) + ((BB.length : Int) - (oldF A q : Int)))] 68 := (by rw [hoF]; exact b9); rw [show (sizeT A : Int) + ((BB.length : Int) - (oldF A q : Int)) = (sizeT (putF (makeF A (lackF A q)) q (false, BB)) : Nat) by omega] at b9; exact ⟨rfl, ⟨m8.keep x9 hmb (fun x e _ => by subst e; exact .inl (oth_tree b8)), b9, fun x hx => Nat.lt_of_lt_of_le (h.low x hx) o9.size⟩, o9⟩)
      · rw [decide_eq_false hrm] at hroom
        have hw : writeP A q BB = (A, 55) := by
          unfold writeP
          rw [if_neg (by rw [not_or]; exact ⟨hd, hf⟩), if_pos (by omega)]
        rw [hw]
        refine Vc.CallH.body Tryd.func42 Tryd.call42 rfl (by decide +kernel) rfl ?_
        ((conv => whnf); repeat (any_goals (first | ((refine (hcl _).mono ?_; rintro _ H1 ⟨rfl, hx1⟩; have hz1 := hx1.size); (conv => whnf)) | ((refine (hat _ (by (repeat (first | assumption | exact Vc.Ext.refl _ | ((with_reducible apply Vc.Ext.trans); (case k => assumption)) | ((with_reducible apply Vc.Ext.but); (case k => assumption); (case hb => omega)))))).mono ?_; rintro v2 H2 ⟨hv2, hx2⟩; have hz2 := hx2.size; obtain rfl := hv2); (conv => whnf)) | ((refine (hah _ (by (repeat (first | assumption | exact Vc.Ext.refl _ | ((with_reducible apply Vc.Ext.trans); (case k => assumption)) | ((with_reducible apply Vc.Ext.but); (case k => assumption); (case hb => omega)))))).mono ?_; rintro _ H3 ⟨⟨a3, c3, rfl, ho3⟩, hx3⟩; have hz3 := hx3.size); (conv => whnf)) | ((refine (hroom _ (by (repeat (first | assumption | exact Vc.Ext.refl _ | ((with_reducible apply Vc.Ext.trans); (case k => assumption)) | ((with_reducible apply Vc.Ext.but); (case k => assumption); (case hb => omega)))))).mono ?_; rintro _ _ ⟨rfl, rfl⟩); (conv => whnf)) | (refine Vc.stp ?_; intros; (conv => whnf)) | (refine Vc.spl ?_ ?_ <;> (intro _; (conv => whnf))))))
        exact Did.none h (by (repeat (first | assumption | exact Vc.Ext.refl _ | ((with_reducible apply Vc.Ext.trans); (case k => assumption)) | ((with_reducible apply Vc.Ext.but); (case k => assumption); (case hb => omega))))) _
  | some nd =>
    obtain ⟨dir, old⟩ := nd
    have hdir : dir = false := by
      cases dir with
      | false => rfl
      | true => exact absurd ((dir_node A q).2 ⟨old, node_some hg hqn⟩) hd
    subst hdir
    rw [node_some hg hqn] at hat
    obtain ⟨hl0, hf0⟩ := lack_nil hA hg
    have hf : ¬ fileF A q = true := by rw [hf0]; simp
    unfold AheadV at hah
    simp only [if_neg hf] at hah
    rw [hl0] at hah
    have hoF : oldF A q = old.length := by unfold oldF; rw [hg]
    have hmF : moreF A q = 0 := by unfold moreF; rw [hg]; simp
    have hol := (hA.file q _ hg).1
    have hos := old_le A q
    dsimp only at hol
    have hAc := hA.count
    have e00 : ([] : List Txt).length = 0 := rfl
    have hAs := hA.size
    cases more with
    | false =>
      have hnb : newB A q BB false = BB := rfl
      rw [hnb]
      by_cases hbig : 65536 < BB.length
      · have hw : writeP A q BB = (A, 55) := by unfold writeP; rw [if_neg (by rw [not_or]; exact ⟨hd, hf⟩), if_pos (.inl hbig)]
        rw [hw]
        refine Vc.CallH.body Tryd.func42 Tryd.call42 rfl (by decide +kernel) rfl ?_
        ((conv => whnf); repeat (any_goals (first | ((refine (hcl _).mono ?_; rintro _ H1 ⟨rfl, hx1⟩; have hz1 := hx1.size); (conv => whnf)) | ((refine (hat _ (by (repeat (first | assumption | exact Vc.Ext.refl _ | ((with_reducible apply Vc.Ext.trans); (case k => assumption)) | ((with_reducible apply Vc.Ext.but); (case k => assumption); (case hb => omega)))))).mono ?_; rintro v2 H2 ⟨hv2, hx2⟩; have hz2 := hx2.size; obtain ⟨g2, a2, c2, rfl, hb2, hr2⟩ := NodeO.out hv2; dsimp only at hb2 hr2); (conv => whnf)) | ((refine (hah _ (by (repeat (first | assumption | exact Vc.Ext.refl _ | ((with_reducible apply Vc.Ext.trans); (case k => assumption)) | ((with_reducible apply Vc.Ext.but); (case k => assumption); (case hb => omega)))))).mono ?_; rintro _ H3 ⟨⟨a3, c3, rfl, ho3⟩, hx3⟩; have hz3 := hx3.size); (conv => whnf)) | (refine Vc.stp ?_; intros; (conv => whnf)) | (refine Vc.spl ?_ ?_ <;> (intro _; (conv => whnf))))))
        exact Did.none h (by (repeat (first | assumption | exact Vc.Ext.refl _ | ((with_reducible apply Vc.Ext.trans); (case k => assumption)) | ((with_reducible apply Vc.Ext.but); (case k => assumption); (case hb => omega))))) _
      have hroom := fun H' (k : Ext H H') => room_any (h.ext k) hA.sorted (by omega) (by omega) 0 ((BB.length : Int) - old.length) (by omega) (by omega)
      by_cases hrm : 0 + A.length ≤ 500 ∧ (BB.length : Int) - old.length + sizeT A ≤ 1048576
      · rw [decide_eq_true hrm] at hroom
        have hw : writeP A q BB = (putF (makeF A (lackF A q)) q (false, BB), 0) := by
          unfold writeP
          rw [if_neg (by rw [not_or]; exact ⟨hd, hf⟩), if_neg (by rw [not_or, not_or]; omega)]
        rw [hw]
        have hws := write_size hA hq BB
        rw [hl0] at hws ⊢
        refine Vc.CallH.body Tryd.func42 Tryd.call42 rfl (by decide +kernel) rfl ?_
        ((conv => whnf); repeat (any_goals (first | ((refine (hcl _).mono ?_; rintro _ H1 ⟨rfl, hx1⟩; have hz1 := hx1.size); (conv => whnf)) | ((refine (hat _ (by (repeat (first | assumption | exact Vc.Ext.refl _ | ((with_reducible apply Vc.Ext.trans); (case k => assumption)) | ((with_reducible apply Vc.Ext.but); (case k => assumption); (case hb => omega)))))).mono ?_; rintro v2 H2 ⟨hv2, hx2⟩; have hz2 := hx2.size; obtain ⟨g2, a2, c2, rfl, hb2, hr2⟩ := NodeO.out hv2; dsimp only at hb2 hr2); (conv => whnf)) | ((refine (hah _ (by (repeat (first | assumption | exact Vc.Ext.refl _ | ((with_reducible apply Vc.Ext.trans); (case k => assumption)) | ((with_reducible apply Vc.Ext.but); (case k => assumption); (case hb => omega)))))).mono ?_; rintro _ H3 ⟨⟨a3, c3, rfl, ho3⟩, hx3⟩; have hz3 := hx3.size); (conv => whnf)) | ((refine (hroom _ (by (repeat (first | assumption | exact Vc.Ext.refl _ | ((with_reducible apply Vc.Ext.trans); (case k => assumption)) | ((with_reducible apply Vc.Ext.but); (case k => assumption); (case hb => omega)))))).mono ?_; rintro _ _ ⟨rfl, rfl⟩); (conv => whnf)) | ((refine (make_any (h.blk.ext (by (repeat (first | assumption | exact Vc.Ext.refl _ | ((with_reducible apply Vc.Ext.trans); (case k => assumption)) | ((with_reducible apply Vc.Ext.but); (case k => assumption); (case hb => omega)))))) (h.map.ext (by (repeat (first | assumption | exact Vc.Ext.refl _ | ((with_reducible apply Vc.Ext.trans); (case k => assumption)) | ((with_reducible apply Vc.Ext.but); (case k => assumption); (case hb => omega)))))) [] a3 0 c3 (Row.nil _ _) rfl (by omega)).mono ?_; rintro _ H5 ⟨rfl, hm5, hx5⟩; have hz5 := hx5.size; have hx03 := (show Ext H H3 by (repeat (first | assumption | exact Vc.Ext.refl _ | ((with_reducible apply Vc.Ext.trans); (case k => assumption)) | ((with_reducible apply Vc.Ext.but); (case k => assumption); (case hb => omega))))); have hb5 := (h.blk.ext hx03).but hx5 hmb.symm; have hr5 := (hr.ext hx03).bytes hx5 (fun x e _ => by subst e; exact (h.map.ext hx03).oth.dumb)); (conv => whnf)) | ((refine (clone_any _ _ _ _ _ (hr5.ext (by (repeat (first | assumption | exact Vc.Ext.refl _ | ((with_reducible apply Vc.Ext.trans); (case k => assumption)) | ((with_reducible apply Vc.Ext.but); (case k => assumption); (case hb => omega)))))) rfl (by omega)).mono ?_; rintro _ H6 ⟨⟨a6, c6, rfl, ho6⟩, hx6⟩; have hz6 := hx6.size); (conv => whnf)) | ((refine PureH.build #[.bool false, .slice a6 BB.length c6] (by kernel_rfl) ?_); (conv => whnf)) | (((with_reducible apply treePut (n := (false, BB))); (focus ((exact hm5.ext (by (repeat (first | assumption | exact Vc.Ext.refl _ | ((with_reducible apply Vc.Ext.trans); (case k => assumption)) | ((with_reducible apply Vc.Ext.but); (case k => assumption); (case hb => omega)))))))); (focus ((exact .mk1 (by assumption) (ho6.row.ext (by assumption)) fun _ p hp hz => absurd (ho6.block p hp).1 (by have := h.low _ hz; omega)))); (focus (rfl)); (focus (rfl)); (focus ((intro H8 z8 m8 x8; (conv => whnf))))); (conv => whnf)) | (((with_reducible refine Vc.DrawH.held [0, 1, 2, 3, 4, 5, 6, 7, 8, 9] [(6, [3]), (8, [3])] mixed (by decide +kernel) ?_)); (conv => whnf)) | (refine Vc.stp ?_; intros; (conv => whnf)) | (refine Vc.spl ?_ ?_ <;> (intro _; (conv => whnf))))))
        (rename_i H7 z7 b7 x7 H9 z9 b9 x9; have o9 : ButT b mb H H9 := (((hx03.only.trans hx5 fun _ _ e => .inr e).ext (show Ext H5 H7 by (repeat (first | assumption | exact Vc.Ext.refl _ | ((with_reducible apply Vc.Ext.trans); (case k => assumption)) | ((with_reducible apply Vc.Ext.but); (case k => assumption); (case hb => omega)))))).trans x8 fun _ _ e => .inr e).trans x9 fun _ _ e => .inl e; have b8 := (hb5.ext (show Ext H5 H7 by (repeat (first | assumption | exact Vc.Ext.refl _ | ((with_reducible apply Vc.Ext.trans); (case k => assumption)) | ((with_reducible apply Vc.Ext.but); (case k => assumption); (case hb => omega)))))).but x8 hmb.symm; have b9 : Blk H9 b #[.map (some mb), .int .i64 ((sizeT A : Int) + ((BB.length : Int) - (oldF A q : Int)))] 68 := (by rw [hoF]; exact b9); rw [show (sizeT A : Int) + ((BB.length : Int) - (oldF A q : Int)) = (sizeT (putF (makeF A []) q (false, BB)) : Nat) by omega] at b9; exact ⟨rfl, ⟨m8.keep x9 hmb (fun x e _ => by subst e; exact .inl (oth_tree b8)), b9, fun x hx => Nat.lt_of_lt_of_le (h.low x hx) o9.size⟩, o9⟩)
      · rw [decide_eq_false hrm] at hroom
        have hw : writeP A q BB = (A, 55) := by
          unfold writeP
          rw [if_neg (by rw [not_or]; exact ⟨hd, hf⟩), if_pos (by omega)]
        rw [hw]
        refine Vc.CallH.body Tryd.func42 Tryd.call42 rfl (by decide +kernel) rfl ?_
        ((conv => whnf); repeat (any_goals (first | ((refine (hcl _).mono ?_; rintro _ H1 ⟨rfl, hx1⟩; have hz1 := hx1.size); (conv => whnf)) | ((refine (hat _ (by (repeat (first | assumption | exact Vc.Ext.refl _ | ((with_reducible apply Vc.Ext.trans); (case k => assumption)) | ((with_reducible apply Vc.Ext.but); (case k => assumption); (case hb => omega)))))).mono ?_; rintro v2 H2 ⟨hv2, hx2⟩; have hz2 := hx2.size; obtain ⟨g2, a2, c2, rfl, hb2, hr2⟩ := NodeO.out hv2; dsimp only at hb2 hr2); (conv => whnf)) | ((refine (hah _ (by (repeat (first | assumption | exact Vc.Ext.refl _ | ((with_reducible apply Vc.Ext.trans); (case k => assumption)) | ((with_reducible apply Vc.Ext.but); (case k => assumption); (case hb => omega)))))).mono ?_; rintro _ H3 ⟨⟨a3, c3, rfl, ho3⟩, hx3⟩; have hz3 := hx3.size); (conv => whnf)) | ((refine (hroom _ (by (repeat (first | assumption | exact Vc.Ext.refl _ | ((with_reducible apply Vc.Ext.trans); (case k => assumption)) | ((with_reducible apply Vc.Ext.but); (case k => assumption); (case hb => omega)))))).mono ?_; rintro _ _ ⟨rfl, rfl⟩); (conv => whnf)) | (refine Vc.stp ?_; intros; (conv => whnf)) | (refine Vc.spl ?_ ?_ <;> (intro _; (conv => whnf))))))
        exact Did.none h (by (repeat (first | assumption | exact Vc.Ext.refl _ | ((with_reducible apply Vc.Ext.trans); (case k => assumption)) | ((with_reducible apply Vc.Ext.but); (case k => assumption); (case hb => omega))))) _
    | true =>
      have hnb : newB A q BB true = old ++ BB := by unfold newB bytesF; rw [hg]; rfl
      have hcat := fun H' a2 c2 g4 (hr2 : Row H' a2 (strV old)) (hr : Row H' a (strV BB)) (hb : Blk H' g4 #[.slice a2 old.length c2, .slice a BB.length cap] _) => concat_any old BB a2 a old.length BB.length c2 cap g4 H' hr2 hr rfl rfl (by omega) (by omega) hb
      rw [hnb]
      obtain ⟨CC, hCC⟩ : ∃ C, old ++ BB = C := ⟨_, rfl⟩
      have hCl : CC.length = old.length + BB.length := by rw [← hCC, List.length_append]
      rw [hCC] at hnb hcat ⊢
      rw [← hCl] at hcat
      by_cases hbig : 65536 < CC.length
      · have hw : writeP A q CC = (A, 55) := by unfold writeP; rw [if_neg (by rw [not_or]; exact ⟨hd, hf⟩), if_pos (.inl hbig)]
        rw [hw]
        refine Vc.CallH.body Tryd.func42 Tryd.call42 rfl (by decide +kernel) rfl ?_
        ((conv => whnf); repeat (any_goals (first | ((refine (hcl _).mono ?_; rintro _ H1 ⟨rfl, hx1⟩; have hz1 := hx1.size); (conv => whnf)) | ((refine (hat _ (by (repeat (first | assumption | exact Vc.Ext.refl _ | ((with_reducible apply Vc.Ext.trans); (case k => assumption)) | ((with_reducible apply Vc.Ext.but); (case k => assumption); (case hb => omega)))))).mono ?_; rintro v2 H2 ⟨hv2, hx2⟩; have hz2 := hx2.size; obtain ⟨g2, a2, c2, rfl, hb2, hr2⟩ := NodeO.out hv2; dsimp only at hb2 hr2); (conv => whnf)) | ((refine (hah _ (by (repeat (first | assumption | exact Vc.Ext.refl _ | ((with_reducible apply Vc.Ext.trans); (case k => assumption)) | ((with_reducible apply Vc.Ext.but); (case k => assumption); (case hb => omega)))))).mono ?_; rintro _ H3 ⟨⟨a3, c3, rfl, ho3⟩, hx3⟩; have hz3 := hx3.size); (conv => whnf)) | ((refine (hcat _ a2 c2 _ (hr2.ext (by (repeat (first | assumption | exact Vc.Ext.refl _ | ((with_reducible apply Vc.Ext.trans); (case k => assumption)) | ((with_reducible apply Vc.Ext.but); (case k => assumption); (case hb => omega)))))) (hr.ext (by (repeat (first | assumption | exact Vc.Ext.refl _ | ((with_reducible apply Vc.Ext.trans); (case k => assumption)) | ((with_reducible apply Vc.Ext.but); (case k => assumption); (case hb => omega)))))) (by assumption)).mono ?_; rintro _ H4 ⟨⟨a4, c4, rfl, ho4⟩, hx4⟩; have hz4 := hx4.size); (conv => whnf)) | (refine Vc.stp ?_; intros; (conv => whnf)) | (refine Vc.spl ?_ ?_ <;> (intro _; (conv => whnf))))))
        exact Did.none h (by (repeat (first | assumption | exact Vc.Ext.refl _ | ((with_reducible apply Vc.Ext.trans); (case k => assumption)) | ((with_reducible apply Vc.Ext.but); (case k => assumption); (case hb => omega))))) _
      have hroom := fun H' (k : Ext H H') => room_any (h.ext k) hA.sorted (by omega) (by omega) 0 ((CC.length : Int) - old.length) (by omega) (by omega)
      by_cases hrm : 0 + A.length ≤ 500 ∧ (CC.length : Int) - old.length + sizeT A ≤ 1048576
      · rw [decide_eq_true hrm] at hroom
        have hw : writeP A q CC = (putF (makeF A (lackF A q)) q (false, CC), 0) := by
          unfold writeP
          rw [if_neg (by rw [not_or]; exact ⟨hd, hf⟩), if_neg (by rw [not_or, not_or]; omega)]
        rw [hw]
        have hws := write_size hA hq CC
        rw [hl0] at hws ⊢
        refine Vc.CallH.body Tryd.func42 Tryd.call42 rfl (by decide +kernel) rfl ?_
        ((conv => whnf); repeat (any_goals (first | ((refine (hcl _).mono ?_; rintro _ H1 ⟨rfl, hx1⟩; have hz1 := hx1.size); (conv => whnf)) | ((refine (hat _ (by (repeat (first | assumption | exact Vc.Ext.refl _ | ((with_reducible apply Vc.Ext.trans); (case k => assumption)) | ((with_reducible apply Vc.Ext.but); (case k => assumption); (case hb => omega)))))).mono ?_; rintro v2 H2 ⟨hv2, hx2⟩; have hz2 := hx2.size; obtain ⟨g2, a2, c2, rfl, hb2, hr2⟩ := NodeO.out hv2; dsimp only at hb2 hr2); (conv => whnf)) | ((refine (hah _ (by (repeat (first | assumption | exact Vc.Ext.refl _ | ((with_reducible apply Vc.Ext.trans); (case k => assumption)) | ((with_reducible apply Vc.Ext.but); (case k => assumption); (case hb => omega)))))).mono ?_; rintro _ H3 ⟨⟨a3, c3, rfl, ho3⟩, hx3⟩; have hz3 := hx3.size); (conv => whnf)) | ((refine (hcat _ a2 c2 _ (hr2.ext (by (repeat (first | assumption | exact Vc.Ext.refl _ | ((with_reducible apply Vc.Ext.trans); (case k => assumption)) | ((with_reducible apply Vc.Ext.but); (case k => assumption); (case hb => omega)))))) (hr.ext (by (repeat (first | assumption | exact Vc.Ext.refl _ | ((with_reducible apply Vc.Ext.trans); (case k => assumption)) | ((with_reducible apply Vc.Ext.but); (case k => assumption); (case hb => omega)))))) (by assumption)).mono ?_; rintro _ H4 ⟨⟨a4, c4, rfl, ho4⟩, hx4⟩; have hz4 := hx4.size); (conv => whnf)) | ((refine (hroom _ (by (repeat (first | assumption | exact Vc.Ext.refl _ | ((with_reducible apply Vc.Ext.trans); (case k => assumption)) | ((with_reducible apply Vc.Ext.but); (case k => assumption); (case hb => omega)))))).mono ?_; rintro _ _ ⟨rfl, rfl⟩); (conv => whnf)) | ((refine (make_any (h.blk.ext (by (repeat (first | assumption | exact Vc.Ext.refl _ | ((with_reducible apply Vc.Ext.trans); (case k => assumption)) | ((with_reducible apply Vc.Ext.but); (case k => assumption); (case hb => omega)))))) (h.map.ext (by (repeat (first | assumption | exact Vc.Ext.refl _ | ((with_reducible apply Vc.Ext.trans); (case k => assumption)) | ((with_reducible apply Vc.Ext.but); (case k => assumption); (case hb => omega)))))) [] a3 0 c3 (Row.nil _ _) rfl (by omega)).mono ?_; rintro _ H5 ⟨rfl, hm5, hx5⟩; have hz5 := hx5.size; have hx03 := (show Ext H H4 by (repeat (first | assumption | exact Vc.Ext.refl _ | ((with_reducible apply Vc.Ext.trans); (case k => assumption)) | ((with_reducible apply Vc.Ext.but); (case k => assumption); (case hb => omega))))); have hb5 := (h.blk.ext hx03).but hx5 hmb.symm; have hr5 := ho4.row.bytes hx5 (fun x e _ => by subst e; exact (h.map.ext hx03).oth.dumb)); (conv => whnf)) | ((refine (clone_any _ _ _ _ _ (hr5.ext (by (repeat (first | assumption | exact Vc.Ext.refl _ | ((with_reducible apply Vc.Ext.trans); (case k => assumption)) | ((with_reducible apply Vc.Ext.but); (case k => assumption); (case hb => omega)))))) rfl (by omega)).mono ?_; rintro _ H6 ⟨⟨a6, c6, rfl, ho6⟩, hx6⟩; have hz6 := hx6.size); (conv => whnf)) | ((refine PureH.build #[.bool false, .slice a6 CC.length c6] (by kernel_rfl) ?_); (conv => whnf)) | (((with_reducible apply treePut (n := (false, CC))); (focus ((exact hm5.ext (by (repeat (first | assumption | exact Vc.Ext.refl _ | ((with_reducible apply Vc.Ext.trans); (case k => assumption)) | ((with_reducible apply Vc.Ext.but); (case k => assumption); (case hb => omega)))))))); (focus ((exact .mk1 (by assumption) (ho6.row.ext (by assumption)) fun _ p hp hz => absurd (ho6.block p hp).1 (by have := h.low _ hz; omega)))); (focus (rfl)); (focus (rfl)); (focus ((intro H8 z8 m8 x8; (conv => whnf))))); (conv => whnf)) | (((with_reducible refine Vc.DrawH.held [0, 1, 2, 3, 4, 5, 6, 7, 8, 9] [(6, [3]), (8, [3])] mixed (by decide +kernel) ?_)); (conv => whnf)) | (refine Vc.stp ?_; intros; (conv => whnf)) | (refine Vc.spl ?_ ?_ <;> (intro _; (conv => whnf))))))
        (rename_i H7 z7 b7 x7 H9 z9 b9 x9; have o9 : ButT b mb H H9 := (((hx03.only.trans hx5 fun _ _ e => .inr e).ext (show Ext H5 H7 by (repeat (first | assumption | exact Vc.Ext.refl _ | ((with_reducible apply Vc.Ext.trans); (case k => assumption)) | ((with_reducible apply Vc.Ext.but); (case k => assumption); (case hb => omega)))))).trans x8 fun _ _ e => .inr e).trans x9 fun _ _ e => .inl e; have b8 := (hb5.ext (show Ext H5 H7 by (repeat (first | assumption | exact Vc.Ext.refl _ | ((with_reducible apply Vc.Ext.trans); (case k => assumption)) | ((with_reducible apply Vc.Ext.but); (case k => assumption); (case hb => omega)))))).but x8 hmb.symm; have b9 : Blk H9 b #[.map (some mb), .int .i64 ((sizeT A : Int) + ((CC.length : Int) - (oldF A q : Int)))] 68 := (by rw [hoF]; exact b9); rw [show (sizeT A : Int) + ((CC.length : Int) - (oldF A q : Int)) = (sizeT (putF (makeF A []) q (false, CC)) : Nat) by omega] at b9; exact ⟨rfl, ⟨m8.keep x9 hmb (fun x e _ => by subst e; exact .inl (oth_tree b8)), b9, fun x hx => Nat.lt_of_lt_of_le (h.low x hx) o9.size⟩, o9⟩)
      · rw [decide_eq_false hrm] at hroom
        have hw : writeP A q CC = (A, 55) := by
          unfold writeP
          rw [if_neg (by rw [not_or]; exact ⟨hd, hf⟩), if_pos (by omega)]
        rw [hw]
        refine Vc.CallH.body Tryd.func42 Tryd.call42 rfl (by decide +kernel) rfl ?_
        ((conv => whnf); repeat (any_goals (first | ((refine (hcl _).mono ?_; rintro _ H1 ⟨rfl, hx1⟩; have hz1 := hx1.size); (conv => whnf)) | ((refine (hat _ (by (repeat (first | assumption | exact Vc.Ext.refl _ | ((with_reducible apply Vc.Ext.trans); (case k => assumption)) | ((with_reducible apply Vc.Ext.but); (case k => assumption); (case hb => omega)))))).mono ?_; rintro v2 H2 ⟨hv2, hx2⟩; have hz2 := hx2.size; obtain ⟨g2, a2, c2, rfl, hb2, hr2⟩ := NodeO.out hv2; dsimp only at hb2 hr2); (conv => whnf)) | ((refine (hah _ (by (repeat (first | assumption | exact Vc.Ext.refl _ | ((with_reducible apply Vc.Ext.trans); (case k => assumption)) | ((with_reducible apply Vc.Ext.but); (case k => assumption); (case hb => omega)))))).mono ?_; rintro _ H3 ⟨⟨a3, c3, rfl, ho3⟩, hx3⟩; have hz3 := hx3.size); (conv => whnf)) | ((refine (hcat _ a2 c2 _ (hr2.ext (by (repeat (first | assumption | exact Vc.Ext.refl _ | ((with_reducible apply Vc.Ext.trans); (case k => assumption)) | ((with_reducible apply Vc.Ext.but); (case k => assumption); (case hb => omega)))))) (hr.ext (by (repeat (first | assumption | exact Vc.Ext.refl _ | ((with_reducible apply Vc.Ext.trans); (case k => assumption)) | ((with_reducible apply Vc.Ext.but); (case k => assumption); (case hb => omega)))))) (by assumption)).mono ?_; rintro _ H4 ⟨⟨a4, c4, rfl, ho4⟩, hx4⟩; have hz4 := hx4.size); (conv => whnf)) | ((refine (hroom _ (by (repeat (first | assumption | exact Vc.Ext.refl _ | ((with_reducible apply Vc.Ext.trans); (case k => assumption)) | ((with_reducible apply Vc.Ext.but); (case k => assumption); (case hb => omega)))))).mono ?_; rintro _ _ ⟨rfl, rfl⟩); (conv => whnf)) | (refine Vc.stp ?_; intros; (conv => whnf)) | (refine Vc.spl ?_ ?_ <;> (intro _; (conv => whnf))))))
        exact Did.none h (by (repeat (first | assumption | exact Vc.Ext.refl _ | ((with_reducible apply Vc.Ext.trans); (case k => assumption)) | ((with_reducible apply Vc.Ext.but); (case k => assumption); (case hb => omega))))) _
end Go.Proofs.YtjcmcmogbkdjcaaDoor
/- Trees of files, the code: its exported functions of one path. -/
namespace Go.Tre
open Go.Pth Go.Scr
open Go.Vc (mget mput mdel mget_put mget_mem mget_of_mem mget_none)
theorem append_cut (A : Tr) (s b : Txt) (h : 65536 < b.length) : appendF A s (b.take 65537) = appendF A s b := by
  have hl : (b.take 65537).length = 65537 := by rw [List.length_take]; omega
  have key : ∀ q x c, 65536 < c.length → writeP A q (x ++ c) = if dirF A q = true ∨ fileF A q = true then (A, 54) else (A, 55) := by
    intro q x c hc
    unfold writeP
    split
    · rfl
    · rw [if_pos (.inl (by rw [List.length_append]; omega))]
  unfold appendF
  rw [key _ _ _ (by omega), key _ _ _ h]
end Go.Tre
namespace Go.Proofs.YtjcmcmogbkdjcaaDoor
open Go Go.Vc Go.Scr Go.Pth Go.Tre
variable {Z : Nat → Prop}
theorem write_any {b mb : Nat} {A : Tr} {H : Heap} (h : TreeO Z H b mb A) (hA : Okay A) (p bs : Bs) (a : Option Addr) (n cap : Nat) (hr : Row H a (strV bs)) (hn : bs.length = n) (hm : n ≤ 10000000000) :
    CallH Tryd.prog 25 [.pointer (some ⟨b, 0, none⟩), .string (mkS p), .slice a n cap] H fun v H' => Did Z H H' b mb v (writeF A p bs) := by
  have hp := put_any h hA p bs a n cap false hr hn hm
  rw [putR_write] at hp
  refine Vc.CallH.body Tryd.func25 Tryd.call25 rfl (by decide +kernel) rfl ?_
  ((conv => whnf); repeat (any_goals (first | ((refine hp.mono ?_; rintro v2 H2 hd; obtain rfl := hd.code); (conv => whnf)) | (refine Vc.stp ?_; intros; (conv => whnf)) | (refine Vc.spl ?_ ?_ <;> (intro _; (conv => whnf))))))
  exact hd
end Go.Proofs.YtjcmcmogbkdjcaaDoor
/- Sorted rows, by the kit's contract. -/
namespace Go.Vc
theorem own_holds {w : World} {base g n cap k : Nat} {e : TypeId} {xs : List Value} (h : Own w.heap base e k (some ⟨g, 0, none⟩) n cap xs) : Go.Sort.Holds id w g 0 xs.toArray := by
  intro j hj
  have hj' : j < xs.length := by simpa using hj
  have hlen := h.len
  rcases h.out with ⟨h1, _⟩ | ⟨g', cur, h1, hb, hg, hnc, hmc, hcs, htake⟩
  · cases h1
  · cases h1
    obtain ⟨fr, hg1, hg2⟩ := hg.out
    have hjc : j < cur.size := by rw [hcs]; have := Nat.mul_le_mul_right k hnc; omega
    have hget : cur[j]? = some xs[j] := by
      have := congrArg (·[j]?) htake
      simp only [List.getElem?_take, if_pos (show j < n * k by omega), Array.getElem?_toList] at this
      rw [this, List.getElem?_eq_getElem hj']
    have hid : xs.toArray[j]! = xs[j] := by simp [hj']
    rw [Nat.zero_add]
    constructor
    · rw [hid]; simp [World.cell?, hg1, hget]
    · obtain ⟨lo, hi⟩ := fr
      simp only [World.frozen?, hg1]
      rcases hg2 with h2 | h2
      · simp only [Bool.and_eq_false_iff, decide_eq_false_iff_not]; dsimp only at h2 ⊢; omega
      · simp only [Bool.and_eq_false_iff, decide_eq_false_iff_not]; dsimp only at h2 ⊢; omega
theorem put_cells (ys : List Value) (cur : Array Value) (j : Nat) : (Go.Sort.putCells id 0 ys.toArray cur)[j]? = if j < cur.size then (if j < ys.length then ys[j]? else cur[j]?) else none := by
  unfold Go.Sort.putCells
  rw [Array.getElem?_mapIdx]
  by_cases hj : j < cur.size
  · rw [if_pos hj, Array.getElem?_eq_getElem hj, Option.map_some]
    by_cases h2 : j < ys.length
    · rw [if_pos ⟨Nat.zero_le _, by simpa using h2⟩, if_pos h2, List.getElem?_eq_getElem h2]; simp [h2]
    · rw [if_neg (by simp; omega), if_neg h2]
  · rw [if_neg hj, Array.getElem?_eq_none (by omega)]; rfl
theorem own_put {w : World} {base g n cap k : Nat} {e : TypeId} {xs ys : List Value} (h : Own w.heap base e k (some ⟨g, 0, none⟩) n cap xs) (hl : ys.length = xs.length) (m : Nat) (os : Array Obj) :
    Own (Go.Sort.grow (Go.Sort.putRow id (Go.Sort.ahead w m) g 0 ys.toArray) os).heap base e k (some ⟨g, 0, none⟩) n cap ys ∧ Wr (some ⟨g, 0, none⟩) w.heap (Go.Sort.grow (Go.Sort.putRow id (Go.Sort.ahead w m) g 0 ys.toArray) os).heap := by
  have hlen := h.len
  obtain ⟨W, hW⟩ : ∃ W : Heap, (Go.Sort.grow (Go.Sort.putRow id (Go.Sort.ahead w m) g 0 ys.toArray) os).heap = W := ⟨_, rfl⟩
  have hWd : W = w.heap.modify g (Go.Sort.onCells (Go.Sort.putCells id 0 ys.toArray)) ++ os := hW.symm
  rw [hW]
  have hsz : w.heap.size ≤ W.size := by rw [hWd]; simp
  have hsame : ∀ b, b < w.heap.size → W[b]? = if g = b then (w.heap[b]?).map (Go.Sort.onCells (Go.Sort.putCells id 0 ys.toArray)) else w.heap[b]? := fun b hb => by
    rw [hWd, Array.getElem?_append_left (by simpa using hb), Array.getElem?_modify]
  rcases h.out with ⟨h1, _⟩ | ⟨g', cur, h1, hb, hg, hnc, hmc, hcs, htake⟩
  · cases h1
  · cases h1
    obtain ⟨fr, hg1, hg2⟩ := hg.out
    have hlt := hg.lt
    refine ⟨⟨by rw [hl]; exact hlen, .inr ⟨g, Go.Sort.putCells id 0 ys.toArray cur, rfl, hb, ⟨fr, ?_, ?_⟩, hnc, hmc, ?_, ?_⟩⟩, hsz, fun b hb hF => ?_⟩
    · rw [hsame g hlt, if_pos rfl, hg1]; rfl
    · have : (Go.Sort.putCells id 0 ys.toArray cur).size = cur.size := by simp [Go.Sort.putCells]
      rw [this]; exact hg2
    · have : (Go.Sort.putCells id 0 ys.toArray cur).size = cur.size := by simp [Go.Sort.putCells]
      rw [this]; exact hcs
    · apply List.ext_getElem?
      intro j
      rw [List.getElem?_take, Array.getElem?_toList, put_cells]
      have hnk := Nat.mul_le_mul_right k hnc
      by_cases hj : j < n * k
      · rw [if_pos hj, if_pos (by omega), if_pos (by omega)]
      · rw [if_neg hj, List.getElem?_eq_none (by omega)]
    · rw [hsame b hb, if_neg fun e => hF ⟨_, rfl, e⟩]
end Go.Vc
namespace Go.Proofs.YtjcmcmogbkdjcaaDoor
open Go Go.Vc Go.Scr
theorem put_map {α : Type} [Inhabited α] (enc : α → Value) (w : World) (g : Nat) (d : List α) : Go.Sort.putRow enc w g 0 d.toArray = Go.Sort.putRow id w g 0 (d.map enc).toArray := by
  unfold Go.Sort.putRow
  refine Go.Sort.mapBlock_congr w g _ _ fun c _ _ _ => ?_
  unfold Go.Sort.putCells
  congr 1
  funext k x
  by_cases h : k < d.length
  · rw [if_pos (by simpa using h), if_pos (by simpa using h)]; simp [h]
  · rw [if_neg (by simpa using h), if_neg (by simpa using h)]
theorem holds_map {α : Type} [Inhabited α] (enc : α → Value) (w : World) (g : Nat) (d : List α) (h : Go.Sort.Holds id w g 0 (d.map enc).toArray) : Go.Sort.Holds enc w g 0 d.toArray := by
  intro j hj
  have hj' : j < d.length := by simpa using hj
  have := h j (by simpa using hj')
  have e : enc d.toArray[j]! = id (d.map enc).toArray[j]! := by simp [hj']
  rw [e]; exact this
end Go.Proofs.YtjcmcmogbkdjcaaDoor
/- Trees of files, the code: directories; what is at or below a path; what is taken away. -/
namespace Go.Tre
open Go.Pth Go.Scr
open Go.Vc (mget mput mdel mget_put mget_mem mget_of_mem mget_none)
theorem makeF_rev1 {A : Tr} (h : Sorted A) (l : List Txt) (p : Txt) : makeF A (l.reverse ++ [p]) = makeF A (l ++ [p]) := makeF_same h fun x => by simp
/-- some paths less -/
def dropT (A : Tr) (l : List Txt) : Tr := A.filter fun x => !(l.any fun k => k == x.1)
theorem dropT_nil (A : Tr) : dropT A [] = A := by simp [dropT]
theorem dropT_snoc (A : Tr) (l : List Txt) (k : Txt) : (dropT A l).filter (fun x => !(x.1 == k)) = dropT A (l ++ [k]) := by
  unfold dropT
  rw [List.filter_filter]
  congr 1; funext x
  rw [List.any_append, Bool.not_or, List.any_cons, List.any_nil, Bool.or_false]
  have : (x.1 == k) = (k == x.1) := by rw [Bool.eq_iff_iff, beq_iff_eq, beq_iff_eq]; exact eq_comm
  rw [this, Bool.and_comm]
theorem mget_dropT (A : Tr) (l : List Txt) (k : Txt) : mget (dropT A l) k = if k ∈ l then none else mget A k := by
  unfold dropT
  rw [mget_filter (fun x => !(l.any fun k => k == x))]
  by_cases h : k ∈ l
  · rw [if_pos h, if_neg]
    simp; exact h
  · rw [if_neg h, if_pos]
    simp; exact fun x hx e => h (e ▸ hx)
theorem dropT_sorted {A : Tr} (h : Sorted A) (l : List Txt) : Sorted (dropT A l) := List.Pairwise.sublist List.filter_sublist h
theorem del_size {A : Tr} (h : Sorted A) (k : Txt) : sizeT (A.filter fun x => !(x.1 == k)) + oldF A k = sizeT A := by
  induction A with
  | nil => simp [sizeT, oldF, mget]
  | cons x l ih =>
    have ih := ih (List.pairwise_cons.1 h).2
    have e1 : ∀ (y : Txt × Node) (m : Tr), sizeT (y :: m) = y.2.2.length + sizeT m := fun y m => by simp [sizeT]
    rw [List.filter_cons]
    by_cases hx : x.1 = k
    · rw [if_neg (by simp [hx]), e1]
      have e2 : oldF (x :: l) k = x.2.2.length := by unfold oldF; simp only [mget]; rw [if_pos hx.symm]
      have e3 : l.filter (fun x => !(x.1 == k)) = l := by
        rw [List.filter_eq_self]
        intro y hy
        have := lt_ne ((List.pairwise_cons.1 h).1 y hy)
        rw [hx] at this
        simp; exact fun e => this e.symm
      rw [e2, e3]; omega
    · rw [if_pos (by simpa using hx), e1, e1]
      have e2 : oldF (x :: l) k = oldF l k := by unfold oldF; simp only [mget]; rw [if_neg (fun e => hx e.symm)]
      rw [e2]; omega
theorem drop_all {A : Tr} {l : List Txt} {p : Txt} (h : ∀ k, k ∈ l ↔ k ∈ A.map (·.1) ∧ withinF k p = true) : dropT A l = A.filter fun x => !withinF x.1 p := by
  unfold dropT
  refine List.filter_congr fun x hx => ?_
  congr 1
  rw [Bool.eq_iff_iff, List.any_eq_true]
  constructor
  · rintro ⟨k, hk, e⟩
    rw [beq_iff_eq] at e; subst e
    exact ((h _).1 hk).2
  · intro hw
    exact ⟨x.1, (h _).2 ⟨List.mem_map_of_mem hx, hw⟩, by simp⟩
end Go.Tre
namespace Go.Proofs.YtjcmcmogbkdjcaaDoor
open Go Go.Vc Go.Scr Go.Pth Go.Tre
variable {Z : Nat → Prop}
theorem mkdir_any {b mb : Nat} {A : Tr} {H : Heap} (h : TreeO Z H b mb A) (hA : Okay A) (p : Bs) : CallH Tryd.prog 24 [.pointer (some ⟨b, 0, none⟩), .string (mkS p)] H fun v H' => Did Z H H' b mb v (mkdirF A p) := by
  have hcl := fun H => clean_any p H
  have hmb := h.map.ne h.blk
  obtain ⟨hcode, hcn⟩ := clean_code p
  unfold mkdirF
  by_cases h0 : ¬ (cleanF p).2 = 0
  · rw [if_neg h0]
    have h0' : ¬ ((cleanF p).2 : Int) = 0 := by omega
    generalize cleanF p = c at *
    refine Vc.CallH.body Tryd.func24 Tryd.call24 rfl (by decide +kernel) rfl ?_
    ((conv => whnf); repeat (any_goals (first | ((refine (hcl _).mono ?_; rintro _ H1 ⟨rfl, hx1⟩; have hz1 := hx1.size); (conv => whnf)) | (refine Vc.stp ?_; intros; (conv => whnf)) | (refine Vc.spl ?_ ?_ <;> (intro _; (conv => whnf))))))
    exact Did.none h hx1 _
  have h0 : (cleanF p).2 = 0 := by omega
  rw [if_pos h0]
  have hq := clean_of h0
  obtain ⟨q, hqe⟩ : ∃ q, (cleanF p).1 = q := ⟨_, rfl⟩
  rw [h0, hqe] at hcl
  rw [hqe] at hq ⊢
  have hat := fun H' (k : Ext H H') => at_any (h.ext k) q
  unfold mkdirP
  by_cases hd : dirF A q = true
  · obtain ⟨t, ht⟩ := (dir_node A q).1 hd
    rw [ht] at hat
    rw [if_pos hd]
    refine Vc.CallH.body Tryd.func24 Tryd.call24 rfl (by decide +kernel) rfl ?_
    ((conv => whnf); repeat (any_goals (first | ((refine (hcl _).mono ?_; rintro _ H1 ⟨rfl, hx1⟩; have hz1 := hx1.size); (conv => whnf)) | ((refine (hat _ (by (repeat (first | assumption | exact Vc.Ext.refl _ | ((with_reducible apply Vc.Ext.trans); (case k => assumption)) | ((with_reducible apply Vc.Ext.but); (case k => assumption); (case hb => omega)))))).mono ?_; rintro v2 H2 ⟨hv2, hx2⟩; have hz2 := hx2.size; obtain ⟨g2, a2, c2, rfl, hb2, hr2⟩ := NodeO.out hv2; try dsimp only at hb2 hr2); (conv => whnf)) | (refine Vc.stp ?_; intros; (conv => whnf)) | (refine Vc.spl ?_ ?_ <;> (intro _; (conv => whnf))))))
    exact Did.none h (by (repeat (first | assumption | exact Vc.Ext.refl _ | ((with_reducible apply Vc.Ext.trans); (case k => assumption)) | ((with_reducible apply Vc.Ext.but); (case k => assumption); (case hb => omega))))) _
  rw [if_neg hd]
  have hqn : q ≠ [] := by rintro rfl; exact hd rfl
  have hah := fun H' (k : Ext H H') => ahead_any (h.ext k) hq
  unfold AheadV at hah
  cases hg : mget A q with
  | some nd =>
    obtain ⟨dir, old⟩ := nd
    have hdir : dir = false := by
      cases dir with
      | false => rfl
      | true => exact absurd ((dir_node A q).2 ⟨old, node_some hg hqn⟩) hd
    subst hdir
    rw [node_some hg hqn] at hat
    rw [if_pos (.inl rfl)]
    refine Vc.CallH.body Tryd.func24 Tryd.call24 rfl (by decide +kernel) rfl ?_
    ((conv => whnf); repeat (any_goals (first | ((refine (hcl _).mono ?_; rintro _ H1 ⟨rfl, hx1⟩; have hz1 := hx1.size); (conv => whnf)) | ((refine (hat _ (by (repeat (first | assumption | exact Vc.Ext.refl _ | ((with_reducible apply Vc.Ext.trans); (case k => assumption)) | ((with_reducible apply Vc.Ext.but); (case k => assumption); (case hb => omega)))))).mono ?_; rintro v2 H2 ⟨hv2, hx2⟩; have hz2 := hx2.size; obtain ⟨g2, a2, c2, rfl, hb2, hr2⟩ := NodeO.out hv2; try dsimp only at hb2 hr2); (conv => whnf)) | (refine Vc.stp ?_; intros; (conv => whnf)) | (refine Vc.spl ?_ ?_ <;> (intro _; (conv => whnf))))))
    exact Did.none h (by (repeat (first | assumption | exact Vc.Ext.refl _ | ((with_reducible apply Vc.Ext.trans); (case k => assumption)) | ((with_reducible apply Vc.Ext.but); (case k => assumption); (case hb => omega))))) _
  | none =>
    rw [node_none hg hqn] at hat
    by_cases hf : fileF A q = true
    · simp only [if_pos hf] at hah
      rw [if_pos (.inr hf)]
      refine Vc.CallH.body Tryd.func24 Tryd.call24 rfl (by decide +kernel) rfl ?_
      ((conv => whnf); repeat (any_goals (first | ((refine (hcl _).mono ?_; rintro _ H1 ⟨rfl, hx1⟩; have hz1 := hx1.size); (conv => whnf)) | ((refine (hat _ (by (repeat (first | assumption | exact Vc.Ext.refl _ | ((with_reducible apply Vc.Ext.trans); (case k => assumption)) | ((with_reducible apply Vc.Ext.but); (case k => assumption); (case hb => omega)))))).mono ?_; rintro v2 H2 ⟨hv2, hx2⟩; have hz2 := hx2.size; obtain rfl := hv2); (conv => whnf)) | ((refine (hah _ (by (repeat (first | assumption | exact Vc.Ext.refl _ | ((with_reducible apply Vc.Ext.trans); (case k => assumption)) | ((with_reducible apply Vc.Ext.but); (case k => assumption); (case hb => omega)))))).mono ?_; rintro _ H3 ⟨rfl, hx3⟩; have hz3 := hx3.size); (conv => whnf)) | (refine Vc.stp ?_; intros; (conv => whnf)) | (refine Vc.spl ?_ ?_ <;> (intro _; (conv => whnf))))))
      exact Did.none h (by (repeat (first | assumption | exact Vc.Ext.refl _ | ((with_reducible apply Vc.Ext.trans); (case k => assumption)) | ((with_reducible apply Vc.Ext.but); (case k => assumption); (case hb => omega))))) _
    simp only [if_neg hf] at hah
    rw [if_neg (by rw [not_or]; exact ⟨by simp, hf⟩)]
    have hlk : (lackF A q).length ≤ 12 := by
      have h1 : (lackF A q).length ≤ (pars q).length := List.length_filter_le _ _
      have h2 := hq.parts.deep
      rw [pars_len] at h1; omega
    have hAc := hA.count
    have hAs := hA.size
    have hroom := fun H' (k : Ext H H') => room_any (h.ext k) hA.sorted (by omega) (by omega) ((lackF A q).length + 1) 0 (by omega) (by omega)
    rw [show (((lackF A q).length + 1 : Nat) : Int) = ((lackF A q).length : Int) + 1 by omega] at hroom
    by_cases hrm : (lackF A q).length + 1 + A.length ≤ 500
    · rw [decide_eq_true ⟨hrm, by omega⟩] at hroom
      rw [if_neg (by omega)]
      refine Vc.CallH.body Tryd.func24 Tryd.call24 rfl (by decide +kernel) rfl ?_
      ((conv => whnf); repeat (any_goals (first | ((refine (hcl _).mono ?_; rintro _ H1 ⟨rfl, hx1⟩; have hz1 := hx1.size); (conv => whnf)) | ((refine (hat _ (by (repeat (first | assumption | exact Vc.Ext.refl _ | ((with_reducible apply Vc.Ext.trans); (case k => assumption)) | ((with_reducible apply Vc.Ext.but); (case k => assumption); (case hb => omega)))))).mono ?_; rintro v2 H2 ⟨hv2, hx2⟩; have hz2 := hx2.size; obtain rfl := hv2); (conv => whnf)) | ((refine (hah _ (by (repeat (first | assumption | exact Vc.Ext.refl _ | ((with_reducible apply Vc.Ext.trans); (case k => assumption)) | ((with_reducible apply Vc.Ext.but); (case k => assumption); (case hb => omega)))))).mono ?_; rintro _ H3 ⟨⟨a3, c3, rfl, ho3⟩, hx3⟩; have hz3 := hx3.size); (conv => whnf)) | ((refine (hroom _ (by (repeat (first | assumption | exact Vc.Ext.refl _ | ((with_reducible apply Vc.Ext.trans); (case k => assumption)) | ((with_reducible apply Vc.Ext.but); (case k => assumption); (case hb => omega)))))).mono ?_; rintro _ _ ⟨rfl, rfl⟩); (conv => whnf)) | ((refine NextH.push1b (by assumption) (ho3.ext (by assumption)) (by omega) (by omega) rfl ⟨_, rfl, fun _ h => by cases h⟩ rfl rfl rfl rfl rfl rfl rfl ?_; intro a6 c6 H6 ho6 hz6 hw6; have hx26 := (show Ext H2 H6 from (hx3.trans (by assumption)).wr (ho3.ext (by assumption)) (Nat.le_refl _) hw6)); (conv => whnf)) | ((refine (make_any (h.blk.ext (by (repeat (first | assumption | exact Vc.Ext.refl _ | ((with_reducible apply Vc.Ext.trans); (case k => assumption)) | ((with_reducible apply Vc.Ext.but); (case k => assumption); (case hb => omega)))))) (h.map.ext (by (repeat (first | assumption | exact Vc.Ext.refl _ | ((with_reducible apply Vc.Ext.trans); (case k => assumption)) | ((with_reducible apply Vc.Ext.but); (case k => assumption); (case hb => omega)))))) ((lackF A q).reverse ++ [q]) a6 _ c6 (by (have := ho6.row); rw [strs_append]; exact this) (by simp) (by omega)).mono ?_; rintro _ H7 ⟨rfl, hm7, hx7⟩; have hz7 := hx7.size); (conv => whnf)) | (refine Vc.stp ?_; intros; (conv => whnf)) | (refine Vc.spl ?_ ?_ <;> (intro _; (conv => whnf))))))
      have hx06 := (show Ext H H6 by (repeat (first | assumption | exact Vc.Ext.refl _ | ((with_reducible apply Vc.Ext.trans); (case k => assumption)) | ((with_reducible apply Vc.Ext.but); (case k => assumption); (case hb => omega)))))
      rw [makeF_rev1 hA.sorted] at hm7
      have hsz : sizeT (makeF A (lackF A q ++ [q])) = sizeT A := makeF_size hA.sorted fun d hd => by
        rcases List.mem_append.1 hd with hd | hd
        · exact (lack_none hd).2
        · rw [List.mem_singleton] at hd; subst hd; exact hg
      exact ⟨rfl, ⟨hm7, by rw [hsz]; exact (h.blk.ext hx06).but hx7 hmb.symm, fun x hx => Nat.lt_of_lt_of_le (h.low x hx) (Nat.le_trans hx06.size hx7.size)⟩, hx06.only.trans hx7 fun _ _ e => .inr e⟩
    · rw [decide_eq_false (fun e => hrm e.1)] at hroom
      rw [if_pos (by omega)]
      refine Vc.CallH.body Tryd.func24 Tryd.call24 rfl (by decide +kernel) rfl ?_
      ((conv => whnf); repeat (any_goals (first | ((refine (hcl _).mono ?_; rintro _ H1 ⟨rfl, hx1⟩; have hz1 := hx1.size); (conv => whnf)) | ((refine (hat _ (by (repeat (first | assumption | exact Vc.Ext.refl _ | ((with_reducible apply Vc.Ext.trans); (case k => assumption)) | ((with_reducible apply Vc.Ext.but); (case k => assumption); (case hb => omega)))))).mono ?_; rintro v2 H2 ⟨hv2, hx2⟩; have hz2 := hx2.size; obtain rfl := hv2); (conv => whnf)) | ((refine (hah _ (by (repeat (first | assumption | exact Vc.Ext.refl _ | ((with_reducible apply Vc.Ext.trans); (case k => assumption)) | ((with_reducible apply Vc.Ext.but); (case k => assumption); (case hb => omega)))))).mono ?_; rintro _ H3 ⟨⟨a3, c3, rfl, ho3⟩, hx3⟩; have hz3 := hx3.size); (conv => whnf)) | ((refine (hroom _ (by (repeat (first | assumption | exact Vc.Ext.refl _ | ((with_reducible apply Vc.Ext.trans); (case k => assumption)) | ((with_reducible apply Vc.Ext.but); (case k => assumption); (case hb => omega)))))).mono ?_; rintro _ _ ⟨rfl, rfl⟩); (conv => whnf)) | (refine Vc.stp ?_; intros; (conv => whnf)) | (refine Vc.spl ?_ ?_ <;> (intro _; (conv => whnf))))))
      exact Did.none h (by (repeat (first | assumption | exact Vc.Ext.refl _ | ((with_reducible apply Vc.Ext.trans); (case k => assumption)) | ((with_reducible apply Vc.Ext.but); (case k => assumption); (case hb => omega))))) _
end Go.Proofs.YtjcmcmogbkdjcaaDoor
/- Trees of files, the code: what is at or below a path; what is taken away. -/
namespace Go.Proofs.YtjcmcmogbkdjcaaDoor
open Go Go.Vc Go.Scr Go.Pth Go.Tre
variable {Z : Nat → Prop}
structure BlS where
  vis : List Bs
  a : Option Addr
  cap : Nat
theorem maps_keys {H : Heap} {A : Tr} {lm : List (Bs × Value)} (h2 : ∀ k, mget A k = none → mget lm k = none) (h3 : ∀ k n, mget A k = some n → ∃ v, mget lm k = some v ∧ NodeO Z H v n) (k : Bs) : k ∈ lm.map (·.1) ↔ k ∈ A.map (·.1) := by
  have e1 := mget_none (l := lm) (k := k)
  have e2 := mget_none (l := A) (k := k)
  constructor
  · intro h
    apply Classical.byContradiction
    intro hn
    exact e1.1 (h2 k (e2.2 hn)) h
  · intro h
    apply Classical.byContradiction
    intro hn
    cases hg : mget A k with
    | none => exact e2.1 hg h
    | some n => obtain ⟨v, hv, _⟩ := h3 k n hg; rw [e1.2 hn] at hv; cases hv
/-- what below answers -/
structure BelowV (H' : Heap) (base : Nat) (v : Value) (A : Tr) (p : Txt) (l : List Bs) (a : Option Addr) (cap : Nat) : Prop where
  val : v = .slice a l.length cap
  own : Own H' base 9 1 a l.length cap (strs l)
  nodup : l.Nodup
  mem : ∀ k, k ∈ l ↔ k ∈ A.map (·.1) ∧ withinF k p = true
  len : l.length ≤ A.length
end Go.Proofs.YtjcmcmogbkdjcaaDoor
