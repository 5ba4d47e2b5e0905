import Derived.Test.YtjcmcmogbkdjcaaDoorKd
import Derived.Shelf.SlGeneric
import Derived.Shelf.SlSortCmp.WholeK
import Derived.Ground.SlsfProg
import Derived.Test.YtjcmcmogbkdjcaaDoorProg
import Derived.Lib.Walk
import Derived.Laws.Cover1
set_option linter.unusedVariables false
set_option linter.unusedSimpArgs false
set_option maxRecDepth 100000
/- Trees of files, the code: what is to be done that one path be told under another. -/
namespace Go.Tre
open Go.Pth Go.Scr
open Go.Vc (mget mput mdel mget_put mget_mem mget_of_mem mget_none)
theorem walk_good (stay : Nat) : ∀ (xs l : List Txt), (∀ x ∈ xs, GoodP x) → walkF stay l xs = if 12 < (l ++ xs).length then ([], 50) else (l ++ xs, 0)
  | [], l, _ => by rw [walkF, List.append_nil]
  | x :: xs, l, hg => by
    have g := hg x (by simp)
    rw [walkF, if_neg (fun e => e.elim g.ne g.dot), if_neg g.dots, if_neg (by rw [g.ok]; simp), walk_good stay xs (l ++ [x]) (fun y hy => hg y (by simp [hy]))]
    simp
theorem clean_good {l : List Txt} (h : ∀ x ∈ l, GoodP x) : cleanF (glue l) = ([], 50) ∨ cleanF (glue l) = (glue l, 0) := by
  unfold cleanF joinP
  rw [if_pos (rfl : ([] : Txt) = []), Nat.zero_add]
  by_cases h1 : 200 < (glue l).length
  · rw [if_pos h1]; exact .inl rfl
  rw [if_neg h1, if_neg (no_head (p := []) h)]
  show (glue (walkF 0 [] (splitF 47 (glue l))).1, (walkF 0 [] (splitF 47 (glue l))).2) = _ ∨ (glue (walkF 0 [] (splitF 47 (glue l))).1, (walkF 0 [] (splitF 47 (glue l))).2) = _
  by_cases hn : l = []
  · subst hn; exact .inr rfl
  rw [split_glue (fun x hx => (h x hx).no) hn, walk_good 0 l [] h, List.nil_append]
  split
  · exact .inl rfl
  · exact .inr rfl
/-- what plan tells -/
def planF (A : Tr) (p q : Txt) : Nat :=
  if p ≠ [] ∧ mget A p = none then 52
  else if p = [] ∨ withinF q p = true then 54
  else if q = [] ∨ (mget A q).isSome = true then 53
  else if fileF A q = true then 54
  else if badM (movedF A p q) = true then 50 else 0
def toF (p q k : Txt) : Txt := q ++ k.drop p.length
theorem sum_old {A : Tr} (h : (A.map (·.1)).Nodup) (f : Txt → Bool) {l : List Txt} (hn : l.Nodup) (hm : ∀ k, k ∈ l ↔ k ∈ A.map (·.1) ∧ f k = true) : (l.map (oldF A)).sum = sizeT (A.filter fun x => f x.1) := by
  have hp : l.Perm ((A.filter fun x => f x.1).map (·.1)) := by
    refine (List.perm_ext_iff_of_nodup hn (List.Nodup.sublist (List.filter_sublist.map _) h)).2 fun k => ?_
    rw [hm, List.mem_map, List.mem_map]
    constructor
    · rintro ⟨⟨x, hx, rfl⟩, hf⟩; exact ⟨x, List.mem_filter.2 ⟨hx, hf⟩, rfl⟩
    · rintro ⟨x, hx, rfl⟩; exact ⟨⟨x, (List.mem_filter.1 hx).1, rfl⟩, (List.mem_filter.1 hx).2⟩
  rw [(hp.map (oldF A)).sum_nat]
  unfold sizeT
  rw [List.map_map]
  congr 1
  refine List.map_congr_left fun x hx => ?_
  show oldF A x.1 = _
  unfold oldF
  rw [mget_of_mem h (List.mem_filter.1 hx).1]
theorem moved_size (A : Tr) (p q : Txt) : sizeT (movedF A p q) = sizeT (A.filter fun x => withinF x.1 p) := by
  unfold movedF sizeT
  rw [List.map_map]; rfl
end Go.Tre
namespace Go.Proofs.YtjcmcmogbkdjcaaDoor
open Go Go.Vc Go.Scr Go.Pth Go.Tre
variable {Z : Nat → Prop}
/-- a move, planned -/
structure MoveV (H' : Heap) (mv : Value) (A : Tr) (p q : Txt) (L : List Bs) (fa ta la : Option Addr) (fc tc lc : Nat) : Prop where
  val : mv = .agg #[.slice fa L.length fc, .slice ta L.length tc, .slice la (lackF A q).length lc, .int .i64 (sizeT (movedF A p q))]
  fr : Row H' fa (strs L)
  to : Row H' ta (strs (L.map (toF p q)))
  lack : Row H' la (strs (lackF A q).reverse)
  nodup : L.Nodup
  mem : ∀ k, k ∈ L ↔ k ∈ A.map (·.1) ∧ withinF k p = true
  len : L.length ≤ A.length
/-- what plan answers -/
def PlanV (H' : Heap) (v : Value) (A : Tr) (p q : Txt) (c : Nat) : Prop :=
  ∃ mv, v = .tuple #[mv, .int .i64 c] ∧ (c ≠ 0 → mv = .agg #[.slice none 0 0, .slice none 0 0, .slice none 0 0, .int .i64 0]) ∧ (c = 0 → ∃ L fa ta la fc tc lc, MoveV H' mv A p q L fa ta la fc tc lc)
def planC (A : Tr) (s t : Txt) : Nat := if (cleanF s).2 = 0 then (if (cleanF t).2 = 0 then planF A (cleanF s).1 (cleanF t).1 else (cleanF t).2) else (cleanF s).2
structure PlS where
  i : Nat
  a : Option Addr
  cap : Nat
end Go.Proofs.YtjcmcmogbkdjcaaDoor
/- Trees of files, the code: Rename and Copy. -/
namespace Go.Tre
open Go.Pth Go.Scr
open Go.Vc (mget mput mdel mget_put mget_mem mget_of_mem mget_none)
theorem mget_perm {α : Type} {l m : List (Txt × α)} (h : l.Perm m) (hn : (l.map (·.1)).Nodup) (k : Txt) : mget l k = mget m k := by
  have hm : (m.map (·.1)).Nodup := (h.map _).nodup_iff.1 hn
  cases hg : mget l k with
  | some v => exact (mget_of_mem hm (h.subset (mget_mem hg))).symm
  | none =>
    cases hg2 : mget m k with
    | none => rfl
    | some v => rw [mget_of_mem hn (h.symm.subset (mget_mem hg2))] at hg; cases hg
theorem puts_keep : ∀ (l A : Tr) (k : Txt), k ∉ l.map (·.1) → mget (putsF A l) k = mget A k
  | [], A, k, _ => rfl
  | x :: l, A, k, h => by
    rw [List.map_cons, List.mem_cons, not_or] at h
    show mget (putsF (putF A x.1 x.2) l) k = _
    rw [puts_keep l _ k h.2, mget_putF, if_neg h.1]
theorem puts_snoc (A l : Tr) (x : Txt × Node) : putsF A (l ++ [x]) = putF (putsF A l) x.1 x.2 := by unfold putsF; rw [List.foldl_append]; rfl
theorem puts_perm {A l m : Tr} (hA : Sorted A) (h : l.Perm m) (hn : (l.map (·.1)).Nodup) : putsF A l = putsF A m :=
  sorted_ext (putsF_sorted l hA) (putsF_sorted m hA) fun k => by rw [mget_putsF k l A hn, mget_putsF k m A ((h.map _).nodup_iff.1 hn), mget_perm h hn]
def nodeOf (A : Tr) (k : Txt) : Node := (mget A k).getD (false, [])
def movesL (A : Tr) (p q : Txt) (L : List Txt) : Tr := L.map fun k => (toF p q k, nodeOf A k)
theorem moves_perm {A : Tr} (hA : (A.map (·.1)).Nodup) {p q : Txt} {L : List Txt} (hn : L.Nodup) (hm : ∀ k, k ∈ L ↔ k ∈ A.map (·.1) ∧ withinF k p = true) : (movesL A p q L).Perm (movedF A p q) := by
  have hp : L.Perm ((A.filter fun x => withinF x.1 p).map (·.1)) := by
    refine (List.perm_ext_iff_of_nodup hn (List.Nodup.sublist (List.filter_sublist.map _) hA)).2 fun k => ?_
    rw [hm, List.mem_map, List.mem_map]
    constructor
    · rintro ⟨⟨x, hx, rfl⟩, hf⟩; exact ⟨x, List.mem_filter.2 ⟨hx, hf⟩, rfl⟩
    · rintro ⟨x, hx, rfl⟩; exact ⟨⟨x, (List.mem_filter.1 hx).1, rfl⟩, (List.mem_filter.1 hx).2⟩
  have := hp.map fun k => (toF p q k, nodeOf A k)
  unfold movesL movedF
  rw [List.map_map] at this
  refine this.trans (List.Perm.of_eq (List.map_congr_left fun x hx => ?_))
  show (toF p q x.1, nodeOf A x.1) = _
  unfold nodeOf
  rw [mget_of_mem hA (List.mem_filter.1 hx).1]; rfl
/-- where plan says yes -/
structure Yes (A : Tr) (p q : Txt) : Prop where
  pn : p ≠ []
  qn : q ≠ []
  pin : mget A p ≠ none
  qout : mget A q = none
  out : withinF q p = false
  file : fileF A q = false
  good : badM (movedF A p q) = false
theorem plan_yes {A : Tr} {p q : Txt} (h : planF A p q = 0) : Yes A p q := by
  unfold planF at h
  split at h
  · cases h
  rename_i h1
  split at h
  · cases h
  rename_i h2
  split at h
  · cases h
  rename_i h3
  split at h
  · cases h
  rename_i h4
  split at h
  · cases h
  rename_i h5
  rw [not_or] at h2 h3
  exact ⟨h2.1, h3.1, fun e => h1 ⟨h2.1, e⟩, by simpa using h3.2, by simpa using h2.2, by simpa using h4, by simpa using h5⟩
theorem two_plan {A : Tr} {p q : Txt} {stays : Bool} : twoP A p q stays = if planF A p q = 0 then (if 500 < A.length + ((lackF A q).length + if stays = true then (movedF A p q).length else 0) ∨ 1048576 < sizeT A + (if stays = true then sizeT (movedF A p q) else 0) then (A, 55)
    else (putsF (makeF (restF A p stays) (lackF A q)) (movedF A p q), 0)) else (A, planF A p q) := by
  unfold twoP planF
  split
  · rfl
  split
  · rfl
  split
  · rfl
  split
  · rfl
  split
  · rfl
  rw [if_pos rfl]
theorem two_size {A : Tr} (hA : Okay A) {p q : Txt} (hp : CleanP p) (hq : CleanP q) (y : Yes A p q) : sizeT (putsF (makeF A (lackF A q)) (movedF A p q)) = sizeT A + sizeT (movedF A p q) := by
  have ha := apart hA hp hq y.pn y.qn y.pin y.qout y.out
  have hg := goes hA hp hq y.pn y.qn
  rw [(putsF_cnt (movedF A p q) (makeF_sorted _ hA.sorted) hg.nodup fun x hx => by rw [mget_makeF, if_neg (ha.nlack x hx)]; exact ha.fresh x hx).2, makeF_size hA.sorted fun d hd => (lack_none hd).2]
theorem rename_drop {A : Tr} (hA : Okay A) {p q : Txt} (hp : CleanP p) (hq : CleanP q) (y : Yes A p q) {L : List Txt} (hm : ∀ k, k ∈ L ↔ k ∈ A.map (·.1) ∧ withinF k p = true) :
    dropT (putsF (makeF A (lackF A q)) (movedF A p q)) L = putsF (makeF (restF A p false) (lackF A q)) (movedF A p q) := by
  have ha := apart hA hp hq y.pn y.qn y.pin y.qout y.out
  have hg := goes hA hp hq y.pn y.qn
  have hr : restF A p false = A.filter fun x => !withinF x.1 p := rfl
  have hrs : Sorted (restF A p false) := by rw [hr]; exact List.Pairwise.sublist List.filter_sublist hA.sorted
  refine sorted_ext (dropT_sorted (putsF_sorted _ (makeF_sorted _ hA.sorted)) _) (putsF_sorted _ (makeF_sorted _ hrs)) fun k => ?_
  rw [mget_dropT, mget_putsF k _ _ hg.nodup, mget_putsF k _ _ hg.nodup, mget_makeF, mget_makeF, hr, mget_filter (fun x => !withinF x p)]
  by_cases hk : k ∈ L
  · rw [if_pos hk]
    have hw := ((hm k).1 hk).2
    have h1 : mget (movedF A p q) k = none := by
      cases hg1 : mget (movedF A p q) k with
      | none => rfl
      | some n => have := ha.moved _ (mget_mem hg1); rw [hw] at this; cases this
    have h2 : k ∉ lackF A q := fun h => by have := ha.lack k h; rw [hw] at this; cases this
    rw [h1, if_neg h2, if_neg (by rw [hw]; simp)]
  · rw [if_neg hk]
    cases mget (movedF A p q) k with
    | some n => rfl
    | none =>
      dsimp only
      by_cases h2 : k ∈ lackF A q
      · rw [if_pos h2, if_pos h2]
      · rw [if_neg h2, if_neg h2]
        by_cases hw : withinF k p = true
        · rw [if_neg (by rw [hw]; simp)]
          apply mget_none.2
          exact fun h => hk ((hm k).2 ⟨h, hw⟩)
        · rw [if_pos (by simpa using hw)]
end Go.Tre
namespace Go.Proofs.YtjcmcmogbkdjcaaDoor
open Go Go.Vc Go.Scr Go.Pth Go.Tre
variable {Z : Nat → Prop}
theorem MoveV.ext {H H' : Heap} {mv : Value} {A : Tr} {p q : Txt} {L : List Bs} {fa ta la : Option Addr} {fc tc lc : Nat} (h : MoveV H mv A p q L fa ta la fc tc lc) (k : Ext H H') : MoveV H' mv A p q L fa ta la fc tc lc := ⟨h.val, h.fr.ext k, h.to.ext k, h.lack.ext k, h.nodup, h.mem, h.len⟩
end Go.Proofs.YtjcmcmogbkdjcaaDoor
/-
  DERIVED: THE SHELF's CONTRACTS AT THIS DUMP, IN PLAIN WORDS (tools/lay-plain.mjs out of 'TrydShelf.lean', which tools/lay-shelf.mjs wrote): THE SAME DECLARATIONS UNDER THE SAME NAMES: 'import', 'namespace', 'open', 'def', 'theorem' AND NOTHING ELSE: no command of the shelf's: FOR A HAND-IN. Each laying: the table of numbers ('.._ren') and one theorem, a field a fact of the dump's own or the kernel's comparison; each contract: ONE APPLICATION.
-/
namespace Go.Proofs
open Go.Shelf
def Tryd.sortF_ren : Go.Shelf.Ren := ⟨fun | 6 => 29 | 15 => 44 | 14 => 43 | 28 => 60 | 29 => 61 | 20 => 52 | 21 => 53 | 22 => 54 | 23 => 55 | 24 => 56 | 25 => 57 | 26 => 58 | 27 => 59 | 46 => 70 | 47 => 71 | 48 => 72 | 49 => 73 | 50 => 74 | 57 => 81 | n => n, fun | 22 => 23 | 24 => 26 | 25 => 72 | 3 => 3 | 39 => 73 | 0 => 0 | 53 => 75 | 55 => 49 | 4 => 4 | 46 => 103 | 45 => 102 | 50 => 107 | 5 => 5 | 9 => 9 | 66 => 126 | 70 => 130 | 76 => 136 | 77 => 137 | n => n, fun | n => n⟩
theorem Tryd.sortF : Go.Proofs.SlLaysF0.n6 Tryd.prog Tryd.sortF_ren := {
  mixed := by kernel_rfl
  f6 := ⟨Tryd.f29.name, by decide, Tryd.func29.trans (congrArg some (by kernel_rfl))⟩
  f14 := ⟨Tryd.f43.name, by decide, Tryd.func43.trans (congrArg some (by kernel_rfl))⟩
  f15 := Tryd.func44.trans (congrArg some (by kernel_rfl))
  f20 := ⟨Tryd.f52.name, by decide, Tryd.func52.trans (congrArg some (by kernel_rfl))⟩
  f21 := ⟨Tryd.f53.name, by decide, Tryd.func53.trans (congrArg some (by kernel_rfl))⟩
  f22 := ⟨Tryd.f54.name, by decide, Tryd.func54.trans (congrArg some (by kernel_rfl))⟩
  f23 := ⟨Tryd.f55.name, by decide, Tryd.func55.trans (congrArg some (by kernel_rfl))⟩
  f24 := ⟨Tryd.f56.name, by decide, Tryd.func56.trans (congrArg some (by kernel_rfl))⟩
  f25 := ⟨Tryd.f57.name, by decide, Tryd.func57.trans (congrArg some (by kernel_rfl))⟩
  f26 := ⟨Tryd.f58.name, by decide, Tryd.func58.trans (congrArg some (by kernel_rfl))⟩
  f27 := ⟨Tryd.f59.name, by decide, Tryd.func59.trans (congrArg some (by kernel_rfl))⟩
  f28 := Tryd.func60.trans (congrArg some (by kernel_rfl))
  f29 := Tryd.func61.trans (congrArg some (by kernel_rfl))
  f46 := ⟨Tryd.f70.name, by decide, Tryd.func70.trans (congrArg some (by kernel_rfl))⟩
  f47 := Tryd.func71.trans (congrArg some (by kernel_rfl))
  f48 := Tryd.func72.trans (congrArg some (by kernel_rfl))
  f49 := ⟨Tryd.f73.name, by decide, Tryd.func73.trans (congrArg some (by kernel_rfl))⟩
  f50 := ⟨Tryd.f74.name, by decide, Tryd.func74.trans (congrArg some (by kernel_rfl))⟩
  f57 := ⟨Tryd.f81.name, by decide, Tryd.func81.trans (congrArg some (by kernel_rfl))⟩
  t0 := Tryd.underlying0
  a0 := Tryd.isAgg0
  z0 := Tryd.sizeOf0
  v0 := Tryd.zeroValue0
  t3 := Tryd.underlying3
  a3 := Tryd.isAgg3
  z3 := Tryd.sizeOf3
  v3 := Tryd.zeroValue3
  t4 := Tryd.underlying4
  a4 := Tryd.isAgg4
  z4 := Tryd.sizeOf4
  v4 := Tryd.zeroValue4
  t5 := Tryd.underlying5
  a5 := Tryd.isAgg5
  z5 := Tryd.sizeOf5
  v5 := Tryd.zeroValue5
  t9 := Tryd.underlying9
  a9 := Tryd.isAgg9
  z9 := Tryd.sizeOf9
  v9 := Tryd.zeroValue9
  t22 := Tryd.underlying23
  a22 := Tryd.isAgg23
  z22 := Tryd.sizeOf23
  v22 := Tryd.zeroValue23
  t25 := Tryd.underlying72
  a25 := Tryd.isAgg72
  z25 := Tryd.sizeOf72
  v25 := Tryd.zeroValue72
  t39 := Tryd.underlying73
  a39 := Tryd.isAgg73
  z39 := Tryd.sizeOf73
  v39 := Tryd.zeroValue73
  t45 := Tryd.underlying102
  a45 := Tryd.isAgg102
  z45 := Tryd.sizeOf102
  v45 := Tryd.zeroValue102
  t46 := Tryd.underlying103
  a46 := Tryd.isAgg103
  z46 := Tryd.sizeOf103
  v46 := Tryd.zeroValue103
  t50 := Tryd.underlying107
  a50 := Tryd.isAgg107
  z50 := Tryd.sizeOf107
  v50 := Tryd.zeroValue107
  t53 := Tryd.underlying75
  a53 := Tryd.isAgg75
  z53 := Tryd.sizeOf75
  v53 := Tryd.zeroValue75
  t55 := Tryd.underlying49
  a55 := Tryd.isAgg49
  z55 := Tryd.sizeOf49
  v55 := Tryd.zeroValue49
  t66 := Tryd.underlying126
  a66 := Tryd.isAgg126
  z66 := Tryd.sizeOf126
  v66 := Tryd.zeroValue126
  t70 := Tryd.underlying130
  a70 := Tryd.isAgg130
  z70 := Tryd.sizeOf130
  v70 := Tryd.zeroValue130
  t76 := Tryd.underlying136
  a76 := Tryd.isAgg136
  z76 := Tryd.sizeOf136
  v76 := Tryd.zeroValue136
  t77 := Tryd.underlying137
  a77 := Tryd.isAgg137
  z77 := Tryd.sizeOf137
  v77 := Tryd.zeroValue137 }
end Go.Proofs
/- Lists of files in a heap; the reference's tree. -/
namespace Go.Proofs.YtjcmcmogbkdjcaaDoor
open Go Go.Vc Go.Scr Go.Pth Go.Tre
variable {Z : Nat → Prop}
def fileC (x : Txt × Tre.Node) (a : Option Addr) (cap : Nat) : List Value := [.string (mkS x.1), .bool x.2.1, .slice a x.2.2.length cap]
/-- the cells of a list of files -/
inductive FilesV (H : Heap) : Tr → List Value → Prop where
  | nil : FilesV H [] []
  | cons {x : Txt × Tre.Node} {l : Tr} {a : Option Addr} {cap : Nat} {vs : List Value} : Row H a (strV x.2.2) → FilesV H l vs → FilesV H (x :: l) (fileC x a cap ++ vs)
theorem FilesV.len {H : Heap} {A : Tr} {vs : List Value} (h : FilesV H A vs) : vs.length = A.length * 3 := by
  induction h with
  | nil => rfl
  | cons _ _ ih => rw [List.length_append, ih, List.length_cons]; show 3 + _ = _; omega
theorem FilesV.keep {F : Nat → Prop} {H H' : Heap} {A : Tr} {vs : List Value} (h : FilesV H A vs) (k : Only F H H') (hF : ∀ b, F b → b < H.size → Dumb H b) : FilesV H' A vs := by
  induction h with
  | nil => exact .nil
  | cons h _ ih => exact .cons (h.bytes k hF) ih
theorem FilesV.ext {H H' : Heap} {A : Tr} {vs : List Value} (h : FilesV H A vs) (k : Ext H H') : FilesV H' A vs := h.keep k fun _ h => h.elim
theorem FilesV.append {H : Heap} {A B : Tr} {vs ws : List Value} (h : FilesV H A vs) (k : FilesV H B ws) : FilesV H (A ++ B) (vs ++ ws) := by
  induction h with
  | nil => exact k
  | cons h _ ih => rw [List.cons_append, List.append_assoc]; exact .cons h ih
theorem FilesV.get {H : Heap} {A : Tr} {vs : List Value} (h : FilesV H A vs) : ∀ {i : Nat} {x : Txt × Tre.Node}, A[i]? = some x → ∃ a cap, Row H a (strV x.2.2) ∧ ∀ j v, (fileC x a cap)[j]? = some v → vs[i * 3 + j]? = some v := by
  induction h with
  | nil => intro i x hx; simp at hx
  | @cons y l a cap vs h _ ih =>
    intro i x hx
    cases i with
    | zero =>
      simp only [List.getElem?_cons_zero, Option.some.injEq] at hx
      subst hx
      refine ⟨a, cap, h, fun j v hv => ?_⟩
      have hj := (List.getElem?_eq_some_iff.1 hv).1
      rw [Nat.zero_mul, Nat.zero_add, List.getElem?_append_left hj]; exact hv
    | succ i =>
      obtain ⟨a', cap', h1, h2⟩ := ih (i := i) (x := x) (by simpa using hx)
      refine ⟨a', cap', h1, fun j v hv => ?_⟩
      rw [List.getElem?_append_right (by show 3 ≤ _; omega)]
      have e : (i + 1) * 3 + j - (fileC y a cap).length = i * 3 + j := by show (i + 1) * 3 + j - 3 = _; omega
      rw [e]; exact h2 j v hv
theorem FilesV.take {H : Heap} {A : Tr} {vs : List Value} (h : FilesV H A vs) : ∀ (k : Nat), FilesV H (A.take k) (vs.take (k * 3)) := by
  induction h with
  | nil => intro k; simp; exact .nil
  | @cons y l a cap vs h _ ih =>
    intro k
    cases k with
    | zero => simp; exact .nil
    | succ k =>
      rw [List.take_succ_cons, List.take_append, show (k + 1) * 3 - (fileC y a cap).length = k * 3 by show (k + 1) * 3 - 3 = _; omega, List.take_of_length_le (l := fileC y a cap) (by show 3 ≤ (k + 1) * 3; omega)]
      exact .cons h (ih k)
theorem FilesV.drop {H : Heap} {A : Tr} {vs : List Value} (h : FilesV H A vs) : ∀ (k : Nat), FilesV H (A.drop k) (vs.drop (k * 3)) := by
  induction h with
  | nil => intro k; simp; exact .nil
  | @cons y l a cap vs h h' ih =>
    intro k
    cases k with
    | zero => exact .cons h h'
    | succ k =>
      rw [List.drop_succ_cons, List.drop_append, show (k + 1) * 3 - (fileC y a cap).length = k * 3 by show (k + 1) * 3 - 3 = _; omega, show (fileC y a cap).drop ((k + 1) * 3) = [] from List.drop_of_length_le (by show 3 ≤ (k + 1) * 3; omega), List.nil_append]
      exact ih k
theorem FilesV.plain {H : Heap} {A : Tr} {vs : List Value} (h : FilesV H A vs) : ∀ u ∈ vs, plainV u = true := by
  induction h with
  | nil => intro u hu; cases hu
  | cons _ _ ih =>
    intro u hu
    rcases List.mem_append.1 hu with hu | hu
    · simp [fileC] at hu
      rcases hu with rfl | rfl | rfl <;> rfl
    · exact ih u hu
theorem FilesV.head {H : Heap} {A : Tr} {vs : List Value} (h : FilesV H A vs) (hn : vs ≠ []) : ∃ s, vs[0]? = some (.string s) := by
  cases h with
  | nil => exact absurd rfl hn
  | cons _ _ => exact ⟨_, rfl⟩
/-- a slice of files -/
structure RowF (H : Heap) (a : Option Addr) (A : Tr) : Prop where
  out : ∃ vs, Row H a vs ∧ FilesV H A vs
theorem RowF.nil (H : Heap) (a : Option Addr) : RowF H a [] := ⟨[], Row.nil _ _, .nil⟩
theorem RowF.keep {F : Nat → Prop} {H H' : Heap} {a : Option Addr} {A : Tr} (h : RowF H a A) (k : Only F H H') (hF : ∀ b, F b → b < H.size → Dumb H b) : RowF H' a A := by
  obtain ⟨vs, h1, h2⟩ := h.out
  refine ⟨vs, h1.keep' k fun hne p hp hf => ?_, h2.keep k hF⟩
  obtain ⟨b, o, ha, hlt, hc⟩ := h1.at (List.length_pos_iff.2 hne)
  rw [ha] at hp; cases hp
  obtain ⟨s, hs⟩ := h2.head hne
  have := (hF _ hf hlt).out _ _ (hc 0 _ hs)
  cases this
theorem RowF.ext {H H' : Heap} {a : Option Addr} {A : Tr} (h : RowF H a A) (k : Ext H H') : RowF H' a A := h.keep k fun _ h => h.elim
theorem RowF.take {H : Heap} {a : Option Addr} {A : Tr} (h : RowF H a A) (k : Nat) : RowF H a (A.take k) := by
  obtain ⟨vs, h1, h2⟩ := h.out
  exact ⟨_, h1.take (k * 3), h2.take k⟩
theorem RowF.drop {H : Heap} {a : Option Addr} {A : Tr} (h : RowF H a A) (m l : Nat) (hl : m = l → A.length ≤ l) : RowF H (sliceBase a m l 3) (A.drop l) := by
  obtain ⟨vs, h1, h2⟩ := h.out
  exact ⟨_, h1.drop m l 3 (fun e => by rw [h2.len]; exact Nat.mul_le_mul_right _ (hl e)), h2.drop l⟩
/-- an element of a slice of files -/
theorem IdxA.file {H : Heap} {a : Option Addr} {A : Tr} {n : Nat} {i : Int} {K : Addr → Prop} (h : RowF H a A) (hn : A.length = n) (j : Nat) (x : Txt × Tre.Node) (hi : i = j) (hx : A[j]? = some x)
    (hk : ∀ b o a' cap', Row H a' (strV x.2.2) → (∀ k v, (fileC x a' cap')[k]? = some v → hcell H ⟨b, o + k, none⟩ = some v) → K ⟨b, o, none⟩) : IdxA a n 3 i K := by
  obtain ⟨vs, h1, h2⟩ := h.out
  have hj := (List.getElem?_eq_some_iff.1 hx).1
  obtain ⟨a', cap', g1, g2⟩ := h2.get hx
  refine Go.Vc.IdxA.row (size := 3) h1 (by rw [h2.len, hn]) (by decide) j hi (by omega) fun b o k1 k2 k3 => ?_
  exact hk b (o + j * 3) a' cap' g1 fun k v hv => k3 k v (g2 k v hv)
theorem SemH.load_file {H H0 : Heap} {b o : Nat} {x : Txt × Tre.Node} {a : Option Addr} {cap : Nat} {K : Value → Heap → Prop} (hc : ∀ k v, (fileC x a cap)[k]? = some v → hcell H0 ⟨b, o + k, none⟩ = some v) (he : Ext H0 H) (hk : K (.agg #[.string (mkS x.1), .bool x.2.1, .slice a x.2.2.length cap]) H) : SemH Tryd.prog (Instr.loadAt 26 (.pointer (some ⟨b, o, none⟩))) H K := by
  have := Go.Vc.SemH.load_agg (P := Tryd.prog) (t := 26) (H := H) (b := b) (o := o) (vs := fileC x a cap) (K := K) rfl rfl rfl (fun j v hv => hcell_keep (hc j v hv) he id) hk
  exact this
theorem slice_dumb (a : Option Addr) (n cap : Nat) : ∀ v ∈ (#[.slice a n cap] : Array Value).toList, dumbV v = true := by simp [dumbV]
end Go.Proofs.YtjcmcmogbkdjcaaDoor
/- Rows of files in a heap, each with bytes of its own. -/
namespace Go.Tre
open Go.Scr
/-- a file's cells, told: path, directory, slice -/
abbrev SF := Txt × Bool × Option Addr × Nat × Nat
def encF (x : SF) : List Value := [.string (Go.Vc.mkS x.1), .bool x.2.1, .slice x.2.2.1 x.2.2.2.1 x.2.2.2.2]
end Go.Tre
namespace Go.Proofs.YtjcmcmogbkdjcaaDoor
open Go Go.Vc Go.Scr Go.Pth Go.Tre
/-- a told file: what it is in a heap -/
structure Told (H : Heap) (f : SF) (x : Bs × Tre.Node) : Prop where
  path : f.1 = x.1
  dir : f.2.1 = x.2.1
  len : f.2.2.2.1 = x.2.2.length
  own : Own H 0 5 1 f.2.2.1 x.2.2.length f.2.2.2.2 (strV x.2.2)
def ToldL (H : Heap) : List SF → Tr → Prop
  | [], [] => True
  | f :: fs, x :: xs => Told H f x ∧ ToldL H fs xs
  | _, _ => False
theorem Told.keep {F : Nat → Prop} {H H' : Heap} {f : SF} {x : Bs × Tre.Node} (h : Told H f x) (k : Only F H H') (hF : ∀ b c, F b → ¬ Blk H b c 5) : Told H' f x := ⟨h.path, h.dir, h.len, h.own.keep k fun p hp hf => by
  rcases h.own.out with ⟨h1, _⟩ | ⟨g, cur, h1, _, hb, _⟩
  · rw [h1] at hp; cases hp
  · rw [h1] at hp; cases hp
    exact hF _ _ hf hb⟩
theorem ToldL.keep {F : Nat → Prop} {H H' : Heap} (k : Only F H H') (hF : ∀ b c, F b → ¬ Blk H b c 5) : ∀ {fs : List SF} {xs : Tr}, ToldL H fs xs → ToldL H' fs xs
  | [], [], h => h
  | f :: fs, x :: xs, ⟨h1, h2⟩ => ⟨h1.keep k hF, ToldL.keep k hF h2⟩
  | [], _ :: _, h => h.elim
  | _ :: _, [], h => h.elim
theorem ToldL.ext {H H' : Heap} {fs : List SF} {xs : Tr} (h : ToldL H fs xs) (k : Ext H H') : ToldL H' fs xs := h.keep k fun _ _ h => h.elim
theorem ToldL.snoc {H : Heap} {f : SF} {x : Bs × Tre.Node} (k : Told H f x) : ∀ {fs : List SF} {xs : Tr}, ToldL H fs xs → ToldL H (fs ++ [f]) (xs ++ [x])
  | [], [], _ => ⟨k, trivial⟩
  | g :: fs, y :: xs, ⟨h1, h2⟩ => ⟨h1, ToldL.snoc k h2⟩
  | [], _ :: _, h => h.elim
  | _ :: _, [], h => h.elim
theorem ToldL.len {H : Heap} : ∀ {fs : List SF} {xs : Tr}, ToldL H fs xs → fs.length = xs.length
  | [], [], _ => rfl
  | g :: fs, y :: xs, ⟨_, h2⟩ => by rw [List.length_cons, List.length_cons, ToldL.len h2]
  | [], _ :: _, h => h.elim
  | _ :: _, [], h => h.elim
theorem ToldL.files {H : Heap} : ∀ {fs : List SF} {xs : Tr}, ToldL H fs xs → FilesV H xs (fs.flatMap encF)
  | [], [], _ => .nil
  | f :: fs, x :: xs, ⟨h1, h2⟩ => by
    have e : encF f = fileC x f.2.2.1 f.2.2.2.2 := by unfold encF fileC; rw [h1.path, h1.dir, h1.len]
    rw [List.flatMap_cons, e]
    exact .cons h1.own.row (ToldL.files h2)
  | [], _ :: _, h => h.elim
  | _ :: _, [], h => h.elim
theorem ToldL.cons_inv {H : Heap} {f : SF} {fs : List SF} {xs : Tr} (h : ToldL H (f :: fs) xs) : ∃ x ys, xs = x :: ys ∧ Told H f x ∧ ToldL H fs ys := by
  cases xs with
  | nil => exact h.elim
  | cons x ys => exact ⟨x, ys, rfl, h.1, h.2⟩
theorem ToldL.perm {H : Heap} {fs fs' : List SF} (hp : fs'.Perm fs) : ∀ {xs : Tr}, ToldL H fs xs → ∃ xs', xs'.Perm xs ∧ ToldL H fs' xs' := by
  induction hp with
  | nil => intro xs h; exact ⟨xs, List.Perm.refl _, h⟩
  | cons f _ ih =>
    intro xs h
    obtain ⟨x, ys, rfl, h1, h2⟩ := h.cons_inv
    obtain ⟨ys', hp, h3⟩ := ih h2
    exact ⟨x :: ys', hp.cons x, h1, h3⟩
  | swap f g l =>
    intro xs h
    obtain ⟨x, ys, rfl, h1, h2⟩ := h.cons_inv
    obtain ⟨y, zs, rfl, h3, h4⟩ := h2.cons_inv
    exact ⟨y :: x :: zs, List.Perm.swap x y zs, h3, h1, h4⟩
  | trans _ _ ih1 ih2 =>
    intro xs h
    obtain ⟨ys, hp1, h1⟩ := ih2 h
    obtain ⟨zs, hp2, h2⟩ := ih1 h1
    exact ⟨zs, hp2.trans hp1, h2⟩
theorem ToldL.sorted {H : Heap} : ∀ {fs : List SF} {xs : Tr}, ToldL H fs xs → fs.Pairwise (fun x y => Op.bytesLess y.1 x.1 = false) → (xs.map (·.1)).Nodup → Sorted xs
  | [], [], _, _, _ => List.Pairwise.nil
  | f :: fs, x :: xs, ⟨h1, h2⟩, hp, hn => by
    rw [List.pairwise_cons] at hp
    rw [List.map_cons, List.nodup_cons] at hn
    refine List.pairwise_cons.2 ⟨fun y hy => ?_, ToldL.sorted h2 hp.2 hn.2⟩
    have : ∀ {fs : List SF} {xs : Tr}, ToldL H fs xs → ∀ y ∈ xs, ∃ g ∈ fs, g.1 = y.1 := by
      intro fs xs
      induction fs generalizing xs with
      | nil => intro h y hy; cases xs with | nil => cases hy | cons _ _ => exact h.elim
      | cons f fs ih =>
        intro h y hy
        obtain ⟨x, ys, rfl, h1, h2⟩ := h.cons_inv
        rcases List.mem_cons.1 hy with rfl | hy
        · exact ⟨f, by simp, h1.path⟩
        · obtain ⟨g, hg, e⟩ := ih h2 y hy; exact ⟨g, by simp [hg], e⟩
    obtain ⟨g, hg, e⟩ := this h2 y hy
    have := hp.1 g hg
    rw [e, h1.path] at this
    exact lt_tri this fun e => hn.1 (by rw [← e]; exact List.mem_map_of_mem hy)
  | [], _ :: _, h, _, _ => h.elim
  | _ :: _, [], h, _, _ => h.elim
/-- one file more -/
theorem NextH.pushF {H : Heap} {u ty : TypeId} {f : SF} {a : Option Addr} {n cap g base : Nat} {fs : List SF} {cb : Array Bool} {K : Value → Heap → Prop}
    (hlit : Blk H g (encF f).toArray 26) (hown : Own H base 26 3 a n cap (fs.flatMap encF)) (hx : base ≤ H.size) (hn : n ≤ 1000000000) (hu : ∃ d, Tryd.prog.underlying u = some d ∧ (∀ k, d ≠ .int k))
    (hk : ∀ a' cap' H', Own H' base 26 3 a' (n + 1) cap' ((fs ++ [f]).flatMap encF) → H.size ≤ H'.size → Wr a H H' → K (.slice a' (n + 1) cap') H') :
    NextH Tryd.prog (builtin .append #[23, u] ty cb #[.slice a n cap, .slice (some ⟨g, 0, none⟩) 1 1]) H K := by
  refine Go.Vc.NextH.append (i := Tryd.t26) (z := .agg #[.string ⟨#[]⟩, .bool false, .slice none 0 0]) (m := 1) (news := encF f) rfl hu rfl rfl rfl hown (Src.row (Blk.row (c := encF f) hlit) rfl (by simp [encF, plainV])) (by unfold maxLen; omega) ?_ hx fun a' cap' H' h1 h2 _ => hk a' cap' H' (by rw [List.flatMap_append, show [f].flatMap encF = encF f by simp]; exact h1) h2.size h2
  show (n + 1) * _ ≤ _
  refine Nat.le_trans (Nat.mul_le_mul_left (n + 1) (show _ ≤ 64 from by decide)) (by omega)
theorem fileB {K : Value → Prop} {o1 o2 o3 : Operand} {s : ByteArray} {x : Bool} {a : Option Addr} {n c : Nat} (h : K (.agg #[.string s, .bool x, .slice a n c])) : PureH Tryd.prog (Instr.build 26 ((List.map (fun x : Nat × Operand => x.1) (#[(0, o1), (1, o2), (2, o3)] : Array (Nat × Operand)).toList).zip [.string s, .bool x, .slice a n c]).toArray) K := PureH.build _ (by kernel_rfl) h
end Go.Proofs.YtjcmcmogbkdjcaaDoor
/- Rows of files, sorted by their paths, by the kit's contract. -/
namespace Go.Tre
open Go.Scr
def cfF (x y : SF) : Int := if Op.bytesLess x.1 y.1 = true then -1 else if Op.bytesLess y.1 x.1 = true then 1 else 0
theorem lt_cf (x y : SF) : Go.Proofs.ltOf cfF x y = Op.bytesLess x.1 y.1 := by
  unfold Go.Proofs.ltOf cfF
  by_cases h1 : Op.bytesLess x.1 y.1 = true
  · rw [if_pos h1, h1]; rfl
  · rw [if_neg h1]
    have h1 : Op.bytesLess x.1 y.1 = false := by simpa using h1
    rw [h1]
    split <;> rfl
theorem swoF : Go.Sort.SWO (Go.Proofs.ltOf cfF) where
  irrefl x := by rw [lt_cf]; exact lt_irrefl _
  trans x y z h1 h2 := by rw [lt_cf] at *; exact lt_trans h1 h2
  ntrans x y z h1 h2 := by
    rw [lt_cf] at *
    cases h : Op.bytesLess x.1 z.1 with
    | false => rfl
    | true =>
      by_cases hxy : x.1 = y.1
      · rw [hxy] at h; rw [h] at h2; cases h2
      · have := lt_trans (lt_tri h1 hxy) h
        rw [this] at h2; cases h2
end Go.Tre
namespace Go.Proofs.YtjcmcmogbkdjcaaDoor
open Go Go.Vc Go.Tre Go.Proofs Go.Shelf Go.Lib Go.Sort
theorem nan_calls (s : ByteArray) (w : World) : Calls Tryd.prog 45 #[.string s] w fun e w' => e = .returned (.bool false) ∧ w' = w := by
  go_enter Tryd.func45, Tryd.ntmps45
  go_wp2
  go_ret
  exact ⟨by simp, rfl⟩
theorem cmp_calls (x y : Bs) (w : World) : Calls Tryd.prog 31 #[.string (mkS x), .string (mkS y)] w fun e w' => e = .returned (.int .i64 (if Op.bytesLess x y = true then -1 else if Op.bytesLess y x = true then 1 else 0)) ∧ w' = w := by
  have e7 : ∀ args w, (callFunc 45 args).run Tryd.prog w = .ok (.enter 45 args) w := Tryd.call45
  go_enter Tryd.func31, Tryd.ntmps31
  go_wp2_with (go_at_fn 45; refine (nan_calls _ _).mono ?_; rintro e w' ⟨rfl, hw⟩; rw [hw])
  all_goals go_ret
  all_goals have ht := @lt_tri x y
  all_goals have hi := lt_irrefl x
  all_goals (refine ⟨?_, rfl⟩; first | rfl | (exfalso; simp_all; done) | (exfalso; rename_i h1 h2 h3; simp at h1 h2; simp_all))
theorem less_calls (x y : SF) (W : World) : Calls Tryd.prog 30 #[.agg (encF x).toArray, .agg (encF y).toArray] W fun e w' => e = .returned (.int .i64 (cfF x y)) ∧ ∃ q os', w' = grow (W.drewN q) os' := by
  have hcon := fun W' => cmp_calls x.1 y.1 W'
  unfold cfF
  generalize (if Op.bytesLess x.1 y.1 = true then (-1 : Int) else if Op.bytesLess y.1 x.1 = true then 1 else 0) = r at hcon ⊢
  unfold encF
  go_enter Tryd.func30, Tryd.ntmps30
  go_wp2_with (go_at_call 31; refine (hcon _).mono ?_; rintro e w' ⟨rfl, rfl⟩)
  go_ret
  exact ⟨rfl, 0, _, by rw [alloc_eq_grow, alloc_eq_grow, grow_grow]; rfl⟩
theorem flat_enc (d : List SF) : flatK encF 3 d.toArray = (d.flatMap encF).toArray := by
  induction d with
  | nil => simp [flatK]
  | cons x d ih =>
    apply Array.ext'
    apply List.ext_getElem?
    intro t
    have hsz : ∀ l : List SF, (flatK encF 3 l.toArray).size = l.length * 3 := fun l => by simp
    have hl : ∀ l : List SF, (l.flatMap encF).length = l.length * 3 := fun l => by
      induction l with
      | nil => rfl
      | cons y l ih => rw [List.flatMap_cons, List.length_append, ih, List.length_cons]; show 3 + _ = _; omega
    have hg : ∀ (l : List SF) (t : Nat), t < l.length * 3 → (flatK encF 3 l.toArray)[t]? = some ((encF l.toArray[t / 3]!)[t % 3]!) := fun l t h => by
      rw [Array.getElem?_eq_getElem (by rw [hsz]; exact h), ← getElem!_pos _ t (by rw [hsz]; exact h), get_flatK _ _ _ _ (by simpa using h)]
    rw [Array.getElem?_toList]
    show _ = ((x :: d).flatMap encF)[t]?
    by_cases ht : t < (x :: d).length * 3
    · rw [hg _ _ ht, List.flatMap_cons]
      by_cases h3 : t < 3
      · rw [List.getElem?_append_left (by show t < 3; exact h3), Nat.div_eq_of_lt h3, Nat.mod_eq_of_lt h3]
        rw [List.getElem?_eq_getElem (by show t < 3; exact h3)]
        simp [encF, h3]
      · rw [List.getElem?_append_right (by show 3 ≤ t; omega)]
        show _ = (d.flatMap encF)[t - 3]?
        have := congrArg (·[t - 3]?) ih
        have h4 : t - 3 < d.length * 3 := by rw [List.length_cons] at ht; omega
        rw [hg _ _ h4] at this
        simp only [List.getElem?_toArray] at this
        rw [← this, show t / 3 = (t - 3) / 3 + 1 by omega, show t % 3 = (t - 3) % 3 by omega]
        simp
    · rw [Array.getElem?_eq_none (by rw [hsz]; omega), List.getElem?_eq_none (by rw [hl]; omega)]
theorem sortf_any (l : List SF) (g n cap base : Nat) (H : Heap) (ho : Own H base 26 3 (some ⟨g, 0, none⟩) n cap (l.flatMap encF)) (hn : l.length = n) (hm : n ≤ 1000000000) :
    CallH Tryd.prog 29 [.slice (some ⟨g, 0, none⟩) n cap, .func (.func 30) #[] #[]] H fun v H' => v = .tuple #[] ∧ (∃ l' : List SF, l'.Perm l ∧ l'.Pairwise (fun x y => Op.bytesLess y.1 x.1 = false) ∧ Own H' base 26 3 (some ⟨g, 0, none⟩) n cap (l'.flatMap encF)) ∧ Wr (some ⟨g, 0, none⟩) H H' := by
  subst hn
  refine CallH.calls Tryd.call29 fun w hw => ?_
  subst hw
  have hb := (ho.block _ rfl).2
  have hH : HoldsK encF 3 w g 0 l.toArray := by unfold HoldsK; rw [flat_enc]; exact own_holds ho
  have hcon := AnyQ.slices_SortFunc Tryd.sortF 3 Tryd.isAgg26 Tryd.sizeOf26 encF (fun _ => rfl) (fun x v hv => by simp [encF] at hv; rcases hv with rfl | rfl | rfl <;> rfl) cfF swoF 30 #[] g 0 cap l.toArray w Tryd.call30 (fun _ _ _ _ x y => less_calls x y _) hH hb (by simp; omega)
  have hcon : Calls Tryd.prog 29 _ _ _ := hcon
  rw [show l.toArray.size = l.length from by simp] at hcon
  refine Calls.mono hcon ?_
  rintro e w' ⟨h1, d', m, os, hp, hs, rfl⟩
  have hsz : d'.size = l.length := by have := hp.1; simpa using this
  have hperm : d'.toList.Perm l := by
    have := hp.2.2
    simp [← hsz] at this
    rw [hsz] at this
    simpa using this
  have hd : d' = d'.toList.toArray := by simp
  unfold sortWorldK putRowK
  rw [hd, flat_enc]
  have hll : (d'.toList.flatMap encF).length = (l.flatMap encF).length := (hperm.flatMap_right encF).length_eq
  obtain ⟨g1, g2⟩ := own_put (ys := d'.toList.flatMap encF) ho hll m os
  refine ⟨_, h1, ⟨rfl, rfl, rfl⟩, rfl, ⟨d'.toList, hperm, ?_, g1⟩, g2⟩
  rw [List.pairwise_iff_getElem]
  intro i j hi hj hij
  have := hs i j (Nat.zero_le _) hij (by simpa [hsz] using hj)
  rw [lt_cf] at this
  rw [getElem!_pos d' i (by simpa using hi), getElem!_pos d' j (by simpa using hj)] at this
  simpa using this
end Go.Proofs.YtjcmcmogbkdjcaaDoor
/- Trees of files, the code: its files, in order; a clone. -/
namespace Go.Proofs.YtjcmcmogbkdjcaaDoor
open Go Go.Vc Go.Scr Go.Pth Go.Tre
variable {Z : Nat → Prop}
theorem len64_any (H : Heap) : CallH Tryd.prog 61 [.int .u64 0] H fun v H' => (∃ l : Int, v = .int .i64 l) ∧ H = H' := by
  refine Vc.CallH.body Tryd.func61 Tryd.call61 rfl (by decide +kernel) rfl ?_
  ((conv => whnf); repeat (any_goals (first | ((refine IdxH.nat 0 rfl (by decide) ?_); (conv => whnf)) | (refine Vc.stp ?_; intros; (conv => whnf)) | (refine Vc.spl ?_ ?_ <;> (intro _; (conv => whnf))))))
  all_goals exact ⟨⟨_, rfl⟩, rfl⟩
theorem len_any (H : Heap) : CallH Tryd.prog 44 [.int .u64 0] H fun v H' => (∃ l : Int, v = .int .i64 l) ∧ H = H' := by
  refine Vc.CallH.body Tryd.func44 Tryd.call44 rfl (by decide +kernel) rfl ?_
  ((conv => whnf); repeat (any_goals (first | ((refine (len64_any _).mono ?_; rintro _ _ ⟨⟨l, rfl⟩, rfl⟩); (conv => whnf)) | (refine Vc.stp ?_; intros; (conv => whnf)) | (refine Vc.spl ?_ ?_ <;> (intro _; (conv => whnf))))))
  all_goals exact ⟨⟨_, rfl⟩, rfl⟩
theorem ins0_any (fv : Value) (H : Heap) : CallH Tryd.prog 52 [.slice none 0 0, .int .i64 0, .int .i64 0, fv] H fun v H' => v = .tuple #[] ∧ H = H' := by
  refine Vc.CallH.body Tryd.func52 Tryd.call52 rfl (by decide +kernel) rfl ?_
  ((conv => whnf); repeat (any_goals (first | (refine Vc.stp ?_; intros; (conv => whnf)) | (refine Vc.spl ?_ ?_ <;> (intro _; (conv => whnf))))))
  refine LoopH.intro (fun (_ : Nat) => [(8, .int .i64 1)]) (fun _ H' => H = H') (fun i => i) 0 ⟨rfl, trivial⟩ rfl ?_
  rintro _ _ rfl
  ((conv => whnf); repeat (any_goals (first | (refine Vc.stp ?_; intros; (conv => whnf)) | (refine Vc.spl ?_ ?_ <;> (intro _; (conv => whnf))))))
  exact ⟨rfl, rfl⟩
theorem pdq0_any (fv : Value) (l : Int) (H : Heap) : CallH Tryd.prog 43 [.slice none 0 0, .int .i64 0, .int .i64 0, .int .i64 l, fv] H fun v H' => v = .tuple #[] ∧ H = H' := by
  refine Vc.CallH.body Tryd.func43 Tryd.call43 rfl (by decide +kernel) rfl ?_
  ((conv => whnf); repeat (any_goals (first | (refine Vc.stp ?_; intros; (conv => whnf)) | (refine Vc.spl ?_ ?_ <;> (intro _; (conv => whnf))))))
  refine LoopH.intro (fun (_ : Nat) => [(1, .int .i64 0), (2, .int .i64 0)]) (fun _ H' => H = H') (fun i => i) 0 ⟨rfl, rfl, trivial⟩ rfl ?_
  rintro _ _ rfl
  ((conv => whnf); repeat (any_goals (first | ((refine (ins0_any fv _).mono ?_; rintro _ _ ⟨rfl, rfl⟩); (conv => whnf)) | (refine Vc.stp ?_; intros; (conv => whnf)) | (refine Vc.spl ?_ ?_ <;> (intro _; (conv => whnf))))))
  exact ⟨rfl, rfl⟩
theorem sortf0_any (fv : Value) (H : Heap) : CallH Tryd.prog 29 [.slice none 0 0, fv] H fun v H' => v = .tuple #[] ∧ H = H' := by
  refine Vc.CallH.body Tryd.func29 Tryd.call29 rfl (by decide +kernel) rfl ?_
  ((conv => whnf); repeat (any_goals (first | ((refine (len_any _).mono ?_; rintro _ _ ⟨⟨l, rfl⟩, rfl⟩); (conv => whnf)) | ((refine (pdq0_any fv l _).mono ?_; rintro _ _ ⟨rfl, rfl⟩); (conv => whnf)) | (refine Vc.stp ?_; intros; (conv => whnf)) | (refine Vc.spl ?_ ?_ <;> (intro _; (conv => whnf))))))
  exact ⟨rfl, rfl⟩
structure FiS where
  vis : List Bs
  fs : List SF
  a : Option Addr
  cap : Nat
set_option maxHeartbeats 4000000 in
theorem files_any {b mb : Nat} {A : Tr} {H : Heap} (h : TreeO Z H b mb A) (hA : Sorted A) (hAl : A.length ≤ 1000000) (hf : ∀ k n, mget A k = some n → n.2.length ≤ 1000000000) : CallH Tryd.prog 15 [.pointer (some ⟨b, 0, none⟩)] H fun v H' =>
    (∃ a cap, v = .slice a A.length cap ∧ A.length ≤ cap ∧ RowF H' a A ∧ ∀ p, a = some p → H.size ≤ p.block) ∧ Ext H H' := by
  have hb := h.blk
  obtain ⟨lm, hm, h2, h3⟩ := h.map.out
  have hkeys := maps_keys h2 h3
  have hlen := MapT.len hA.nodup hm h2 h3
  refine Vc.CallH.body Tryd.func15 Tryd.call15 rfl (by decide +kernel) rfl ?_
  ((conv => whnf); repeat (any_goals (first | (((with_reducible apply SemH.rangeMap hm); (focus (rfl)); (focus ((intro H1 z1 it1 x1; (conv => whnf))))); (conv => whnf)) | (refine Vc.stp ?_; intros; (conv => whnf)) | (refine Vc.spl ?_ ?_ <;> (intro _; (conv => whnf))))))
  refine LoopH.intro (fun (x : FiS) => [(3, .slice x.a x.vis.length x.cap)])
    (fun x H' => IterO H' H.size mb lm x.vis ∧ Own H' H1.size 26 3 x.a x.vis.length x.cap (x.fs.flatMap encF) ∧ ToldL H' x.fs (x.vis.map fun k => (k, nodeOf A k)) ∧ Ext H H') (fun x => lm.length - x.vis.length) ⟨[], [], none, 0⟩ ⟨rfl, trivial⟩ ⟨it1, Own.nil _ _ _ _, trivial, x1⟩ ?_
  rintro ⟨vis, fs, a, cap⟩ H2 ⟨hit, ho2, hto, hx2⟩
  dsimp only at hit ho2 hto ⊢
  have hz2 := hx2.size
  have hvl := nodup_len hit.nodup hit.sub
  rw [List.length_map] at hvl
  have hfl := hto.len
  rw [List.length_map] at hfl
  have hso : ∀ H', Own H' H1.size 26 3 a vis.length cap (fs.flatMap encF) → CallH Tryd.prog 29 [.slice a vis.length cap, .func (.func 30) #[] #[]] H' fun v H'' => v = .tuple #[] ∧ (∃ l' : List SF, l'.Perm fs ∧ l'.Pairwise (fun x y => Op.bytesLess y.1 x.1 = false) ∧ Own H'' H1.size 26 3 a vis.length cap (l'.flatMap encF)) ∧ Wr a H' H'' := fun H' ho => by
    rcases ho.out with ⟨rfl, h0, rfl⟩ | ⟨g, cur, rfl, _⟩
    · have e : fs = [] := List.eq_nil_of_length_eq_zero (by omega)
      subst e
      rw [h0]
      exact (sortf0_any _ H').mono fun v H'' ⟨h1, h2⟩ => ⟨h1, ⟨[], List.Perm.refl _, List.Pairwise.nil, Own.nil _ _ _ _⟩, by subst h2; exact Only.refl _ _⟩
    · exact sortf_any fs g vis.length cap H1.size H' ho hfl (by omega)
  ((conv => whnf); repeat (any_goals (first | (((with_reducible refine SemH.nextMap hit ?_ ?_); rotate_left; intro k v H5 hkv hkn z5 hit5 hcur hx5; (conv => whnf); rotate_left; intro hall; (conv => whnf)); (conv => whnf)) | ((refine (hso _ ho2).mono ?_; rintro _ H6 ⟨rfl, ⟨l', hp', hpw, ho6⟩, hx6⟩; have hz6 := hx6.size); (conv => whnf)) | (refine Vc.stp ?_; intros; (conv => whnf)))))
  · have hx26 : Ext H H6 := hx2.wr ho2 (by omega) hx6
    have hto6 : ToldL H6 fs (vis.map fun k => (k, nodeOf A k)) := hto.keep hx6 fun x c hxp hc => by
      rcases ho2.out with ⟨h1, _⟩ | ⟨g, cur, h1, _, hb, _⟩
      · rw [h1] at hxp; obtain ⟨p, hp, _⟩ := hxp; cases hp
      · rw [h1] at hxp; obtain ⟨p, hp, e⟩ := hxp; cases hp; subst e
        exact absurd (blk_one hb hc).1 (by decide)
    obtain ⟨xs', hxp, hto7⟩ := hto6.perm hp'
    have hvp : vis.Perm (A.map (·.1)) := (List.perm_ext_iff_of_nodup hit.nodup hA.nodup).2 fun k => ⟨fun hk => (hkeys k).1 (hit.sub k hk), fun hk => hall k ((hkeys k).2 hk)⟩
    have hvA : (vis.map fun k => (k, nodeOf A k)).Perm A := by
      refine (hvp.map fun k => (k, nodeOf A k)).trans (List.Perm.of_eq ?_)
      rw [List.map_map]
      refine (List.map_congr_left fun x hx => ?_).trans (List.map_id A)
      show (x.1, nodeOf A x.1) = x
      unfold nodeOf
      rw [mget_of_mem hA.nodup hx]; rfl
    have hxA := hxp.trans hvA
    have hxn : (xs'.map (·.1)).Nodup := (hxA.map _).nodup_iff.2 hA.nodup
    have hxs := hto7.sorted hpw hxn
    have e := sorted_perm hxs hA hxA
    rw [e] at hto7
    have el : vis.length = A.length := by have := hvp.length_eq; rwa [List.length_map] at this
    rw [el] at ho6
    refine ⟨⟨a, cap, by rw [← el]; rfl, ho6.cap_le, ⟨_, ho6.row, hto7.files⟩, fun p hp => by have := (ho6.block p hp).1; omega⟩, hx26⟩
  · have hkm : mget lm k = some v := mget_of_mem hm.nodup hkv
    obtain ⟨n, hg⟩ : ∃ n, mget A k = some n := by
      cases hg : mget A k with
      | none => rw [h2 k hg] at hkm; cases hkm
      | some n => exact ⟨n, rfl⟩
    obtain ⟨v', hv', hno⟩ := h3 k n hg
    rw [hkm] at hv'; cases hv'
    have hx05 : Ext H H5 := hx2.but hx5 (Nat.le_refl _)
    obtain ⟨g1, a1, c1, rfl, hb1, hr1⟩ := (hno.ext hx05).out
    have hnl := hf k n hg
    have hno : nodeOf A k = n := by unfold nodeOf; rw [hg]; rfl
    have ho5 := ho2.keep hx5 fun p hp e => ho2.low (b := H.size) (by omega) ⟨p, hp, e⟩
    have hto5 := hto.keep hx5 fun x c e hc => by subst e; exact hit.neB hc rfl
    ((conv => whnf); repeat (any_goals (first | (((with_reducible apply SemH.entryMap hcur); (focus ((conv => whnf)))); (conv => whnf)) | ((refine (clone_any n.2 a1 n.2.length c1 _ (hr1.ext (by (repeat (first | assumption | exact Vc.Ext.refl _ | ((with_reducible apply Vc.Ext.trans); (case k => assumption)) | ((with_reducible apply Vc.Ext.but); (case k => assumption); (case hb => omega)))))) rfl (by omega)).mono ?_; rintro _ H6 ⟨⟨a6, c6, rfl, ho6⟩, hx6⟩; have hz6 := hx6.size); (conv => whnf)) | (((with_reducible apply fileB); (focus ((conv => whnf)))); (conv => whnf)) | ((refine NextH.pushF (f := (k, n.1, a6, n.2.length, c6)) (fs := fs) (by assumption) (ho5.ext (by (repeat (first | assumption | exact Vc.Ext.refl _ | ((with_reducible apply Vc.Ext.trans); (case k => assumption)) | ((with_reducible apply Vc.Ext.but); (case k => assumption); (case hb => omega)))))) (by omega) (by omega) ⟨_, rfl, fun _ h => by cases h⟩ ?_; intro a8 c8 H8 ho8 hz8 hw8); (conv => whnf)) | (((with_reducible refine Vc.DrawH.held [0, 1, 2, 3, 4, 5, 6, 7, 8, 9, 10, 11, 12, 13, 14] [(10, [5])] mixed (by decide +kernel) ?_)); (conv => whnf)) | (refine Vc.stp ?_; intros; (conv => whnf)) | (refine Vc.spl ?_ ?_ <;> (intro _; (conv => whnf))))))
    rename_i H7 z7 b7 x7
    have ho7 := (ho5.ext hx6).ext x7
    have hx57 := hx6.trans x7
    have ht7 : ToldL H7 (fs ++ [(k, n.1, a6, n.2.length, c6)]) ((vis ++ [k]).map fun k => (k, nodeOf A k)) := by
      rw [List.map_append, List.map_singleton]
      refine (hto5.ext hx57).snoc ⟨rfl, by rw [hno], by rw [hno], ?_⟩
      rw [hno]
      exact (ho6.base (Nat.zero_le _)).ext x7
    have ht8 := ht7.keep hw8 fun x c hxp hc => by
      rcases ho7.out with ⟨h1, _⟩ | ⟨g, cur, h1, _, hb, _⟩
      · rw [h1] at hxp; obtain ⟨p, hp, _⟩ := hxp; cases hp
      · rw [h1] at hxp; obtain ⟨p, hp, e⟩ := hxp; cases hp; subst e
        exact absurd (blk_one hb hc).1 (by decide)
    have hvl5 : (vis ++ [k]).length = vis.length + 1 := by simp
    rw [← hvl5] at ho8
    have hvn := nodup_len hit5.nodup hit5.sub
    rw [List.length_map] at hvn
    exact ⟨⟨vis ++ [k], fs ++ [(k, n.1, a6, n.2.length, c6)], a8, c8⟩, ⟨by dsimp only; rw [hvl5]; rfl, trivial⟩, ⟨(hit5.ext hx57).wr ho7 hw8, ho8, ht8, (hx05.trans hx57).wr ho7 (by omega) hw8⟩, by show lm.length - (vis ++ [k]).length < lm.length - vis.length; omega⟩
theorem MapT.congr {H : Heap} {mb : Nat} {A B : Tr} (h : MapT Z H mb A) (e : ∀ k, mget A k = mget B k) : MapT Z H mb B := by
  obtain ⟨l, h1, h2, h3⟩ := h.out
  exact ⟨l, h1, fun k hk => h2 k (by rw [e]; exact hk), fun k n hk => h3 k n (by rw [e]; exact hk)⟩
def partT (A : Tr) (vis : List Bs) : Tr := A.filter fun x => vis.any fun k => k == x.1
theorem mget_partT (A : Tr) (vis : List Bs) (k : Bs) : mget (partT A vis) k = if k ∈ vis then mget A k else none := by
  unfold partT
  rw [mget_filter (fun x => vis.any fun k => k == x)]
  by_cases h : k ∈ vis
  · rw [if_pos h, if_pos]
    simp; exact h
  · rw [if_neg h, if_neg]
    intro hh
    rw [List.any_eq_true] at hh
    obtain ⟨x, hx, e⟩ := hh
    rw [beq_iff_eq] at e; subst e
    exact h hx
end Go.Proofs.YtjcmcmogbkdjcaaDoor
/- The tree of a list of files, plain. -/
namespace Go.Tre
open Go.Pth Go.Scr
open Go.Vc (mget mput mdel mget_put mget_mem mget_of_mem mget_none)
def stepF (A : Tr) (p : Txt) (f : Txt × Node) : Tr × Nat := if f.2.1 = true then mkdirP A p else writeP A p f.2.2
def ofGo (A : Tr) (seen : List Txt) : List (Txt × Node) → Option Tr × Nat
  | [] => (some A, 0)
  | f :: fs =>
    if (cleanF f.1).2 ≠ 0 then (none, (cleanF f.1).2)
    else if (cleanF f.1).1 ∈ seen ∨ (f.2.1 = true ∧ dirF A (cleanF f.1).1 = true) then (none, 53)
    else if (stepF A (cleanF f.1).1 f).2 ≠ 0 then (none, (stepF A (cleanF f.1).1 f).2)
    else ofGo (stepF A (cleanF f.1).1 f).1 (seen ++ [(cleanF f.1).1]) fs
def ofF (L : List (Txt × Node)) : Option Tr × Nat := ofGo [] [] L
theorem Okay.step {A : Tr} (hA : Okay A) {p : Txt} (hp : CleanP p) (f : Txt × Node) : Okay (stepF A p f).1 := by
  unfold stepF
  split
  · exact hA.mkdir hp
  · exact hA.write hp
theorem mkdirF_id (A : Tr) {p : Txt} (hp : CleanP p) : mkdirF A p = mkdirP A p := by unfold mkdirF; rw [hp.id, if_pos rfl]
theorem writeF_id (A : Tr) {p : Txt} (hp : CleanP p) (b : Txt) : writeF A p b = writeP A p b := by unfold writeF; rw [hp.id, if_pos rfl]
end Go.Tre
/- Trees of files, the code: the tree of files and directories. -/
namespace Go.Proofs.YtjcmcmogbkdjcaaDoor
open Go Go.Vc Go.Scr Go.Pth Go.Tre
/-- what Of answers -/
def OfV (H' : Heap) (base : Nat) (v : Value) (r : Option Tr × Nat) : Prop := match r.1 with
  | none => v = .tuple #[.pointer none, .int .i64 r.2]
  | some A => ∃ b mb, v = .tuple #[.pointer (some ⟨b, 0, none⟩), .int .i64 r.2] ∧ TreeO no H' b mb A ∧ Okay A ∧ base ≤ b ∧ base ≤ mb
structure OfS where
  i : Nat
  A : Tr
  seen : List Bs
  ls : List (Bs × Value)
set_option maxHeartbeats 4000000 in
theorem of_any (L : Tr) (a : Option Addr) (n cap : Nat) (H : Heap) (hr : RowF H a L) (hn : L.length = n) (hn1 : n ≤ 1000000000) (hb : ∀ f ∈ L, f.2.2.length ≤ 1000000000) : CallH Tryd.prog 13 [.slice a n cap] H fun v H' => OfV H' H.size v (ofF L) ∧ Ext H H' := by
  refine Vc.CallH.body Tryd.func13 Tryd.call13 rfl (by decide +kernel) rfl ?_
  ((conv => whnf); repeat (any_goals (first | ((refine (new_any _).mono ?_; rintro _ H1 ⟨⟨b, mb, rfl, ht1, hb1, hm1⟩, hx1⟩; have hz1 := hx1.size); (conv => whnf)) | (((with_reducible apply SemH.makeMap0); (focus ((intro H2 z2 m2 x2; (conv => whnf))))); (conv => whnf)) | (refine Vc.stp ?_; intros; (conv => whnf)) | (refine Vc.spl ?_ ?_ <;> (intro _; (conv => whnf))))))
  have hbl1 := ht1.blk.lt
  have hml1 := ht1.map.lt
  refine LoopH.intro (fun (x : OfS) => [(15, .int .i64 x.i)])
    (fun x H' => x.i ≤ n ∧ ofF L = ofGo x.A x.seen (L.drop x.i) ∧ TreeO no H' b mb x.A ∧ Okay x.A ∧ MapO H' H1.size x.ls ∧ (∀ k, mget x.ls k = if k ∈ x.seen then some (.int .i64 1) else none) ∧ Ext H H') (fun x => n - x.i) ⟨0, [], [], []⟩ ⟨rfl, trivial⟩ ⟨Nat.zero_le _, rfl, ht1.ext x2, Okay.nil, m2, fun k => rfl, hx1.trans x2⟩ ?_
  rintro ⟨i, A, seen, ls⟩ H3 ⟨hi, hof, ht3, hA, hm3, hls, hx3⟩
  dsimp only at hi hof ht3 hA hm3 hls ⊢
  have hz3 := hx3.size
  have htb3 := ht3.blk
  have hml3 := hm3.lt
  have hrow := hr.ext hx3
  have hne := ht3.map.ne htb3
  have hneS : mb ≠ H1.size := by omega
  by_cases hlt : i < n
  · obtain ⟨f, hf⟩ : ∃ f, L[i]? = some f := ⟨_, List.getElem?_eq_getElem (by omega)⟩
    have hfl := hb f (List.mem_of_getElem? hf)
    have hdr : L.drop i = f :: L.drop (i + 1) := by
      rw [List.drop_eq_getElem_cons (by omega)]
      rw [List.getElem?_eq_getElem (by omega)] at hf
      rw [Option.some.inj hf]
    rw [hdr, ofGo] at hof
    have hcl := fun H => clean_any f.1 H
    by_cases h0 : ¬ (cleanF f.1).2 = 0
    · rw [if_pos h0] at hof
      have h0' : ¬ ((cleanF f.1).2 : Int) = 0 := by omega
      rw [hof]
      generalize cleanF f.1 = c at *
      ((conv => whnf); repeat (any_goals (first | ((refine IdxA.file hrow hn i f (by omega) hf ?_; intro bi oi ai ci hri hci); (conv => whnf)) | (((with_reducible apply SemH.load_file); (focus ((exact hci))); (focus ((exact Ext.refl _))); (focus ((conv => whnf)))); (conv => whnf)) | ((refine (hcl _).mono ?_; rintro _ H6 ⟨rfl, hx6⟩; have hz6 := hx6.size); (conv => whnf)) | (refine Vc.stp ?_; intros; (conv => whnf)) | (refine Vc.spl ?_ ?_ <;> (intro _; (conv => whnf))))))
      exact ⟨rfl, hx3.trans (by (repeat (first | assumption | exact Vc.Ext.refl _ | ((with_reducible apply Vc.Ext.trans); (case k => assumption)) | ((with_reducible apply Vc.Ext.but); (case k => assumption); (case hb => omega)))))⟩
    have h0 : (cleanF f.1).2 = 0 := by omega
    have hq := clean_of h0
    rw [if_neg (by omega)] at hof
    obtain ⟨q, hqe⟩ : ∃ q, (cleanF f.1).1 = q := ⟨_, rfl⟩
    rw [h0, hqe] at hcl
    rw [hqe] at hq hof
    have hat := fun H' (k : Ext H3 H') => at_any (ht3.ext k) q
    have hlq := hls q
    by_cases hs : q ∈ seen
    · rw [if_pos (.inl hs)] at hof
      rw [if_pos hs] at hlq
      rw [hof]
      ((conv => whnf); repeat (any_goals (first | ((refine IdxA.file hrow hn i f (by omega) hf ?_; intro bi oi ai ci hri hci); (conv => whnf)) | (((with_reducible apply SemH.load_file); (focus ((exact hci))); (focus ((exact Ext.refl _))); (focus ((conv => whnf)))); (conv => whnf)) | ((refine (hcl _).mono ?_; rintro _ H6 ⟨rfl, hx6⟩; have hz6 := hx6.size); (conv => whnf)) | (((with_reducible apply SemH.lookupS m8); (focus (rfl)); (focus (rfl)); (focus (rfl)); (focus (rfl)); (focus ((rw [mget_put, if_pos rfl]; (conv => whnf))))); (conv => whnf)) | (((with_reducible apply SemH.lookupS (hm3.ext (by (repeat (first | assumption | exact Vc.Ext.refl _ | ((with_reducible apply Vc.Ext.trans); (case k => assumption)) | ((with_reducible apply Vc.Ext.but); (case k => assumption); (case hb => omega))))))); (focus (rfl)); (focus (rfl)); (focus (rfl)); (focus (rfl)); (focus ((rw [hlq]; (conv => whnf))))); (conv => whnf)) | (((with_reducible apply DoH.mapPut (hm3.ext (by (repeat (first | assumption | exact Vc.Ext.refl _ | ((with_reducible apply Vc.Ext.trans); (case k => assumption)) | ((with_reducible apply Vc.Ext.but); (case k => assumption); (case hb => omega))))))); (focus (rfl)); (focus (rfl)); (focus ((intro H8 z8 m8 x8; have hx37 := And.intro trivial (show Ext H3 H7 by (repeat (first | assumption | exact Vc.Ext.refl _ | ((with_reducible apply Vc.Ext.trans); (case k => assumption)) | ((with_reducible apply Vc.Ext.but); (case k => assumption); (case hb => omega))))); have hm7 := hm3.ext hx37.2; have ht8 := (ht3.ext hx37.2).keep x8 (fun e => by omega) (fun e => by omega) (fun x e _ => by subst e; exact .inl (.map hm7)); have hri8 := (hri.ext hx37.2).bytes x8 (fun x e _ => by subst e; exact .map hm7); (conv => whnf))))); (conv => whnf)) | ((refine (hat _ (by (repeat (first | assumption | exact Vc.Ext.refl _ | ((with_reducible apply Vc.Ext.trans); (case k => assumption)) | ((with_reducible apply Vc.Ext.but); (case k => assumption); (case hb => omega)))))).mono ?_; rintro v2 H7 ⟨hv2, hx7⟩; have hz7 := hx7.size); (conv => whnf)) | (refine Vc.stp ?_; intros; (conv => whnf)) | (refine Vc.spl ?_ ?_ <;> (intro _; (conv => whnf))))))
      exact ⟨rfl, (hx3.trans hx37.2).but x8 (by omega)⟩
    rw [if_neg hs] at hlq
    have hls' : ∀ k, mget (mput ls q (.int .i64 1)) k = if k ∈ seen ++ [q] then some (.int .i64 1) else none := fun k => by
      rw [mget_put]
      by_cases hk : k = q
      · rw [if_pos hk, if_pos (by simp [hk])]
      · rw [if_neg hk, hls]
        by_cases hk2 : k ∈ seen
        · rw [if_pos hk2, if_pos (by simp [hk2])]
        · rw [if_neg hk2, if_neg (by simp [hk2, hk])]
    have hAs : Okay (stepF A q f).1 := hA.step hq f
    by_cases hfd : f.2.1 = true
    · have hst : stepF A q f = mkdirF A q := by unfold stepF; rw [if_pos hfd, mkdirF_id A hq]
      by_cases hd : dirF A q = true
      · rw [if_pos (.inr ⟨hfd, hd⟩)] at hof
        obtain ⟨t, ht⟩ := (dir_node A q).1 hd
        rw [ht] at hat
        rw [hof]
        ((conv => whnf); repeat (any_goals (first | ((refine IdxA.file hrow hn i f (by omega) hf ?_; intro bi oi ai ci hri hci); (conv => whnf)) | (((with_reducible apply SemH.load_file); (focus ((exact hci))); (focus ((exact Ext.refl _))); (focus ((conv => whnf)))); (conv => whnf)) | ((refine (hcl _).mono ?_; rintro _ H6 ⟨rfl, hx6⟩; have hz6 := hx6.size); (conv => whnf)) | (((with_reducible apply SemH.lookupS m8); (focus (rfl)); (focus (rfl)); (focus (rfl)); (focus (rfl)); (focus ((rw [mget_put, if_pos rfl]; (conv => whnf))))); (conv => whnf)) | (((with_reducible apply SemH.lookupS (hm3.ext (by (repeat (first | assumption | exact Vc.Ext.refl _ | ((with_reducible apply Vc.Ext.trans); (case k => assumption)) | ((with_reducible apply Vc.Ext.but); (case k => assumption); (case hb => omega))))))); (focus (rfl)); (focus (rfl)); (focus (rfl)); (focus (rfl)); (focus ((rw [hlq]; (conv => whnf))))); (conv => whnf)) | (((with_reducible apply DoH.mapPut (hm3.ext (by (repeat (first | assumption | exact Vc.Ext.refl _ | ((with_reducible apply Vc.Ext.trans); (case k => assumption)) | ((with_reducible apply Vc.Ext.but); (case k => assumption); (case hb => omega))))))); (focus (rfl)); (focus (rfl)); (focus ((intro H8 z8 m8 x8; have hx37 := And.intro trivial (show Ext H3 H7 by (repeat (first | assumption | exact Vc.Ext.refl _ | ((with_reducible apply Vc.Ext.trans); (case k => assumption)) | ((with_reducible apply Vc.Ext.but); (case k => assumption); (case hb => omega))))); have hm7 := hm3.ext hx37.2; have ht8 := (ht3.ext hx37.2).keep x8 (fun e => by omega) (fun e => by omega) (fun x e _ => by subst e; exact .inl (.map hm7)); have hri8 := (hri.ext hx37.2).bytes x8 (fun x e _ => by subst e; exact .map hm7); (conv => whnf))))); (conv => whnf)) | ((refine (hat _ (by (repeat (first | assumption | exact Vc.Ext.refl _ | ((with_reducible apply Vc.Ext.trans); (case k => assumption)) | ((with_reducible apply Vc.Ext.but); (case k => assumption); (case hb => omega)))))).mono ?_; rintro v2 H7 ⟨hv2, hx7⟩; have hz7 := hx7.size; obtain ⟨g2, a2, c2, rfl, hb2, hr2⟩ := NodeO.out hv2; dsimp only at hb2; have hgne := (hm3.ext (show Ext H3 H7 by (repeat (first | assumption | exact Vc.Ext.refl _ | ((with_reducible apply Vc.Ext.trans); (case k => assumption)) | ((with_reducible apply Vc.Ext.but); (case k => assumption); (case hb => omega)))))).ne hb2); (conv => whnf)) | (refine Vc.stp ?_; intros; (conv => whnf)) | (refine Vc.spl ?_ ?_ <;> (intro _; (conv => whnf))))))
        exact ⟨rfl, (hx3.trans hx37.2).but x8 (by omega)⟩
      rw [if_neg (by rw [not_or]; exact ⟨hs, fun e => hd e.2⟩)] at hof
      by_cases hc : ¬ (stepF A q f).2 = 0
      · rw [if_pos hc] at hof
        rw [hof]
        rw [hst] at hc ⊢
        have hc' : ¬ ((mkdirF A q).2 : Int) = 0 := by omega
        cases hnq : nodeAt A q with
        | none =>
          rw [hnq] at hat
          ((conv => whnf); repeat (any_goals (first | ((refine IdxA.file hrow hn i f (by omega) hf ?_; intro bi oi ai ci hri hci); (conv => whnf)) | (((with_reducible apply SemH.load_file); (focus ((exact hci))); (focus ((exact Ext.refl _))); (focus ((conv => whnf)))); (conv => whnf)) | ((refine (hcl _).mono ?_; rintro _ H6 ⟨rfl, hx6⟩; have hz6 := hx6.size); (conv => whnf)) | (((with_reducible apply SemH.lookupS m8); (focus (rfl)); (focus (rfl)); (focus (rfl)); (focus (rfl)); (focus ((rw [mget_put, if_pos rfl]; (conv => whnf))))); (conv => whnf)) | (((with_reducible apply SemH.lookupS (hm3.ext (by (repeat (first | assumption | exact Vc.Ext.refl _ | ((with_reducible apply Vc.Ext.trans); (case k => assumption)) | ((with_reducible apply Vc.Ext.but); (case k => assumption); (case hb => omega))))))); (focus (rfl)); (focus (rfl)); (focus (rfl)); (focus (rfl)); (focus ((rw [hlq]; (conv => whnf))))); (conv => whnf)) | (((with_reducible apply DoH.mapPut (hm3.ext (by (repeat (first | assumption | exact Vc.Ext.refl _ | ((with_reducible apply Vc.Ext.trans); (case k => assumption)) | ((with_reducible apply Vc.Ext.but); (case k => assumption); (case hb => omega))))))); (focus (rfl)); (focus (rfl)); (focus ((intro H8 z8 m8 x8; have hx37 := And.intro trivial (show Ext H3 H7 by (repeat (first | assumption | exact Vc.Ext.refl _ | ((with_reducible apply Vc.Ext.trans); (case k => assumption)) | ((with_reducible apply Vc.Ext.but); (case k => assumption); (case hb => omega))))); have hm7 := hm3.ext hx37.2; have ht8 := (ht3.ext hx37.2).keep x8 (fun e => by omega) (fun e => by omega) (fun x e _ => by subst e; exact .inl (.map hm7)); have hri8 := (hri.ext hx37.2).bytes x8 (fun x e _ => by subst e; exact .map hm7); (conv => whnf))))); (conv => whnf)) | ((refine (hat _ (by (repeat (first | assumption | exact Vc.Ext.refl _ | ((with_reducible apply Vc.Ext.trans); (case k => assumption)) | ((with_reducible apply Vc.Ext.but); (case k => assumption); (case hb => omega)))))).mono ?_; rintro v2 H7 ⟨hv2, hx7⟩; have hz7 := hx7.size; obtain rfl := hv2); (conv => whnf)) | ((refine (mkdir_any (ht8.ext (by (repeat (first | assumption | exact Vc.Ext.refl _ | ((with_reducible apply Vc.Ext.trans); (case k => assumption)) | ((with_reducible apply Vc.Ext.but); (case k => assumption); (case hb => omega)))))) hA q).mono ?_; rintro _ H9 hd9; obtain rfl := hd9.code; have hz9 := hd9.only.size); (conv => whnf)) | ((refine (write_any (ht8.ext (by (repeat (first | assumption | exact Vc.Ext.refl _ | ((with_reducible apply Vc.Ext.trans); (case k => assumption)) | ((with_reducible apply Vc.Ext.but); (case k => assumption); (case hb => omega)))))) hA q f.2.2 ai _ ci (hri8.ext (by (repeat (first | assumption | exact Vc.Ext.refl _ | ((with_reducible apply Vc.Ext.trans); (case k => assumption)) | ((with_reducible apply Vc.Ext.but); (case k => assumption); (case hb => omega)))))) rfl (by omega)).mono ?_; rintro _ H9 hd9; obtain rfl := hd9.code; have hz9 := hd9.only.size); (conv => whnf)) | (refine Vc.stp ?_; intros; (conv => whnf)) | (refine Vc.spl ?_ ?_ <;> (intro _; (conv => whnf))))))
          exact ⟨rfl, (Only.trans ((hx3.trans hx37.2).but x8 (by omega)) hd9.only fun x hx e => by rcases e with rfl | rfl <;> omega)⟩
        | some nd =>
          obtain ⟨dd, t⟩ := nd
          have : dd = false := by cases dd with | false => rfl | true => exact absurd ((dir_node A q).2 ⟨t, hnq⟩) hd
          subst this
          rw [hnq] at hat
          ((conv => whnf); repeat (any_goals (first | ((refine IdxA.file hrow hn i f (by omega) hf ?_; intro bi oi ai ci hri hci); (conv => whnf)) | (((with_reducible apply SemH.load_file); (focus ((exact hci))); (focus ((exact Ext.refl _))); (focus ((conv => whnf)))); (conv => whnf)) | ((refine (hcl _).mono ?_; rintro _ H6 ⟨rfl, hx6⟩; have hz6 := hx6.size); (conv => whnf)) | (((with_reducible apply SemH.lookupS m8); (focus (rfl)); (focus (rfl)); (focus (rfl)); (focus (rfl)); (focus ((rw [mget_put, if_pos rfl]; (conv => whnf))))); (conv => whnf)) | (((with_reducible apply SemH.lookupS (hm3.ext (by (repeat (first | assumption | exact Vc.Ext.refl _ | ((with_reducible apply Vc.Ext.trans); (case k => assumption)) | ((with_reducible apply Vc.Ext.but); (case k => assumption); (case hb => omega))))))); (focus (rfl)); (focus (rfl)); (focus (rfl)); (focus (rfl)); (focus ((rw [hlq]; (conv => whnf))))); (conv => whnf)) | (((with_reducible apply DoH.mapPut (hm3.ext (by (repeat (first | assumption | exact Vc.Ext.refl _ | ((with_reducible apply Vc.Ext.trans); (case k => assumption)) | ((with_reducible apply Vc.Ext.but); (case k => assumption); (case hb => omega))))))); (focus (rfl)); (focus (rfl)); (focus ((intro H8 z8 m8 x8; have hx37 := And.intro trivial (show Ext H3 H7 by (repeat (first | assumption | exact Vc.Ext.refl _ | ((with_reducible apply Vc.Ext.trans); (case k => assumption)) | ((with_reducible apply Vc.Ext.but); (case k => assumption); (case hb => omega))))); have hm7 := hm3.ext hx37.2; have ht8 := (ht3.ext hx37.2).keep x8 (fun e => by omega) (fun e => by omega) (fun x e _ => by subst e; exact .inl (.map hm7)); have hri8 := (hri.ext hx37.2).bytes x8 (fun x e _ => by subst e; exact .map hm7); (conv => whnf))))); (conv => whnf)) | ((refine (hat _ (by (repeat (first | assumption | exact Vc.Ext.refl _ | ((with_reducible apply Vc.Ext.trans); (case k => assumption)) | ((with_reducible apply Vc.Ext.but); (case k => assumption); (case hb => omega)))))).mono ?_; rintro v2 H7 ⟨hv2, hx7⟩; have hz7 := hx7.size; obtain ⟨g2, a2, c2, rfl, hb2, hr2⟩ := NodeO.out hv2; dsimp only at hb2; have hgne := (hm3.ext (show Ext H3 H7 by (repeat (first | assumption | exact Vc.Ext.refl _ | ((with_reducible apply Vc.Ext.trans); (case k => assumption)) | ((with_reducible apply Vc.Ext.but); (case k => assumption); (case hb => omega)))))).ne hb2); (conv => whnf)) | ((refine (mkdir_any (ht8.ext (by (repeat (first | assumption | exact Vc.Ext.refl _ | ((with_reducible apply Vc.Ext.trans); (case k => assumption)) | ((with_reducible apply Vc.Ext.but); (case k => assumption); (case hb => omega)))))) hA q).mono ?_; rintro _ H9 hd9; obtain rfl := hd9.code; have hz9 := hd9.only.size); (conv => whnf)) | ((refine (write_any (ht8.ext (by (repeat (first | assumption | exact Vc.Ext.refl _ | ((with_reducible apply Vc.Ext.trans); (case k => assumption)) | ((with_reducible apply Vc.Ext.but); (case k => assumption); (case hb => omega)))))) hA q f.2.2 ai _ ci (hri8.ext (by (repeat (first | assumption | exact Vc.Ext.refl _ | ((with_reducible apply Vc.Ext.trans); (case k => assumption)) | ((with_reducible apply Vc.Ext.but); (case k => assumption); (case hb => omega)))))) rfl (by omega)).mono ?_; rintro _ H9 hd9; obtain rfl := hd9.code; have hz9 := hd9.only.size); (conv => whnf)) | (refine Vc.stp ?_; intros; (conv => whnf)) | (refine Vc.spl ?_ ?_ <;> (intro _; (conv => whnf))))))
          exact ⟨rfl, (Only.trans ((hx3.trans hx37.2).but x8 (by omega)) hd9.only fun x hx e => by rcases e with rfl | rfl <;> omega)⟩
      have hc : (stepF A q f).2 = 0 := by omega
      rw [if_neg (by omega)] at hof
      rw [hst] at hc hof hAs
      cases hnq : nodeAt A q with
      | none =>
        rw [hnq] at hat
        ((conv => whnf); repeat (any_goals (first | ((refine IdxA.file hrow hn i f (by omega) hf ?_; intro bi oi ai ci hri hci); (conv => whnf)) | (((with_reducible apply SemH.load_file); (focus ((exact hci))); (focus ((exact Ext.refl _))); (focus ((conv => whnf)))); (conv => whnf)) | ((refine (hcl _).mono ?_; rintro _ H6 ⟨rfl, hx6⟩; have hz6 := hx6.size); (conv => whnf)) | (((with_reducible apply SemH.lookupS m8); (focus (rfl)); (focus (rfl)); (focus (rfl)); (focus (rfl)); (focus ((rw [mget_put, if_pos rfl]; (conv => whnf))))); (conv => whnf)) | (((with_reducible apply SemH.lookupS (hm3.ext (by (repeat (first | assumption | exact Vc.Ext.refl _ | ((with_reducible apply Vc.Ext.trans); (case k => assumption)) | ((with_reducible apply Vc.Ext.but); (case k => assumption); (case hb => omega))))))); (focus (rfl)); (focus (rfl)); (focus (rfl)); (focus (rfl)); (focus ((rw [hlq]; (conv => whnf))))); (conv => whnf)) | (((with_reducible apply DoH.mapPut (hm3.ext (by (repeat (first | assumption | exact Vc.Ext.refl _ | ((with_reducible apply Vc.Ext.trans); (case k => assumption)) | ((with_reducible apply Vc.Ext.but); (case k => assumption); (case hb => omega))))))); (focus (rfl)); (focus (rfl)); (focus ((intro H8 z8 m8 x8; have hx37 := And.intro trivial (show Ext H3 H7 by (repeat (first | assumption | exact Vc.Ext.refl _ | ((with_reducible apply Vc.Ext.trans); (case k => assumption)) | ((with_reducible apply Vc.Ext.but); (case k => assumption); (case hb => omega))))); have hm7 := hm3.ext hx37.2; have ht8 := (ht3.ext hx37.2).keep x8 (fun e => by omega) (fun e => by omega) (fun x e _ => by subst e; exact .inl (.map hm7)); have hri8 := (hri.ext hx37.2).bytes x8 (fun x e _ => by subst e; exact .map hm7); (conv => whnf))))); (conv => whnf)) | ((refine (hat _ (by (repeat (first | assumption | exact Vc.Ext.refl _ | ((with_reducible apply Vc.Ext.trans); (case k => assumption)) | ((with_reducible apply Vc.Ext.but); (case k => assumption); (case hb => omega)))))).mono ?_; rintro v2 H7 ⟨hv2, hx7⟩; have hz7 := hx7.size; obtain rfl := hv2); (conv => whnf)) | ((refine (mkdir_any (ht8.ext (by (repeat (first | assumption | exact Vc.Ext.refl _ | ((with_reducible apply Vc.Ext.trans); (case k => assumption)) | ((with_reducible apply Vc.Ext.but); (case k => assumption); (case hb => omega)))))) hA q).mono ?_; rintro _ H9 hd9; obtain rfl := hd9.code; have hz9 := hd9.only.size); (conv => whnf)) | ((refine (write_any (ht8.ext (by (repeat (first | assumption | exact Vc.Ext.refl _ | ((with_reducible apply Vc.Ext.trans); (case k => assumption)) | ((with_reducible apply Vc.Ext.but); (case k => assumption); (case hb => omega)))))) hA q f.2.2 ai _ ci (hri8.ext (by (repeat (first | assumption | exact Vc.Ext.refl _ | ((with_reducible apply Vc.Ext.trans); (case k => assumption)) | ((with_reducible apply Vc.Ext.but); (case k => assumption); (case hb => omega)))))) rfl (by omega)).mono ?_; rintro _ H9 hd9; obtain rfl := hd9.code; have hz9 := hd9.only.size); (conv => whnf)) | (refine Vc.stp ?_; intros; (conv => whnf)) | (refine Vc.spl ?_ ?_ <;> (intro _; (conv => whnf))))))
        (exact ⟨⟨i + 1, (mkdirF A q).1, seen ++ [q], mput ls q (.int .i64 1)⟩, ⟨rfl, trivial⟩, ⟨by show i + 1 ≤ n; omega, hof, hd9.tree, hAs, MapO.keep m8 hd9.only (fun e => by rcases e with e | e <;> omega), hls', (Only.trans ((hx3.trans hx37.2).but x8 (by omega)) hd9.only fun x hx e => by rcases e with rfl | rfl <;> omega)⟩, by show n - (i + 1) < n - i; omega⟩)
      | some nd =>
        obtain ⟨dd, t⟩ := nd
        have : dd = false := by cases dd with | false => rfl | true => exact absurd ((dir_node A q).2 ⟨t, hnq⟩) hd
        subst this
        rw [hnq] at hat
        ((conv => whnf); repeat (any_goals (first | ((refine IdxA.file hrow hn i f (by omega) hf ?_; intro bi oi ai ci hri hci); (conv => whnf)) | (((with_reducible apply SemH.load_file); (focus ((exact hci))); (focus ((exact Ext.refl _))); (focus ((conv => whnf)))); (conv => whnf)) | ((refine (hcl _).mono ?_; rintro _ H6 ⟨rfl, hx6⟩; have hz6 := hx6.size); (conv => whnf)) | (((with_reducible apply SemH.lookupS m8); (focus (rfl)); (focus (rfl)); (focus (rfl)); (focus (rfl)); (focus ((rw [mget_put, if_pos rfl]; (conv => whnf))))); (conv => whnf)) | (((with_reducible apply SemH.lookupS (hm3.ext (by (repeat (first | assumption | exact Vc.Ext.refl _ | ((with_reducible apply Vc.Ext.trans); (case k => assumption)) | ((with_reducible apply Vc.Ext.but); (case k => assumption); (case hb => omega))))))); (focus (rfl)); (focus (rfl)); (focus (rfl)); (focus (rfl)); (focus ((rw [hlq]; (conv => whnf))))); (conv => whnf)) | (((with_reducible apply DoH.mapPut (hm3.ext (by (repeat (first | assumption | exact Vc.Ext.refl _ | ((with_reducible apply Vc.Ext.trans); (case k => assumption)) | ((with_reducible apply Vc.Ext.but); (case k => assumption); (case hb => omega))))))); (focus (rfl)); (focus (rfl)); (focus ((intro H8 z8 m8 x8; have hx37 := And.intro trivial (show Ext H3 H7 by (repeat (first | assumption | exact Vc.Ext.refl _ | ((with_reducible apply Vc.Ext.trans); (case k => assumption)) | ((with_reducible apply Vc.Ext.but); (case k => assumption); (case hb => omega))))); have hm7 := hm3.ext hx37.2; have ht8 := (ht3.ext hx37.2).keep x8 (fun e => by omega) (fun e => by omega) (fun x e _ => by subst e; exact .inl (.map hm7)); have hri8 := (hri.ext hx37.2).bytes x8 (fun x e _ => by subst e; exact .map hm7); (conv => whnf))))); (conv => whnf)) | ((refine (hat _ (by (repeat (first | assumption | exact Vc.Ext.refl _ | ((with_reducible apply Vc.Ext.trans); (case k => assumption)) | ((with_reducible apply Vc.Ext.but); (case k => assumption); (case hb => omega)))))).mono ?_; rintro v2 H7 ⟨hv2, hx7⟩; have hz7 := hx7.size; obtain ⟨g2, a2, c2, rfl, hb2, hr2⟩ := NodeO.out hv2; dsimp only at hb2; have hgne := (hm3.ext (show Ext H3 H7 by (repeat (first | assumption | exact Vc.Ext.refl _ | ((with_reducible apply Vc.Ext.trans); (case k => assumption)) | ((with_reducible apply Vc.Ext.but); (case k => assumption); (case hb => omega)))))).ne hb2); (conv => whnf)) | ((refine (mkdir_any (ht8.ext (by (repeat (first | assumption | exact Vc.Ext.refl _ | ((with_reducible apply Vc.Ext.trans); (case k => assumption)) | ((with_reducible apply Vc.Ext.but); (case k => assumption); (case hb => omega)))))) hA q).mono ?_; rintro _ H9 hd9; obtain rfl := hd9.code; have hz9 := hd9.only.size); (conv => whnf)) | ((refine (write_any (ht8.ext (by (repeat (first | assumption | exact Vc.Ext.refl _ | ((with_reducible apply Vc.Ext.trans); (case k => assumption)) | ((with_reducible apply Vc.Ext.but); (case k => assumption); (case hb => omega)))))) hA q f.2.2 ai _ ci (hri8.ext (by (repeat (first | assumption | exact Vc.Ext.refl _ | ((with_reducible apply Vc.Ext.trans); (case k => assumption)) | ((with_reducible apply Vc.Ext.but); (case k => assumption); (case hb => omega)))))) rfl (by omega)).mono ?_; rintro _ H9 hd9; obtain rfl := hd9.code; have hz9 := hd9.only.size); (conv => whnf)) | (refine Vc.stp ?_; intros; (conv => whnf)) | (refine Vc.spl ?_ ?_ <;> (intro _; (conv => whnf))))))
        (exact ⟨⟨i + 1, (mkdirF A q).1, seen ++ [q], mput ls q (.int .i64 1)⟩, ⟨rfl, trivial⟩, ⟨by show i + 1 ≤ n; omega, hof, hd9.tree, hAs, MapO.keep m8 hd9.only (fun e => by rcases e with e | e <;> omega), hls', (Only.trans ((hx3.trans hx37.2).but x8 (by omega)) hd9.only fun x hx e => by rcases e with rfl | rfl <;> omega)⟩, by show n - (i + 1) < n - i; omega⟩)
    · have hst : stepF A q f = writeF A q f.2.2 := by unfold stepF; rw [if_neg hfd, writeF_id A hq]
      have hfd' : f.2.1 = false := by simpa using hfd
      rw [if_neg (by rw [not_or]; exact ⟨hs, fun e => hfd e.1⟩)] at hof
      by_cases hc : ¬ (stepF A q f).2 = 0
      · rw [if_pos hc] at hof
        rw [hof]
        rw [hst] at hc ⊢
        have hc' : ¬ ((writeF A q f.2.2).2 : Int) = 0 := by omega
        ((conv => whnf); repeat (any_goals (first | ((refine IdxA.file hrow hn i f (by omega) hf ?_; intro bi oi ai ci hri hci); (conv => whnf)) | (((with_reducible apply SemH.load_file); (focus ((exact hci))); (focus ((exact Ext.refl _))); (focus ((conv => whnf)))); (conv => whnf)) | ((refine (hcl _).mono ?_; rintro _ H6 ⟨rfl, hx6⟩; have hz6 := hx6.size); (conv => whnf)) | (((with_reducible apply SemH.lookupS m8); (focus (rfl)); (focus (rfl)); (focus (rfl)); (focus (rfl)); (focus ((rw [mget_put, if_pos rfl]; (conv => whnf))))); (conv => whnf)) | (((with_reducible apply SemH.lookupS (hm3.ext (by (repeat (first | assumption | exact Vc.Ext.refl _ | ((with_reducible apply Vc.Ext.trans); (case k => assumption)) | ((with_reducible apply Vc.Ext.but); (case k => assumption); (case hb => omega))))))); (focus (rfl)); (focus (rfl)); (focus (rfl)); (focus (rfl)); (focus ((rw [hlq]; (conv => whnf))))); (conv => whnf)) | (((with_reducible apply DoH.mapPut (hm3.ext (by (repeat (first | assumption | exact Vc.Ext.refl _ | ((with_reducible apply Vc.Ext.trans); (case k => assumption)) | ((with_reducible apply Vc.Ext.but); (case k => assumption); (case hb => omega))))))); (focus (rfl)); (focus (rfl)); (focus ((intro H8 z8 m8 x8; have hx37 := And.intro trivial (show Ext H3 H7 by (repeat (first | assumption | exact Vc.Ext.refl _ | ((with_reducible apply Vc.Ext.trans); (case k => assumption)) | ((with_reducible apply Vc.Ext.but); (case k => assumption); (case hb => omega))))); have hm7 := hm3.ext hx37.2; have ht8 := (ht3.ext hx37.2).keep x8 (fun e => by omega) (fun e => by omega) (fun x e _ => by subst e; exact .inl (.map hm7)); have hri8 := (hri.ext hx37.2).bytes x8 (fun x e _ => by subst e; exact .map hm7); (conv => whnf))))); (conv => whnf)) | ((refine (hat _ (by (repeat (first | assumption | exact Vc.Ext.refl _ | ((with_reducible apply Vc.Ext.trans); (case k => assumption)) | ((with_reducible apply Vc.Ext.but); (case k => assumption); (case hb => omega)))))).mono ?_; rintro v2 H7 ⟨hv2, hx7⟩; have hz7 := hx7.size); (conv => whnf)) | ((refine (mkdir_any (ht8.ext (by (repeat (first | assumption | exact Vc.Ext.refl _ | ((with_reducible apply Vc.Ext.trans); (case k => assumption)) | ((with_reducible apply Vc.Ext.but); (case k => assumption); (case hb => omega)))))) hA q).mono ?_; rintro _ H9 hd9; obtain rfl := hd9.code; have hz9 := hd9.only.size); (conv => whnf)) | ((refine (write_any (ht8.ext (by (repeat (first | assumption | exact Vc.Ext.refl _ | ((with_reducible apply Vc.Ext.trans); (case k => assumption)) | ((with_reducible apply Vc.Ext.but); (case k => assumption); (case hb => omega)))))) hA q f.2.2 ai _ ci (hri8.ext (by (repeat (first | assumption | exact Vc.Ext.refl _ | ((with_reducible apply Vc.Ext.trans); (case k => assumption)) | ((with_reducible apply Vc.Ext.but); (case k => assumption); (case hb => omega)))))) rfl (by omega)).mono ?_; rintro _ H9 hd9; obtain rfl := hd9.code; have hz9 := hd9.only.size); (conv => whnf)) | (refine Vc.stp ?_; intros; (conv => whnf)) | (refine Vc.spl ?_ ?_ <;> (intro _; (conv => whnf))))))
        exact ⟨rfl, (Only.trans ((hx3.trans hx37.2).but x8 (by omega)) hd9.only fun x hx e => by rcases e with rfl | rfl <;> omega)⟩
      have hc : (stepF A q f).2 = 0 := by omega
      rw [if_neg (by omega)] at hof
      rw [hst] at hc hof hAs
      ((conv => whnf); repeat (any_goals (first | ((refine IdxA.file hrow hn i f (by omega) hf ?_; intro bi oi ai ci hri hci); (conv => whnf)) | (((with_reducible apply SemH.load_file); (focus ((exact hci))); (focus ((exact Ext.refl _))); (focus ((conv => whnf)))); (conv => whnf)) | ((refine (hcl _).mono ?_; rintro _ H6 ⟨rfl, hx6⟩; have hz6 := hx6.size); (conv => whnf)) | (((with_reducible apply SemH.lookupS m8); (focus (rfl)); (focus (rfl)); (focus (rfl)); (focus (rfl)); (focus ((rw [mget_put, if_pos rfl]; (conv => whnf))))); (conv => whnf)) | (((with_reducible apply SemH.lookupS (hm3.ext (by (repeat (first | assumption | exact Vc.Ext.refl _ | ((with_reducible apply Vc.Ext.trans); (case k => assumption)) | ((with_reducible apply Vc.Ext.but); (case k => assumption); (case hb => omega))))))); (focus (rfl)); (focus (rfl)); (focus (rfl)); (focus (rfl)); (focus ((rw [hlq]; (conv => whnf))))); (conv => whnf)) | (((with_reducible apply DoH.mapPut (hm3.ext (by (repeat (first | assumption | exact Vc.Ext.refl _ | ((with_reducible apply Vc.Ext.trans); (case k => assumption)) | ((with_reducible apply Vc.Ext.but); (case k => assumption); (case hb => omega))))))); (focus (rfl)); (focus (rfl)); (focus ((intro H8 z8 m8 x8; have hx37 := And.intro trivial (show Ext H3 H7 by (repeat (first | assumption | exact Vc.Ext.refl _ | ((with_reducible apply Vc.Ext.trans); (case k => assumption)) | ((with_reducible apply Vc.Ext.but); (case k => assumption); (case hb => omega))))); have hm7 := hm3.ext hx37.2; have ht8 := (ht3.ext hx37.2).keep x8 (fun e => by omega) (fun e => by omega) (fun x e _ => by subst e; exact .inl (.map hm7)); have hri8 := (hri.ext hx37.2).bytes x8 (fun x e _ => by subst e; exact .map hm7); (conv => whnf))))); (conv => whnf)) | ((refine (hat _ (by (repeat (first | assumption | exact Vc.Ext.refl _ | ((with_reducible apply Vc.Ext.trans); (case k => assumption)) | ((with_reducible apply Vc.Ext.but); (case k => assumption); (case hb => omega)))))).mono ?_; rintro v2 H7 ⟨hv2, hx7⟩; have hz7 := hx7.size); (conv => whnf)) | ((refine (mkdir_any (ht8.ext (by (repeat (first | assumption | exact Vc.Ext.refl _ | ((with_reducible apply Vc.Ext.trans); (case k => assumption)) | ((with_reducible apply Vc.Ext.but); (case k => assumption); (case hb => omega)))))) hA q).mono ?_; rintro _ H9 hd9; obtain rfl := hd9.code; have hz9 := hd9.only.size); (conv => whnf)) | ((refine (write_any (ht8.ext (by (repeat (first | assumption | exact Vc.Ext.refl _ | ((with_reducible apply Vc.Ext.trans); (case k => assumption)) | ((with_reducible apply Vc.Ext.but); (case k => assumption); (case hb => omega)))))) hA q f.2.2 ai _ ci (hri8.ext (by (repeat (first | assumption | exact Vc.Ext.refl _ | ((with_reducible apply Vc.Ext.trans); (case k => assumption)) | ((with_reducible apply Vc.Ext.but); (case k => assumption); (case hb => omega)))))) rfl (by omega)).mono ?_; rintro _ H9 hd9; obtain rfl := hd9.code; have hz9 := hd9.only.size); (conv => whnf)) | (refine Vc.stp ?_; intros; (conv => whnf)) | (refine Vc.spl ?_ ?_ <;> (intro _; (conv => whnf))))))
      (exact ⟨⟨i + 1, (writeF A q f.2.2).1, seen ++ [q], mput ls q (.int .i64 1)⟩, ⟨rfl, trivial⟩, ⟨by show i + 1 ≤ n; omega, hof, hd9.tree, hAs, MapO.keep m8 hd9.only (fun e => by rcases e with e | e <;> omega), hls', (Only.trans ((hx3.trans hx37.2).but x8 (by omega)) hd9.only fun x hx e => by rcases e with rfl | rfl <;> omega)⟩, by show n - (i + 1) < n - i; omega⟩)
  · obtain rfl : i = n := by omega
    rw [List.drop_of_length_le (by omega), ofGo] at hof
    rw [hof]
    ((conv => whnf); repeat (any_goals (first | (refine Vc.stp ?_; intros; (conv => whnf)) | (refine Vc.spl ?_ ?_ <;> (intro _; (conv => whnf))))))
    exact ⟨⟨b, mb, rfl, ht3, hA, hb1, hm1⟩, hx3⟩
end Go.Proofs.YtjcmcmogbkdjcaaDoor
