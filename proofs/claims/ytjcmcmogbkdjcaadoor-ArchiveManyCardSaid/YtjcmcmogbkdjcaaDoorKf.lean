import Derived.Test.YtjcmcmogbkdjcaaDoorKc
import Derived.Test.YtjcmcmogbkdjcaaDoorKe
import Derived.Test.YtjcmcmogbkdjcaaDoorKd
set_option linter.unusedVariables false
set_option linter.unusedSimpArgs false
set_option maxRecDepth 100000
/- Paths, the reference: parts, what a path is cleaned to, what stands above and below it. -/
namespace Go.Pth
open Go.Scr
def p_glueF (cur : Txt) : List Txt → List Txt
  | [] => [cur]
  | w :: l => (cur ++ w) :: l
theorem p_glueF_nil (l : List Txt) (h : l ≠ []) : p_glueF [] l = l := by cases l with | nil => exact absurd rfl h | cons w l => rfl
theorem p_glueF_step {c x : UInt8} (h : x ≠ c) (cur t : Txt) : p_glueF cur (splitF c (x :: t)) = p_glueF (cur ++ [x]) (splitF c t) := by
  rw [splitF, if_neg h]
  cases splitF c t with
  | nil => rfl
  | cons w l => simp [p_glueF]
theorem p_glueF_cut (c : UInt8) (cur t : Txt) : p_glueF cur (splitF c (c :: t)) = cur :: splitF c t := by
  rw [splitF, if_pos rfl]; simp [p_glueF]
/-- what stands from a to b -/
def p_mid (l : Txt) (a b : Nat) : Txt := (l.drop a).take (b - a)
theorem p_mid_self (l : Txt) (a : Nat) : p_mid l a a = [] := by simp [p_mid]
theorem p_mid_snoc {l : Txt} {a b : Nat} {c : UInt8} {t : Txt} (hab : a ≤ b) (h : l.drop b = c :: t) : p_mid l a (b + 1) = p_mid l a b ++ [c] := by
  unfold p_mid
  have e : b + 1 - a = (b - a) + 1 := by omega
  have h2 : (l.drop a).drop (b - a) = c :: t := by rw [List.drop_drop, show a + (b - a) = b by omega]; exact h
  rw [e, List.take_add_one]
  congr 1
  have := congrArg (·[0]?) h2
  simp only [List.getElem?_drop, List.getElem?_cons_zero] at this
  simp only [List.getElem?_drop]
  have h3 : (0 : Nat) + (a + (b - a)) = a + (b - a) := by omega
  simp at this
  simp [this]
theorem p_mid_len (l : Txt) (a b : Nat) : (p_mid l a b).length ≤ l.length := by unfold p_mid; rw [List.length_take, List.length_drop]; omega
def rcleanF (base : List Txt) (s : Txt) : Txt × Nat :=
  if 200 < s.length then ([], 50) else if s.head? = some 47 then ([], 51) else (glue (walkF base.length base (splitF 47 s)).1, (walkF base.length base (splitF 47 s)).2)
theorem rclean_nil (s : Txt) : rcleanF [] s = cleanF s := by
  unfold rcleanF cleanF joinP
  rw [if_pos (rfl : ([] : Txt) = []), Nat.zero_add]; rfl
end Go.Pth
namespace Go.Vc
theorem NextH.dup {P : Program} {H : Heap} {t u e ty : TypeId} {i : TypeInfo} {z : Value} {a : Option Addr} {m c : Nat} {xs : List Value} {cb : Array Bool} {K : Value → Heap → Prop}
    (hr : Row H a xs) (hl : xs.length = m) (hp : ∀ u ∈ xs, plainV u = true) (hm : m ≤ 4000000000000) (ht : P.underlying t = some (.slice e)) (hu : ∃ d, P.underlying u = some d ∧ (∀ k, d ≠ .int k)) (hi : P.info? e = some i) (hz : i.zero = some z) (hzs : z.cells.size = i.size) (h1 : i.size = 1)
    (hby : Nat.ble i.bytes 16 = true) (hk : ∀ a' cap' H', Own H' H.size e 1 a' m cap' xs → Ext H H' → K (.slice a' m cap') H') :
    NextH P (builtin .append #[t, u] ty cb #[.slice none 0 0, .slice a m c]) H K := by
  have hby := Nat.le_of_ble_eq_true hby
  refine NextH.append (m := m) (news := xs) ht hu hi hz hzs (Own.nil _ H.size _ _) (Src.row hr (by rw [h1, hl]; omega) hp) (by unfold maxLen; omega) ?_ (Nat.le_refl _) fun a' cap' H' g1 g2 _ => ?_
  · calc (0 + m) * i.bytes ≤ (0 + m) * 16 := Nat.mul_le_mul_left _ hby
      _ ≤ _ := by omega
  · rw [h1, List.nil_append, Nat.zero_add] at g1
    rw [Nat.zero_add]
    exact hk a' cap' H' g1 (g2.mono fun b ⟨p, hp, _⟩ => by cases hp)
end Go.Vc
namespace Go.Proofs.YtjcmcmogbkdjcaaDoor
open Go Go.Vc Go.Scr Go.Pth
structure PkSt where
  i : Nat
  fr : Nat
  out : List Bs
  a : Option Addr
  cap : Nat
def p_splitI (s : Bs) (x : PkSt) : List Bs := if x.i ≤ s.length then x.out ++ p_glueF (p_mid s x.fr x.i) (splitF 47 (s.drop x.i)) else x.out
theorem glue_take {l : List Bs} {i : Nat} {x : Bs} (h : l[i]? = some x) : glue (l.take (i + 1)) = if i = 0 then x else glue (l.take i) ++ 47 :: x := by
  have hlt : i < l.length := (List.getElem?_eq_some_iff.1 h).1
  rw [List.take_add_one, h]
  split
  · rename_i h0; subst h0; rfl
  · rename_i h0
    exact glue_app (b := [x]) (fun e => by have := congrArg List.length e; rw [List.length_take, List.length_nil] at this; omega) (by simp)
end Go.Proofs.YtjcmcmogbkdjcaaDoor
/- Paths and trees, the reference: paths cleaned, parts, parents; what stands at a path and above it. -/
namespace Go.Vc
/-- nothing behind nothing -/
theorem NextH.none0 {P : Program} {H : Heap} {t u e ty : TypeId} {i : TypeInfo} {a : Option Addr} {c : Nat} {cb : Array Bool} {K : Value → Heap → Prop}
    (ht : P.underlying t = some (.slice e)) (hu : ∃ d, P.underlying u = some d ∧ (∀ k, d ≠ .int k)) (hi : P.info? e = some i) (hk : K (.slice none 0 0) H) :
    NextH P (builtin .append #[t, u] ty cb #[.slice none 0 0, .slice a 0 c]) H K := by
  refine ⟨fun w hw => ?_⟩
  obtain ⟨d, hu, hd⟩ := hu
  have hzero : (match d with | .int _ => true | _ => false) = false := by cases d <;> first | rfl | exact absurd rfl (hd _)
  have hsrc : Src P H (.slice a 0 c) i.size 0 [] := Src.row (Row.nil _ _) (by simp) (by simp)
  have hr : (Builtin.append_ #[t, u] ty #[.slice none 0 0, .slice a 0 c]).run P w = .ok (.slice none 0 0) w := by
    simp [Builtin.append_, underlying_of ht, underlying_of hu, sizeOf_of hi, hzero, hsrc.lenOf, hsrc.first w hw]
  simp only [builtin, Sem.run_bind, hr, Result.andThen_ok]
  exact ⟨Same.refl w, by rw [hw]; exact hk⟩
end Go.Vc
namespace Go.Proofs.YtjcmcmogbkdjcaaDoor
open Go Go.Vc Go.Scr Go.Pth Go.Tre
structure WcS where
  i : Nat
  out : List Bs
  a : Option Addr
  cap : Nat
theorem glen_le_len (m : List Bs) : m.length ≤ glen m := by
  induction m with
  | nil => exact Nat.zero_le _
  | cons y m ih => rw [show glen (y :: m) = y.length + 1 + glen m by simp [glen], List.length_cons]; omega
end Go.Proofs.YtjcmcmogbkdjcaaDoor
/- The reference's trees: parts, parents, what stands at a path and above it. -/
namespace Go.Proofs.YtjcmcmogbkdjcaaDoor
open Go Go.Vc Go.Scr Go.Pth Go.Tre
theorem glen_parts (p : Bs) : glen (partsF p) ≤ p.length + 1 := by
  unfold partsF
  split
  · exact Nat.zero_le _
  · rw [glen_split]; exact Nat.le_refl _
/-- what at answers -/
def RatV (v : Value) (A : Tr) (p : Txt) : Prop := (mget A p = none ∧ v = .int .i64 (-1)) ∨ ∃ (i : Nat) (n : Tre.Node), A[i]? = some (p, n) ∧ mget A p = some n ∧ v = .int .i64 i
def RaheadV (H' : Heap) (base : Nat) (v : Value) (A : Tr) (p : Txt) : Prop :=
  if fileF A p = true then v = .tuple #[.bool true, .slice none 0 0]
  else ∃ a cap, v = .tuple #[.bool false, .slice a (lackF A p).length cap] ∧ Own H' base 9 1 a (lackF A p).length cap (strs (lackF A p))
structure RaS where
  m : Nat
  out : List Bs
  a : Option Addr
  cap : Nat
end Go.Proofs.YtjcmcmogbkdjcaaDoor
/- The reference's trees: a file or directory is put in its place; sizes. -/
namespace Go.Vc
/-- behind a slice that is full: new cells -/
theorem NextH.appendFull {P : Program} {H : Heap} {t u e ty : TypeId} {i : TypeInfo} {z : Value} {a : Option Addr} {n : Nat} {xs : List Value} {x : Value} {m : Nat} {news : List Value} {cb : Array Bool} {K : Value → Heap → Prop}
    (hr : Row H a xs) (hl : xs.length = n * i.size) (hsrc : Src P H x i.size m news) (hm : 0 < m)
    (ht : P.underlying t = some (.slice e)) (hu : ∃ d, P.underlying u = some d ∧ (∀ k, d ≠ .int k)) (hi : P.info? e = some i) (hz : i.zero = some z) (hzs : z.cells.size = i.size)
    (h63 : n + m ≤ maxLen) (hbytes : (n + m) * i.bytes ≤ 140737488355328)
    (hk : ∀ cap' H', Own H' H.size e i.size (some ⟨H.size, 0, none⟩) (n + m) cap' (xs ++ news) → Ext H H' → K (.slice (some ⟨H.size, 0, none⟩) (n + m) cap') H') :
    NextH P (builtin .append #[t, u] ty cb #[.slice a n n, x]) H K := by
  refine ⟨fun w hw => ?_⟩
  obtain ⟨d, hu, hd⟩ := hu
  have hzero : (match d with | .int _ => true | _ => false) = false := by cases d <;> first | rfl | exact absurd rfl (hd _)
  have hsmall : n + m ≤ 9223372036854775807 := by have := h63; simp only [maxLen] at this; omega
  have hlen : (xs ++ news).length = (n + m) * i.size := by rw [List.length_append, hl, hsrc.len, Nat.add_mul]
  have hroom : ¬ n + m ≤ n := by omega
  have hroom' : ¬ m = 0 := by omega
  have goal : ∀ {v w'}, (Builtin.append_ #[t, u] ty #[.slice a n n, x]).run P w = .ok v w' → Same w w' → K v w'.heap → Nexts P w K ((builtin .append #[t, u] ty cb #[.slice a n n, x]).run P w) := by
    intro v w' hr hs hk
    simp only [builtin, Sem.run_bind, hr, Result.andThen_ok]
    exact ⟨hs, hk⟩
  have hgrow : n < n + m := by omega
  have h63' : ¬ (9223372036854775807 < ((n : Int) + (m : Int))) := by omega
  have hfit := growslice_fits hgrow hbytes
  have h48 : ¬ (281474976710656 < Builtin.nextslicecap (n + m) n * i.bytes) := by omega
  have hold : ∀ w' : World, w'.heap = H → (Builtin.firstCells i.size n (.slice a n n)).run P w' = .ok xs.toArray w' := fun w' hw' => run_firstRow hr hl w' hw'
  have hge : n + m ≤ grownCap w (n + m) n e := grownCap_ge w (n + m) n e
  have hcm : grownCap w (n + m) n e ≤ maxLen := grownCap_le_maxLen w (n + m) n e h63
  refine goal (v := .slice (some ⟨w.heap.size, 0, none⟩) (n + m) (grownCap w (n + m) n e))
    (w' := w.drew.alloc (.cells (xs.toArray ++ news.toArray ++ Builtin.zeroCells z.cells (grownCap w (n + m) n e - (n + m))) e)) ?_ ⟨rfl, rfl, rfl⟩ ?_
  · have e1 := hold w.drew hw
    have e2 := hsrc.first w.drew hw
    simp [Builtin.append_, underlying_of ht, underlying_of hu, sizeOf_of hi, typeInfo_of hi, hzero, hsrc.lenOf, hroom, hroom', h63', h48, Question.forced, e1, e2, zeroValue, hz, newRow, grownCap]
    congr 2
    apply Array.ext'
    simp [List.append_assoc]
  · subst hw
    refine hk _ _ ⟨hlen, .inr ⟨w.heap.size, _, rfl, Nat.le_refl _, Blk.new (push_last _ _), hge, hcm, ?_, ?_⟩⟩ (Only.push _ _ _)
    · simp only [Array.size_append, List.size_toArray, size_zeroCells, hzs, hl, hsrc.len, ← Nat.add_mul]
      congr 1
      omega
    · simp only [Array.toList_append, List.append_assoc]
      rw [← List.append_assoc, ← hlen]
      exact List.take_left
end Go.Vc
namespace Go.Tre
open Go.Pth Go.Scr
open Go.Vc (mget mput mdel mget_put mget_mem mget_of_mem mget_none)
theorem putF_at : ∀ (A : Tr) (p : Txt) (n : Node) (i : Nat), (∀ j x, j < i → A[j]? = some x → Op.bytesLess x.1 p = true) → i ≤ A.length → (∀ x, A[i]? = some x → Op.bytesLess x.1 p = false) →
    putF A p n = A.take i ++ (p, n) :: A.drop (if A[i]?.map (·.1) = some p then i + 1 else i)
  | [], p, n, i, _, hi, _ => by
    obtain rfl : i = 0 := by simpa using hi
    rfl
  | x :: l, p, n, 0, _, _, h => by
    have := h x rfl
    simp only [putF]
    rw [if_neg (by rw [this]; simp)]
    by_cases e : x.1 = p
    · rw [if_pos e]; simp [e]
    · rw [if_neg e]; simp [e]
  | x :: l, p, n, i + 1, h1, hi, h => by
    have hx := h1 0 x (by omega) rfl
    simp only [putF]
    rw [if_pos hx, putF_at l p n i (fun j y hj hy => h1 (j + 1) y (by omega) (by simpa using hy)) (by simpa using hi) (fun y hy => h y (by simpa using hy))]
    simp only [List.getElem?_cons_succ, List.take_succ_cons, List.cons_append]
    congr 2
    by_cases e : l[i]?.map (·.1) = some p
    · rw [if_pos e, if_pos e]; rfl
    · rw [if_neg e, if_neg e]; rfl
end Go.Tre
namespace Go.Proofs.YtjcmcmogbkdjcaaDoor
open Go Go.Vc Go.Scr Go.Pth Go.Tre
/-- files behind files -/
theorem NextH.fullF {H : Heap} {u ty : TypeId} {a a2 : Option Addr} {n m c2 : Nat} {xs news : List Value} {cb : Array Bool} {K : Value → Heap → Prop}
    (hr : Row H a xs) (hl : xs.length = n * 3) (hr2 : Row H a2 news) (hl2 : news.length = m * 3) (hp : ∀ u ∈ news, plainV u = true) (hm : 0 < m) (hn : n + m ≤ 4000000) (hu : ∃ d, Tryd.prog.underlying u = some d ∧ (∀ k, d ≠ .int k))
    (hk : ∀ cap' H', Own H' H.size 26 3 (some ⟨H.size, 0, none⟩) (n + m) cap' (xs ++ news) → Ext H H' → K (.slice (some ⟨H.size, 0, none⟩) (n + m) cap') H') :
    NextH Tryd.prog (builtin .append #[23, u] ty cb #[.slice a n n, .slice a2 m c2]) H K := by
  refine Go.Vc.NextH.appendFull (i := Tryd.t26) (z := .agg #[.string ⟨#[]⟩, .bool false, .slice none 0 0]) hr hl (Src.row hr2 hl2 hp) hm rfl hu rfl rfl rfl (by unfold maxLen; omega) ?_ hk
  exact Nat.le_trans (Nat.mul_le_mul_left (n + m) (show _ ≤ 64 from by decide)) (by omega)
theorem NextH.appF {H : Heap} {u ty : TypeId} {a a2 : Option Addr} {n m cap c2 base : Nat} {xs news : List Value} {cb : Array Bool} {K : Value → Heap → Prop}
    (ho : Own H base 26 3 a n cap xs) (hr2 : Row H a2 news) (hl2 : news.length = m * 3) (hp : ∀ u ∈ news, plainV u = true) (hb : base ≤ H.size) (hn : n + m ≤ 4000000) (hu : ∃ d, Tryd.prog.underlying u = some d ∧ (∀ k, d ≠ .int k))
    (hk : ∀ a' cap' H', Own H' base 26 3 a' (n + m) cap' (xs ++ news) → Wr a H H' → K (.slice a' (n + m) cap') H') :
    NextH Tryd.prog (builtin .append #[23, u] ty cb #[.slice a n cap, .slice a2 m c2]) H K := by
  refine Go.Vc.NextH.append (i := Tryd.t26) (z := .agg #[.string ⟨#[]⟩, .bool false, .slice none 0 0]) rfl hu rfl rfl rfl ho (Src.row hr2 hl2 hp) (by unfold maxLen; omega) ?_ hb fun a' cap' H' h1 h2 _ => hk a' cap' H' h1 h2
  exact Nat.le_trans (Nat.mul_le_mul_left (n + m) (show _ ≤ 64 from by decide)) (by omega)
theorem toList_mkS (l : Bs) : (mkS l).toList = l := by rw [ByteArray.toList_eq]
theorem fileC_plain (x : Bs × Tre.Node) (a : Option Addr) (c : Nat) : ∀ u ∈ fileC x a c, plainV u = true := by simp [fileC, plainV]
theorem own_litK {H : Heap} {g base : Nat} {e : TypeId} {xs : List Value} (h : Blk H g xs.toArray e) (hb : base ≤ g) : Own H base e xs.length (some ⟨g, 0, none⟩) 1 1 xs := ⟨by simp, .inr ⟨g, xs.toArray, rfl, hb, h, Nat.le_refl _, by unfold maxLen; omega, by simp, by simp⟩⟩
end Go.Proofs.YtjcmcmogbkdjcaaDoor
/- The reference's trees: sizes; directories are made; files are written and read. -/
namespace Go.Tre
open Go.Pth Go.Scr
open Go.Vc (mget mput mdel mget_put mget_mem mget_of_mem mget_none)
theorem putF_le (p : Txt) (n : Node) : ∀ A : Tr, (putF A p n).length ≤ A.length + 1
  | [] => by simp [putF]
  | x :: l => by
    simp only [putF]
    split
    · have := putF_le p n l; simp; omega
    · split <;> simp
theorem makeF_le : ∀ (l : List Txt) (A : Tr), (makeF A l).length ≤ A.length + l.length
  | [], A => by simp [makeF]
  | d :: l, A => by
    have h1 := makeF_le l (putF A d (true, []))
    have h2 := putF_le d (true, []) A
    show (makeF (putF A d (true, [])) l).length ≤ _
    simp; omega
end Go.Tre
namespace Go.Proofs.YtjcmcmogbkdjcaaDoor
open Go Go.Vc Go.Scr Go.Pth Go.Tre
theorem rfileB1 {K : Value → Prop} {o1 o2 : Operand} {s : ByteArray} {x : Bool} (h : K (.agg #[.string s, .bool x, .slice none 0 0])) : PureH Tryd.prog (Instr.build 26 ((List.map (fun x : Nat × Operand => x.1) (#[(0, o1), (1, o2)] : Array (Nat × Operand)).toList).zip [.string s, .bool x]).toArray) K := PureH.build _ (by kernel_rfl) h
theorem rfileB2 {K : Value → Prop} {o1 o2 : Operand} {s : ByteArray} {a : Option Addr} {n c : Nat} (h : K (.agg #[.string s, .bool false, .slice a n c])) : PureH Tryd.prog (Instr.build 26 ((List.map (fun x : Nat × Operand => x.1) (#[(0, o1), (2, o2)] : Array (Nat × Operand)).toList).zip [.string s, .slice a n c]).toArray) K := PureH.build _ (by kernel_rfl) h
end Go.Proofs.YtjcmcmogbkdjcaaDoor
/- The reference's trees: files are written and read, directories made. -/
namespace Go.Proofs.YtjcmcmogbkdjcaaDoor
open Go Go.Vc Go.Scr Go.Pth Go.Tre
theorem nil_none {A : Tr} (hA : Okay A) {q : Bs} (h : q = []) : mget A q = none := by
  cases hg : mget A q with
  | none => rfl
  | some n => exact absurd h (hA.clean q n hg).2
end Go.Proofs.YtjcmcmogbkdjcaaDoor
/- The reference's trees: what is appended, read, made, there. -/
namespace Go.Proofs.YtjcmcmogbkdjcaaDoor
open Go Go.Vc Go.Scr Go.Pth Go.Tre
end Go.Proofs.YtjcmcmogbkdjcaaDoor
/- The reference's trees: what is appended, taken away. -/
namespace Go.Proofs.YtjcmcmogbkdjcaaDoor
open Go Go.Vc Go.Scr Go.Pth Go.Tre
structure RmS where
  i : Nat
  vs : List Value
  a : Option Addr
  cap : Nat
end Go.Proofs.YtjcmcmogbkdjcaaDoor
/- The reference's trees: what stands below a path, as it would at another. -/
namespace Go.Tre
open Go.Pth Go.Scr
open Go.Vc (mget mput mdel mget_put mget_mem mget_of_mem mget_none)
theorem moved_snoc (A : Tr) (p q : Txt) (i : Nat) (x : Txt × Node) (hx : A[i]? = some x) : movedF (A.take (i + 1)) p q = movedF (A.take i) p q ++ if withinF x.1 p = true then [(q ++ x.1.drop p.length, x.2)] else [] := by
  have : A.take (i + 1) = A.take i ++ [x] := by rw [List.take_add_one, hx]; rfl
  rw [this]
  unfold movedF
  rw [List.filter_append, List.map_append]
  by_cases hw : withinF x.1 p = true <;> simp [hw]
theorem moved_len (A : Tr) (p q : Txt) : (movedF A p q).length ≤ A.length := by unfold movedF; rw [List.length_map]; exact List.length_filter_le _ _
end Go.Tre
namespace Go.Proofs.YtjcmcmogbkdjcaaDoor
open Go Go.Vc Go.Scr Go.Pth Go.Tre
structure CoS where
  i : Nat
  fs : List SF
  a : Option Addr
  cap : Nat
theorem within_len {x p : Bs} (h : withinF x p = true) : p.length ≤ x.length := by
  unfold withinF at h
  rw [Bool.or_eq_true, Bool.or_eq_true] at h
  rcases h with (h | h) | h
  · have : p = [] := by simpa using h
    rw [this]; exact Nat.zero_le _
  · have : x = p := by simpa using h
    rw [this]; exact Nat.le_refl _
  · have := (List.isPrefixOf_iff_prefix.1 h).length_le
    rw [List.length_append] at this; omega
end Go.Proofs.YtjcmcmogbkdjcaaDoor
/- The reference's trees: one path told under another. -/
namespace Go.Tre
open Go.Pth Go.Scr
open Go.Vc (mget mput mdel mget_put mget_mem mget_of_mem mget_none)
theorem puts_le : ∀ (l A : Tr), (putsF A l).length ≤ A.length + l.length
  | [], A => Nat.le_refl _
  | x :: l, A => by
    have h1 := puts_le l (putF A x.1 x.2)
    have h2 := putF_le x.1 x.2 A
    show (putsF (putF A x.1 x.2) l).length ≤ _
    simp only [List.length_cons]; omega
theorem puts_snocR (A l : Tr) (x : Txt × Node) : putsF A (l ++ [x]) = putF (putsF A l) x.1 x.2 := by unfold putsF; rw [List.foldl_append]; rfl
theorem filter_sizeR (A : Tr) (f : Txt × Node → Bool) : sizeT (A.filter f) ≤ sizeT A := filter_size A f
theorem moved_sizeR (A : Tr) (p q : Txt) : sizeT (movedF A p q) ≤ sizeT A := by
  have : sizeT (movedF A p q) = sizeT (A.filter fun x => withinF x.1 p) := by
    unfold movedF sizeT
    rw [List.map_map]; rfl
  rw [this]; exact filter_size A _
theorem moved_path {A : Tr} (hA : Okay A) {p q : Txt} (hq : q.length ≤ 200) {x : Txt × Node} (h : x ∈ movedF A p q) : x.1.length ≤ 400 ∧ x.2.2.length ≤ 65536 := by
  unfold movedF at h
  obtain ⟨y, hy, rfl⟩ := List.mem_map.1 h
  have hy := (List.mem_filter.1 hy).1
  have hg := mget_of_mem hA.sorted.nodup hy
  obtain ⟨⟨l, e, hl⟩, _⟩ := hA.clean y.1 y.2 hg
  have hl := hl.long
  rw [← e] at hl
  refine ⟨?_, (hA.file _ _ hg).1⟩
  show (q ++ y.1.drop p.length).length ≤ 400
  rw [List.length_append, List.length_drop]; omega
end Go.Tre
namespace Go.Proofs.YtjcmcmogbkdjcaaDoor
open Go Go.Vc Go.Scr Go.Pth Go.Tre
end Go.Proofs.YtjcmcmogbkdjcaaDoor
/- The reference's trees: the tree of files and directories. -/
namespace Go.Proofs.YtjcmcmogbkdjcaaDoor
open Go Go.Vc Go.Scr Go.Pth Go.Tre
/-- files' rows keep off a block of texts -/
theorem RowF.strs {F : Nat → Prop} {H H' : Heap} {a : Option Addr} {A : Tr} (h : RowF H a A) (k : Only F H H') (hF : ∀ b, F b → ∀ o v, hcell H ⟨b, o, none⟩ = some v → isStr v) : RowF H' a A := by
  obtain ⟨vs, h1, h2⟩ := h.out
  have key : ∀ {A : Tr} {vs : List Value}, FilesV H A vs → FilesV H' A vs := by
    intro A vs h
    induction h with
    | nil => exact .nil
    | @cons x A vs a cap hr _ ih =>
      refine .cons (hr.keep' k fun hne p hp hf => ?_) ih
      obtain ⟨b, o, ha, hlt, hc⟩ := hr.at (List.length_pos_iff.2 hne)
      rw [ha] at hp; cases hp
      have hl : 0 < x.2.2.length := by rw [← strV_length]; exact List.length_pos_iff.2 hne
      exact hF _ hf _ _ (hc 0 _ (strV_get hl))
  refine ⟨vs, h1.keep' k fun hne p hp hf => ?_, key h2⟩
  obtain ⟨b, o, ha, hlt, hc⟩ := h1.at (List.length_pos_iff.2 hne)
  rw [ha] at hp; cases hp
  cases h2 with
  | nil => exact hne rfl
  | @cons x A vs a cap hr _ => exact hF _ hf _ _ (hc 1 (.bool x.2.1) rfl)
structure RoS where
  i : Nat
  A : Tr
  seen : List Bs
  a : Option Addr
  cap : Nat
theorem strs_beq (x y : Bs) : ((mkS x).toList == (mkS y).toList) = decide (x = y) := by rw [str_beq]; simp [mkS_inj]
end Go.Proofs.YtjcmcmogbkdjcaaDoor
