import Derived.Test.YtlgcfcdmldlefaaDoorFc
set_option linter.unusedVariables false
set_option linter.unusedSimpArgs false
set_option maxRecDepth 100000
/- Fetches of bytes that are there: how they go on; the example. -/
namespace Go.Proofs.YtlgcfcdmldlefaaDoor
open Go Go.Vc Go.Sha

/-- m of the bytes b are there -/
def St (b : List UInt8) (m fa : Nat) : Fet := { row := rowOf b, b := b.take m, fa := fa, sp := 0, dn := decide (m = b.length), fl := false }
theorem St.size (b : List UInt8) (m fa : Nat) : (St b m fa).size = b.length := by show (max (b.length : Int) 0).toNat = _; omega
theorem St.len {b : List UInt8} {m fa : Nat} (h : m ≤ b.length) : (St b m fa).b.length = m := by show (b.take m).length = m; rw [List.length_take]; omega
theorem St.want' {b : List UInt8} {m fa : Nat} (h : m ≤ b.length) : (St b m fa).want = min 64 (b.length - m) := by unfold Fet.want; rw [St.size, St.len h]
theorem St.over' {b : List UInt8} {m fa : Nat} : (St b m fa).over = decide (m = b.length) := by unfold Fet.over; show (decide (m = b.length) || false) = _; simp
theorem newF_row (b : List UInt8) : newF (rowOf b) = St b 0 0 := by
  unfold newF St
  rw [List.take_zero]
  congr 1
  unfold Fet.right
  show (([] : List UInt8).length == (max (b.length : Int) 0).toNat && sumL [] == sumL b) = _
  cases b with
  | nil => simp
  | cons x t =>
    have : (([] : List UInt8).length == (max ((x :: t).length : Int) 0).toNat) = false := by rw [beq_eq_false_iff_ne]; simp; omega
    rw [this]; simp
theorem St.full {b : List UInt8} {m fa : Nat} (h : m < b.length) : (St b m fa).fullF ((b.drop m).take (min 64 (b.length - m))) = (St b (m + min 64 (b.length - m)) 0, 0) := by
  have e : (St b m fa).add ((b.drop m).take (min 64 (b.length - m))) = { row := rowOf b, b := b.take (m + min 64 (b.length - m)), fa := 0, sp := 0, dn := false, fl := false } := by
    unfold Fet.add St
    have : decide (m = b.length) = false := by rw [decide_eq_false_iff_not]; omega
    rw [this]
    congr 1
    show b.take m ++ (b.drop m).take _ = _
    rw [← List.take_add]
  unfold Fet.fullF
  dsimp only
  rw [e, St.size]
  by_cases hl : m + min 64 (b.length - m) < b.length
  · rw [if_pos (by show (b.take _).length < _; rw [List.length_take]; omega)]
    have : decide (m + min 64 (b.length - m) = b.length) = false := by rw [decide_eq_false_iff_not]; omega
    unfold St
    rw [this]
  · rw [if_neg (by show ¬ (b.take _).length < _; rw [List.length_take]; omega)]
    have hall : m + min 64 (b.length - m) = b.length := by omega
    have hr : Fet.right { row := rowOf b, b := b.take (m + min 64 (b.length - m)), fa := 0, sp := 0, dn := false, fl := false } = true := by
      rw [hall, List.take_length]
      unfold Fet.right
      show (b.length == (max (b.length : Int) 0).toNat && sumL b == sumL b) = true
      rw [beq_self_eq_true, Bool.and_true, beq_iff_eq]
      omega
    rw [hr, if_pos rfl]
    unfold St
    have : decide (m + min 64 (b.length - m) = b.length) = true := by rw [decide_eq_true_eq]; exact hall
    rw [this]
/-- all that was asked for -/
theorem St.takeAll {b : List UInt8} {m fa : Nat} (h : m < b.length) {l : List UInt8} (hl : l.take (min 64 (b.length - m)) = (b.drop m).take (min 64 (b.length - m))) (hw : min 64 (b.length - m) ≤ l.length) : (St b m fa).takeF 0 l = (St b (m + min 64 (b.length - m)) 0, 0) := by
  unfold Fet.takeF
  rw [St.over', if_neg (by simp; omega), if_neg (by decide), St.want' (by omega), if_pos ⟨rfl, hw⟩, hl, St.full h]
/-- less than was asked for -/
theorem St.takeShort {b : List UInt8} {m fa : Nat} (h : m < b.length) {j : Nat} (hj : j < min 64 (b.length - m)) (hf : fa + 1 ≠ 4) : (St b m fa).takeF 0 ((b.drop m).take j) = (St b (m + j) (fa + 1), 0) := by
  unfold Fet.takeF
  have hlen : ((b.drop m).take j).length = j := by rw [List.length_take, List.length_drop]; omega
  rw [St.over', if_neg (by simp; omega), if_neg (by decide), St.want' (by omega), if_neg (by rw [hlen]; omega), if_neg (show ¬ (St b m fa).fa + 1 = 4 from hf)]
  unfold Fet.short St
  rw [if_pos rfl]
  have h1 : decide (m = b.length) = false := by rw [decide_eq_false_iff_not]; omega
  have h2 : decide (m + j = b.length) = false := by rw [decide_eq_false_iff_not]; omega
  rw [h1, h2]
  congr 2
  show b.take m ++ (b.drop m).take j = _
  rw [← List.take_add]
theorem St.takeLost {b : List UInt8} {m fa : Nat} (h : m < b.length) (l : List UInt8) (hf : fa + 1 ≠ 4) : (St b m fa).takeF 1 l = (St b m (fa + 1), 0) := by
  unfold Fet.takeF
  rw [St.over', if_neg (by simp; omega), if_neg (by decide), if_neg (by simp), if_neg (show ¬ (St b m fa).fa + 1 = 4 from hf)]
  unfold Fet.short St
  rw [if_neg (by decide)]
theorem St.had' (b : List UInt8) (fa : Nat) : (St b b.length fa).had = b := by unfold Fet.had St; simp
theorem lieR_zero (r : RowF) : lieR r 0 = r := by unfold lieR; simp
theorem St.askV' {b : List UInt8} {m fa : Nat} (h : m < b.length) : (St b m fa).askV = .tuple #[.agg (askC ⟨#[97]⟩ 1 0 0 m (min 64 (b.length - m) : Nat)), .bool true] := by
  unfold Fet.askV
  rw [St.over', if_neg (by simp; omega), St.want' (by omega), St.len (by omega)]
  rfl

/- the three calls over a state -/
theorem st_ask {H : Heap} {base g : Nat} {b : List UInt8} {m fa : Nat} {a : Option Addr} {cap : Nat} (h : FetO H base g (St b m fa) a cap) (hm : m < b.length) (hb : b.length ≤ 1000000) :
    CallH Tryd.prog 30 [.pointer (some ⟨g, 0, none⟩)] H fun v H' => v = .tuple #[.agg (askC ⟨#[97]⟩ 1 0 0 m (min 64 (b.length - m) : Nat)), .bool true] ∧ Ext H H' := by
  rw [← St.askV' hm (fa := fa)]
  exact ask_any h (by rw [St.len (by omega), St.size]; omega) (by rw [St.size]; omega)
theorem st_over {H : Heap} {base g : Nat} {b : List UInt8} {fa : Nat} {a : Option Addr} {cap : Nat} (h : FetO H base g (St b b.length fa) a cap) (hb : b.length ≤ 1000000) :
    CallH Tryd.prog 30 [.pointer (some ⟨g, 0, none⟩)] H fun v H' => v = .tuple #[.agg (askC ⟨#[]⟩ 0 0 0 0 0), .bool false] ∧ Ext H H' := by
  have e : (St b b.length fa).askV = .tuple #[.agg (askC ⟨#[]⟩ 0 0 0 0 0), .bool false] := by
    unfold Fet.askV; rw [St.over', if_pos (by simp)]
  rw [← e]
  exact ask_any h (by rw [St.len (by omega), St.size]; omega) (by rw [St.size]; omega)
theorem st_take {H : Heap} {base g : Nat} {b : List UInt8} {m m' fa fa' : Nat} {a a2 : Option Addr} {cap n2 cap2 : Nat} {k : Int} {l : List UInt8} (h : FetO H base g (St b m fa) a cap) (hm : m < b.length) (hb : b.length ≤ 1000000) (hfa : fa ≤ 4) (hr : Row H a2 (strV l)) (hn : l.length = n2) (hc : n2 ≤ cap2) (hn2 : n2 ≤ 1000000) (hbase : base ≤ H.size)
    (ht : (St b m fa).takeF k l = (St b m' fa', 0)) :
    CallH Tryd.prog 31 [.pointer (some ⟨g, 0, none⟩), .agg #[.int .i64 k, .slice a2 n2 cap2]] H fun v H' => v = .nilIface ∧ (∃ a' cap', FetO H' base g (St b m' fa') a' cap' ∧ Fresh H a a') ∧ Only (foot g a) H H' := by
  refine (take_any h hr hn hc (by rw [St.len (by omega), St.size]; omega) (by rw [St.size]; omega) (by omega) hbase (by show 0 ≤ _; omega) (by show fa ≤ _; omega)).mono ?_
  rintro v H' ⟨h1, h2, h3⟩
  rw [ht] at h1 h2
  exact ⟨h1, h2, h3⟩
theorem st_done {H : Heap} {base g : Nat} {b : List UInt8} {fa : Nat} {a : Option Addr} {cap : Nat} (h : FetO H base g (St b b.length fa) a cap) (hb : b.length ≤ 1000000) :
    CallH Tryd.prog 32 [.pointer (some ⟨g, 0, none⟩)] H fun v H' => (∃ a' cap', v = .tuple #[.slice a' b.length cap', .bool true] ∧ Row H' a' (strV b)) ∧ Ext H H' := by
  refine (done_any h (by rw [St.len (Nat.le_refl _)]; omega)).mono ?_
  rintro v H' ⟨⟨a', cap', rfl, ho⟩, hx⟩
  rw [St.had'] at ho ⊢
  exact ⟨⟨a', cap', by show Value.tuple #[_, .bool (decide (b.length = b.length))] = _; rw [decide_eq_true rfl], ho.row⟩, hx⟩

set_option maxHeartbeats 2000000 in
theorem known20_any (H : Heap) : CallH Tryd.prog 26 [] H fun v H' => v = .bool true ∧ Ext H H' := by
  have hlen := madeL_length 100
  refine Vc.CallH.body Tryd.func26 Tryd.call26 rfl (by decide +kernel) rfl ?_
  ((conv => whnf); repeat (any_goals (first | ((refine (made_any 100 (by decide) _).mono ?_; rintro _ H1 ⟨rfl, ho1, hx1⟩); (conv => whnf)) | (refine Vc.sts ?_; (conv => whnf)))))
  have hrow := row_any (madeL 100) _ 100 100 0 H1 (by decide) ho1.row hlen (Nat.le_refl _) (by decide)
  rw [show (0 : Int).toNat = 0 from rfl, lieR_zero] at hrow
  have hnew := fun H => new_any (rowOf (madeL 100)) (sumL_length _) H
  rw [newF_row] at hnew
  generalize hB : madeL 100 = B at *
  ((conv => whnf); repeat (any_goals (first | ((refine hrow.mono ?_; rintro _ H2 ⟨rfl, hx2⟩); (conv => whnf)) | ((refine (hnew _).mono ?_; rintro _ H3 ⟨⟨g, rfl, hf3⟩, hx3⟩); (conv => whnf)) | (refine Vc.sts ?_; (conv => whnf)))))
  have hm0 : 0 < B.length := by omega
  have hb := hlen
  ((conv => whnf); repeat (any_goals (first | ((refine (st_ask hf3 hm0 (by omega)).mono ?_; rintro _ H4 ⟨rfl, hx4⟩); (conv => whnf)) | (refine Vc.sts ?_; (conv => whnf)))))
  refine SemH.alloc rfl rfl ?_
  intro H5 hs5 hb5 hx5
  ((conv => whnf); repeat (any_goals (first | (refine Vc.sts ?_; (conv => whnf)))))
  refine DoH.put_all hb5 rfl rfl rfl rfl ?_
  intro H6 hs6 hb6 hx6
  have e13 : Ext H1 H3 := hx2.trans hx3
  have e36 : Ext H3 H6 := (hx4.trans hx5).but hx6 hx4.size
  have hlt3 := hf3.blk.lt
  have hz3 := hx3.size
  have hz4 := hx4.size
  have hf6 := hf3.ext e36
  have hrB6 : Row H6 (some ⟨H.size, 0, none⟩) (strV B) := ho1.row.ext (e13.trans e36)
  have hw0 : min 64 (B.length - 0) = 64 := by omega
  have hl1 : (B.take 64).length = 64 := by rw [List.length_take]; omega
  have ht1 : (St B 0 0).takeF 0 (B.take 64) = (St B 64 0, 0) := by
    have := St.takeAll (fa := 0) hm0 (l := B.take 64) (by rw [hw0, List.drop_zero, List.take_take]; rfl) (by omega)
    rw [hw0] at this; exact this
  have hr1 : Row H6 (some ⟨H.size, 0, none⟩) (strV (B.take 64)) := by rw [← strV_take]; exact hrB6.take 64
  have htake1 := st_take (cap2 := 100) hf6 hm0 (by omega) (by omega) hr1 hl1 (by omega) (by omega) (by have := hx2.size; omega) ht1
  ((conv => whnf); repeat (any_goals (first | ((refine BndH.nat 64 rfl (by omega) ?_); (conv => whnf)) | (refine Vc.sts ?_; (conv => whnf)))))
  refine PureH.build #[.int .i64 0, .slice (some ⟨H.size, 0, none⟩) 64 100] (by kernel_rfl) ?_
  ((conv => whnf); repeat (any_goals (first | ((refine htake1.mono ?_; rintro _ H7 ⟨rfl, ⟨a7, c7, hf7, hn7⟩, hx7⟩); (conv => whnf)) | (refine Vc.sts ?_; (conv => whnf)))))
  have hm1 : 64 < B.length := by omega
  have hask2 := st_ask hf7 hm1 (by omega)
  rw [show min 64 (B.length - 64) = 36 by omega] at hask2
  ((conv => whnf); repeat (any_goals (first | ((refine hask2.mono ?_; rintro _ H8 ⟨rfl, hx8⟩); (conv => whnf)) | (refine Vc.sts ?_; (conv => whnf)))))
  refine SemH.alloc rfl rfl ?_
  intro H9 hs9 hb9 hx9
  ((conv => whnf); repeat (any_goals (first | (refine Vc.sts ?_; (conv => whnf)))))
  refine DoH.put_all hb9 rfl rfl rfl rfl ?_
  intro H10 hs10 hb10 hx10
  have e710 : Ext H7 H10 := (hx8.trans hx9).but hx10 hx8.size
  have hf10 := hf7.ext e710
  have hfl := hf6.low
  have hz1 := hx1.size
  have hltB : ∀ x, foot g none x → H1.size ≤ x := fun x hx => by rcases hx with rfl | ⟨p, hp, _⟩; have := hx2.size; omega; cases hp
  have hrB7 : Row H7 (some ⟨H.size, 0, none⟩) (strV B) := hrB6.keep hx7 fun p hp hq => (by cases hp; have := hltB _ hq; have := ho1.block _ rfl; omega)
  have hrB10 := hrB7.ext e710
  have hr2 : Row H10 (sliceBase (some ⟨H.size, 0, none⟩) 100 64 1) (strV (B.drop 64)) := by
    have := hrB10.drop 100 64 1 (by rw [strV_length]; omega)
    rwa [Nat.mul_one, strV_drop] at this
  have hl2 : (B.drop 64).length = 36 := by rw [List.length_drop]; omega
  have ht2 : (St B 64 0).takeF 0 (B.drop 64) = (St B B.length 0, 0) := by
    have := St.takeAll (fa := 0) hm1 (l := B.drop 64) rfl (by omega)
    rw [show 64 + min 64 (B.length - 64) = B.length by omega] at this; exact this
  have htake2 := st_take (cap2 := 36) hf10 hm1 (by omega) (by omega) hr2 hl2 (by omega) (by omega) (by have := hx7.size; have := e710.size; have := e36.size; omega) ht2
  ((conv => whnf); repeat (any_goals (first | ((refine BndH.nat 64 rfl (by omega) ?_); (conv => whnf)) | (refine Vc.sts ?_; (conv => whnf)))))
  refine PureH.build #[.int .i64 0, .slice (sliceBase (some ⟨H.size, 0, none⟩) 100 64 1) 36 36] (by kernel_rfl) ?_
  ((conv => whnf); repeat (any_goals (first | ((refine htake2.mono ?_; rintro _ H11 ⟨rfl, ⟨a11, c11, hf11, hn11⟩, hx11⟩); (conv => whnf)) | (refine Vc.sts ?_; (conv => whnf)))))
  ((conv => whnf); repeat (any_goals (first | ((refine (st_done hf11 (by omega)).mono ?_; rintro _ H12 ⟨⟨a12, c12, rfl, hd12⟩, hx12⟩); (conv => whnf)) | (refine Vc.sts ?_; (conv => whnf)))))
  have hne3 : ∀ x, foot g none x → x = g := fun x hx => by rcases hx with rfl | ⟨p, hp, _⟩; rfl; cases hp
  have hlt4 := hb5.lt
  have hg7 : ∀ x, foot g a7 x → x = g ∨ H6.size ≤ x := fun x hx => by
    rcases hx with rfl | ⟨p, hp, rfl⟩
    · exact .inl rfl
    · rcases hn7 p hp with h | h
      · rw [h] at hp; cases hp
      · exact .inr h
  have hlt8 := hb9.lt
  have hz7 := hx7.size
  have hz8 := hx8.size
  have hz11 := hx11.size
  have hb12 : Blk H12 H4.size (askC ⟨#[97]⟩ 1 0 0 0 (min 64 (B.length - 0) : Nat)) 66 := (((hb6.keep hx7 fun h => by have := hne3 _ h; omega).ext e710).keep hx11 fun h => by have := hg7 _ h; omega).ext hx12
  have hb12' : Blk H12 H8.size (askC ⟨#[97]⟩ 1 0 0 64 (36 : Nat)) 66 := (hb10.keep hx11 fun h => by
    rcases h with h | ⟨p, hp, h⟩
    · have := e36.size; omega
    · have := hf7.own.block p hp; omega).ext hx12
  have hBrow : Row H12 (some ⟨H.size, 0, none⟩) (strV B) := (hrB10.keep hx11 fun p hp hq => by
    cases hp
    have := hg7 _ hq
    have := ho1.block _ rfl
    have := e13.size
    have := e36.size
    have := hx2.size
    dsimp only at *
    omega).ext hx12
  have hq : ((⟨B.toArray⟩ : ByteArray).toList == (⟨B.toArray⟩ : ByteArray).toList) = true := beq_self_eq_true _
  ((conv => whnf); repeat (any_goals (first | (((with_reducible apply SemH.load_at hb12); (focus (rfl)); (focus (rfl))); (conv => whnf)) | (((with_reducible apply SemH.load_at hb12'); (focus (rfl)); (focus (rfl))); (conv => whnf)) | ((refine SplitH.pos (by rw [beq_iff_eq]; omega) ?_); (conv => whnf)) | ((refine SplitH.pos rfl ?_); (conv => whnf)) | ((refine to_string' rfl rfl rfl hd12 rfl ?_); (conv => whnf)) | ((refine to_string' rfl rfl rfl hBrow hlen ?_); (conv => whnf)) | (refine Vc.sts ?_; (conv => whnf)))))
  have e6 : Ext H H6 := (hx1.trans e13).trans e36
  have hz2 := hx2.size
  have e7 : Ext H H7 := Only.trans e6 hx7 fun b hb h => (by have := hne3 _ h; omega)
  have e11 : Ext H H11 := Only.trans (e7.trans e710) hx11 fun b hb h => (by have := hg7 _ h; have := e6.size; omega)
  exact ⟨by show Value.bool _ = _; rw [hq], e11.trans hx12⟩
end Go.Proofs.YtlgcfcdmldlefaaDoor
