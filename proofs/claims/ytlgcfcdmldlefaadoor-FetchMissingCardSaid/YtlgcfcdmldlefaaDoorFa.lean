import Derived.Test.YtlgcfcdmldlefaaDoorSo
import Derived.Test.YtlgcfcdmldlefaaDoorSay
import Derived.Test.YtlgcfcdmldlefaaDoorHr
set_option linter.unusedVariables false
set_option linter.unusedSimpArgs false
set_option maxRecDepth 100000
/- Fetches: objects in the heap, their small methods. -/
namespace Go.Proofs.YtlgcfcdmldlefaaDoor
open Go Go.Vc Go.Sha

/-- a sum's cells, written out -/
def k32 (s : Nat → Int) : Array Value := #[.int .u8 (s 0), .int .u8 (s 1), .int .u8 (s 2), .int .u8 (s 3), .int .u8 (s 4), .int .u8 (s 5), .int .u8 (s 6), .int .u8 (s 7), .int .u8 (s 8), .int .u8 (s 9), .int .u8 (s 10), .int .u8 (s 11), .int .u8 (s 12), .int .u8 (s 13), .int .u8 (s 14), .int .u8 (s 15),
  .int .u8 (s 16), .int .u8 (s 17), .int .u8 (s 18), .int .u8 (s 19), .int .u8 (s 20), .int .u8 (s 21), .int .u8 (s 22), .int .u8 (s 23), .int .u8 (s 24), .int .u8 (s 25), .int .u8 (s 26), .int .u8 (s 27), .int .u8 (s 28), .int .u8 (s 29), .int .u8 (s 30), .int .u8 (s 31)]
def keyI (l : List UInt8) (i : Nat) : Int := (l.getD i 0).toNat
theorem k32_key (l : List UInt8) (h : l.length = 32) : k32 (keyI l) = (strV l).toArray := by
  match l, h with
  | [a0, a1, a2, a3, a4, a5, a6, a7, a8, a9, a10, a11, a12, a13, a14, a15, a16, a17, a18, a19, a20, a21, a22, a23, a24, a25, a26, a27, a28, a29, a30, a31], _ => rfl

/-- a row -/
structure RowF where
  nm : ByteArray
  mj : Int
  mn : Int
  pt : Int
  key : List UInt8
  sz : Int
def rowC (r : RowF) : Array Value := #[.string r.nm, .int .i64 r.mj, .int .i64 r.mn, .int .i64 r.pt, .slice none 0 0, .int .u8 (keyI r.key 0), .int .u8 (keyI r.key 1), .int .u8 (keyI r.key 2), .int .u8 (keyI r.key 3), .int .u8 (keyI r.key 4), .int .u8 (keyI r.key 5), .int .u8 (keyI r.key 6), .int .u8 (keyI r.key 7), .int .u8 (keyI r.key 8), .int .u8 (keyI r.key 9), .int .u8 (keyI r.key 10), .int .u8 (keyI r.key 11), .int .u8 (keyI r.key 12), .int .u8 (keyI r.key 13), .int .u8 (keyI r.key 14), .int .u8 (keyI r.key 15),
  .int .u8 (keyI r.key 16), .int .u8 (keyI r.key 17), .int .u8 (keyI r.key 18), .int .u8 (keyI r.key 19), .int .u8 (keyI r.key 20), .int .u8 (keyI r.key 21), .int .u8 (keyI r.key 22), .int .u8 (keyI r.key 23), .int .u8 (keyI r.key 24), .int .u8 (keyI r.key 25), .int .u8 (keyI r.key 26), .int .u8 (keyI r.key 27), .int .u8 (keyI r.key 28), .int .u8 (keyI r.key 29), .int .u8 (keyI r.key 30), .int .u8 (keyI r.key 31), .int .i64 r.sz, .slice none 0 0]
/-- a fetch -/
structure Fet where
  row : RowF
  b : List UInt8
  fa : Nat
  sp : Nat
  dn : Bool
  fl : Bool
def fetC (f : Fet) (a : Option Addr) (cap : Nat) : Array Value := #[.string f.row.nm, .int .i64 f.row.mj, .int .i64 f.row.mn, .int .i64 f.row.pt, .slice none 0 0, .int .u8 (keyI f.row.key 0), .int .u8 (keyI f.row.key 1), .int .u8 (keyI f.row.key 2), .int .u8 (keyI f.row.key 3), .int .u8 (keyI f.row.key 4), .int .u8 (keyI f.row.key 5), .int .u8 (keyI f.row.key 6), .int .u8 (keyI f.row.key 7), .int .u8 (keyI f.row.key 8), .int .u8 (keyI f.row.key 9), .int .u8 (keyI f.row.key 10), .int .u8 (keyI f.row.key 11), .int .u8 (keyI f.row.key 12), .int .u8 (keyI f.row.key 13), .int .u8 (keyI f.row.key 14), .int .u8 (keyI f.row.key 15),
  .int .u8 (keyI f.row.key 16), .int .u8 (keyI f.row.key 17), .int .u8 (keyI f.row.key 18), .int .u8 (keyI f.row.key 19), .int .u8 (keyI f.row.key 20), .int .u8 (keyI f.row.key 21), .int .u8 (keyI f.row.key 22), .int .u8 (keyI f.row.key 23), .int .u8 (keyI f.row.key 24), .int .u8 (keyI f.row.key 25), .int .u8 (keyI f.row.key 26), .int .u8 (keyI f.row.key 27), .int .u8 (keyI f.row.key 28), .int .u8 (keyI f.row.key 29), .int .u8 (keyI f.row.key 30), .int .u8 (keyI f.row.key 31), .int .i64 f.row.sz, .slice none 0 0, .slice a f.b.length cap, .int .i64 f.fa, .int .i64 f.sp, .bool f.dn, .bool f.fl]
theorem fetC_eq (f : Fet) (a : Option Addr) (cap : Nat) : fetC f a cap = #[.string f.row.nm, .int .i64 f.row.mj, .int .i64 f.row.mn, .int .i64 f.row.pt, .slice none 0 0, .int .u8 (keyI f.row.key 0), .int .u8 (keyI f.row.key 1), .int .u8 (keyI f.row.key 2), .int .u8 (keyI f.row.key 3), .int .u8 (keyI f.row.key 4), .int .u8 (keyI f.row.key 5), .int .u8 (keyI f.row.key 6), .int .u8 (keyI f.row.key 7), .int .u8 (keyI f.row.key 8), .int .u8 (keyI f.row.key 9), .int .u8 (keyI f.row.key 10), .int .u8 (keyI f.row.key 11), .int .u8 (keyI f.row.key 12), .int .u8 (keyI f.row.key 13), .int .u8 (keyI f.row.key 14), .int .u8 (keyI f.row.key 15),
  .int .u8 (keyI f.row.key 16), .int .u8 (keyI f.row.key 17), .int .u8 (keyI f.row.key 18), .int .u8 (keyI f.row.key 19), .int .u8 (keyI f.row.key 20), .int .u8 (keyI f.row.key 21), .int .u8 (keyI f.row.key 22), .int .u8 (keyI f.row.key 23), .int .u8 (keyI f.row.key 24), .int .u8 (keyI f.row.key 25), .int .u8 (keyI f.row.key 26), .int .u8 (keyI f.row.key 27), .int .u8 (keyI f.row.key 28), .int .u8 (keyI f.row.key 29), .int .u8 (keyI f.row.key 30), .int .u8 (keyI f.row.key 31), .int .i64 f.row.sz, .slice none 0 0, .slice a f.b.length cap, .int .i64 f.fa, .int .i64 f.sp, .bool f.dn, .bool f.fl] := rfl

/-- the object in block g: its bytes lie in a block of its own; both from base on -/
structure FetO (H : Heap) (base g : Nat) (f : Fet) (a : Option Addr) (cap : Nat) : Prop where
  blk : Blk H g (fetC f a cap) 104
  own : Own H base 5 1 a f.b.length cap (strV f.b)
  apart : ∀ p, a = some p → p.block ≠ g
  low : base ≤ g
  key : f.row.key.length = 32
theorem FetO.ext {H H' : Heap} {base g : Nat} {f : Fet} {a : Option Addr} {cap : Nat} (h : FetO H base g f a cap) (k : Ext H H') : FetO H' base g f a cap := ⟨h.blk.ext k, h.own.ext k, h.apart, h.low, h.key⟩
def Fet.size (f : Fet) : Nat := (max f.row.sz 0).toNat

theorem size_any {H : Heap} {base g : Nat} {f : Fet} {a : Option Addr} {cap : Nat} (h : FetO H base g f a cap) : CallH Tryd.prog 52 [.pointer (some ⟨g, 0, none⟩)] H fun v H' => v = .int .i64 f.size ∧ H = H' := by
  have hb := h.blk
  have hs : (max f.row.sz 0) = (f.size : Int) := by unfold Fet.size; omega
  refine Vc.CallH.body Tryd.func52 Tryd.call52 rfl (by decide +kernel) rfl ?_
  ((conv => whnf); repeat (any_goals (first | (((with_reducible apply SemH.load_at hb); (focus (rfl)); (focus (rfl))); (conv => whnf)) | (refine Vc.sts ?_; (conv => whnf)))))
  exact ⟨by show Value.int _ _ = _; rw [hs], rfl⟩
theorem over_any {H : Heap} {base g : Nat} {f : Fet} {a : Option Addr} {cap : Nat} (h : FetO H base g f a cap) : CallH Tryd.prog 51 [.pointer (some ⟨g, 0, none⟩)] H fun v H' => v = .bool (f.dn || f.fl) ∧ H = H' := by
  have hb := h.blk
  refine Vc.CallH.body Tryd.func51 Tryd.call51 rfl (by decide +kernel) rfl ?_
  cases hd : f.dn
  · ((conv => whnf); repeat (any_goals (first | (((with_reducible apply SemH.load_at hb); (focus (rfl)); (focus (rfl))); (conv => whnf)) | ((refine SplitH.neg hd ?_); (conv => whnf)) | ((refine SplitH.pos hd ?_); (conv => whnf)) | (refine Vc.sts ?_; (conv => whnf)))))
    exact ⟨rfl, rfl⟩
  · ((conv => whnf); repeat (any_goals (first | (((with_reducible apply SemH.load_at hb); (focus (rfl)); (focus (rfl))); (conv => whnf)) | ((refine SplitH.neg hd ?_); (conv => whnf)) | ((refine SplitH.pos hd ?_); (conv => whnf)) | (refine Vc.sts ?_; (conv => whnf)))))
    exact ⟨rfl, rfl⟩
theorem clones_nil (H : Heap) : CallH Tryd.prog 47 [.slice none 0 0] H fun v H' => v = .slice none 0 0 ∧ H = H' := by
  refine Vc.CallH.body Tryd.func47 Tryd.call47 rfl (by decide +kernel) rfl ?_
  ((conv => whnf); repeat (any_goals (first | ((refine CondH.pos rfl ?_); (conv => whnf)) | (refine Vc.sts ?_; (conv => whnf)))))
  exact ⟨rfl, rfl⟩
theorem cloneb_any (l : List UInt8) (a : Option Addr) (n cap : Nat) (H : Heap) (hr : Row H a (strV l)) (hn : l.length = n) (ha : a = none → n = 0) (hm : n ≤ 140737488355328) :
    CallH Tryd.prog 55 [.slice a n cap] H fun v H' => (∃ a' cap', v = .slice a' n cap' ∧ Own H' H.size 5 1 a' n cap' (strV l)) ∧ Ext H H' := by
  refine Vc.CallH.body Tryd.func55 Tryd.call55 rfl (by decide +kernel) rfl ?_
  cases a with
  | none =>
    obtain rfl := ha rfl
    have hl : l = [] := List.eq_nil_of_length_eq_zero hn
    subst hl
    ((conv => whnf); repeat (any_goals (first | ((refine CondH.pos rfl ?_); (conv => whnf)) | (refine Vc.sts ?_; (conv => whnf)))))
    exact ⟨⟨none, 0, rfl, Own.nil _ _ _ _⟩, Ext.refl _⟩
  | some p =>
    ((conv => whnf); repeat (any_goals (first | ((refine CondH.neg rfl ?_); (conv => whnf)) | (refine Vc.sts ?_; (conv => whnf)))))
    refine SemH.lit (vs := []) rfl rfl rfl rfl rfl rfl rfl ?_
    intro H1 hs1 hb1 hx1
    ((conv => whnf); repeat (any_goals (first | (refine Vc.sts ?_; (conv => whnf)))))
    refine NextH.append (i := Tryd.t5) (z := .int .u8 0) (base := H.size) rfl ⟨_, rfl, fun _ h => by cases h⟩ rfl rfl rfl (own_new hb1 (Nat.le_refl _)) (Src.row (hr.ext hx1) (by rw [strV_length, hn]; exact (Nat.mul_one _).symm) (strV_plain _)) (by unfold maxLen; omega) (by show (0 + n) * 1 ≤ _; omega) (by omega) ?_
    intro a3 cap3 H3 ho3 hw3 hn3
    ((conv => whnf); repeat (any_goals (first | (refine Vc.sts ?_; (conv => whnf)))))
    rw [Nat.zero_add, List.nil_append] at *
    exact ⟨⟨a3, cap3, rfl, ho3⟩, hx1.but hw3.toBut (Nat.le_refl _)⟩

def Fet.right (f : Fet) : Bool := f.b.length == f.size && sumL f.b == f.row.key
theorem FetO.keys {H : Heap} {base g : Nat} {f : Fet} {a : Option Addr} {cap : Nat} (h : FetO H base g f a cap) : (fetC f a cap).extract 5 37 = (strV f.row.key).toArray := by rw [← k32_key _ h.key]; kernel_rfl
theorem load_key {H : Heap} {g : Nat} {f : Fet} {a : Option Addr} {cap : Nat} {K : Value → Heap → Prop} (hb : Blk H g (fetC f a cap) 104) (hk : f.row.key.length = 32) (hK : K (.agg (strV f.row.key).toArray) H) : SemH Tryd.prog (Instr.loadAt 60 (.pointer (some ⟨g, 0 + 0 + 5, none⟩))) H K := by
  have e : (fetC f a cap).extract 5 37 = (strV f.row.key).toArray := by rw [← k32_key _ hk]; kernel_rfl
  exact SemH.load_cut hb rfl rfl (by show 0 + 0 + 5 + 32 ≤ 44; omega) e hK
/-- a step that writes the object's own block at one place -/
theorem FetO.put {H H' : Heap} {base g : Nat} {f f' : Fet} {a : Option Addr} {cap : Nat} (h : FetO H base g f a cap) (hb : Blk H' g (fetC f' a cap) 104) (hx : But g H H') (h1 : f'.b = f.b) (h2 : f'.row = f.row) : FetO H' base g f' a cap :=
  ⟨hb, by rw [h1]; exact h.own.keep hx fun p hp e => h.apart p hp e, h.apart, h.low, by rw [h2]; exact h.key⟩

theorem settle_any {H : Heap} {base g : Nat} {f : Fet} {a : Option Addr} {cap : Nat} (h : FetO H base g f a cap) (hm : f.b.length ≤ 70368744177664) : CallH Tryd.prog 48 [.pointer (some ⟨g, 0, none⟩)] H fun v H' => v = .bool f.right ∧ FetO H' base g { f with dn := f.right } a cap ∧ Only (fun x => x = g) H H' := by
  have hb := h.blk
  have hcap := h.own.cap_le
  have hg := hb.lt
  refine Vc.CallH.body Tryd.func48 Tryd.call48 rfl (by decide +kernel) rfl ?_
  ((conv => whnf); repeat (any_goals (first | (((with_reducible refine Vc.DrawH.held [0, 1, 2, 3, 4, 5, 6, 7, 8, 9, 10, 11, 12, 13, 16, 17, 18, 19, 20, 14, 15, 21, 22, 23, 24, 25] [(7, [4]), (14, [20]), (15, [20])] mixed (by decide +kernel) ?_)); (conv => whnf)) | (((with_reducible apply SemH.load_at hb); (focus (rfl)); (focus (rfl))); (conv => whnf)) | ((refine (size_any h).mono ?_; rintro _ _ ⟨rfl, rfl⟩); (conv => whnf)) | ((refine StillsH.load rfl rfl rfl rfl rfl rfl (SemH.load_at hb rfl rfl rfl) ?_); (conv => whnf)) | (refine Vc.sts ?_; (conv => whnf)))))
  by_cases hl : f.b.length = f.size
  · have hq : ((f.b.length : Int) == (f.size : Int)) = true := by rw [beq_iff_eq]; omega
    refine SplitH.pos hq ?_
    ((conv => whnf); repeat (any_goals (first | (((with_reducible apply SemH.load_at hb); (focus (rfl)); (focus (rfl))); (conv => whnf)) | ((refine load_key hb h.key ?_); (conv => whnf)) | (refine Vc.sts ?_; (conv => whnf)))))
    refine SemH.lit (vs := [_]) rfl rfl rfl rfl rfl rfl rfl ?_
    intro H1 hs1 hb1 hx1
    have hsum := sum1 hb1 rfl hcap (h.own.ext hx1).row hm
    ((conv => whnf); repeat (any_goals (first | ((refine StillsH.load rfl rfl rfl rfl rfl rfl (load_key (hb.ext hx1) h.key rfl) ?_); (conv => whnf)) | ((refine hsum.mono ?_; rintro _ H2 ⟨rfl, hx2⟩); (conv => whnf)) | ((refine StillsH.load rfl rfl rfl rfl rfl rfl (load_key ((hb.ext hx1).ext hx2) h.key rfl) ?_); (conv => whnf)) | (((with_reducible apply PureH.eql_bytes); (focus (rfl)); (focus (rfl)); (focus (rfl)); (focus (rfl)); (focus (rfl)); (focus (exact sumL_length _)); (focus (exact h.key))); (conv => whnf)) | (refine Vc.sts ?_; (conv => whnf)))))
    have hb2 := (hb.ext hx1).ext hx2
    refine DoH.store1 (o := 0 + 42) hb2 rfl rfl rfl (by show 0 + 42 < 44; omega) ?_
    intro H3 hs3 hb3 hx3
    replace hb3 : Blk H3 g (fetC { f with dn := sumL f.b == f.row.key } a cap) 104 := hb3
    ((conv => whnf); repeat (any_goals (first | (((with_reducible apply SemH.load_at hb3); (focus (rfl)); (focus (rfl))); (conv => whnf)) | (refine Vc.sts ?_; (conv => whnf)))))
    have e : f.right = (sumL f.b == f.row.key) := by unfold Fet.right; rw [hl]; simp
    rw [e]
    exact ⟨rfl, ((h.ext hx1).ext hx2).put hb3 hx3 rfl rfl, (hx1.trans hx2).only.trans hx3 fun _ _ => id⟩
  · have hq : ((f.b.length : Int) == (f.size : Int)) = false := by rw [beq_eq_false_iff_ne]; omega
    refine SplitH.neg hq ?_
    ((conv => whnf); repeat (any_goals (first | ((refine StillsH.skip rfl rfl rfl rfl ?_); (conv => whnf)) | (refine Vc.sts ?_; (conv => whnf)))))
    refine DoH.store1 (o := 0 + 42) hb rfl rfl rfl (by show 0 + 42 < 44; omega) ?_
    intro H3 hs3 hb3 hx3
    replace hb3 : Blk H3 g (fetC { f with dn := false } a cap) 104 := hb3
    ((conv => whnf); repeat (any_goals (first | (((with_reducible apply SemH.load_at hb3); (focus (rfl)); (focus (rfl))); (conv => whnf)) | (refine Vc.sts ?_; (conv => whnf)))))
    have e : f.right = false := by unfold Fet.right; simp [hl]
    rw [e]
    exact ⟨rfl, h.put hb3 hx3 rfl rfl, hx3⟩

def newF (r : RowF) : Fet := { row := r, b := [], fa := 0, sp := 0, dn := Fet.right { row := r, b := [], fa := 0, sp := 0, dn := false, fl := false }, fl := false }
theorem new_any (r : RowF) (hr : r.key.length = 32) (H : Heap) : CallH Tryd.prog 28 [.agg (rowC r)] H fun v H' => (∃ g, v = .pointer (some ⟨g, 0, none⟩) ∧ FetO H' H.size g (newF r) none 0) ∧ Ext H H' := by
  refine Vc.CallH.body Tryd.func28 Tryd.call28 rfl (by decide +kernel) rfl ?_
  ((conv => whnf); repeat (any_goals (first | (refine Vc.sts ?_; (conv => whnf)))))
  refine SemH.box ?_
  intro H1 hs1 hb1 hx1
  replace hb1 : Blk H1 H.size (rowC r) 63 := hb1
  ((conv => whnf); repeat (any_goals (first | (((with_reducible apply SemH.load_at hb1); (focus (rfl)); (focus (rfl))); (conv => whnf)) | ((refine (clones_nil _).mono ?_; rintro _ _ ⟨rfl, rfl⟩); (conv => whnf)) | (refine Vc.sts ?_; (conv => whnf)))))
  refine DoH.store1 (o := 0 + 1 + 3) hb1 rfl rfl rfl (by show 0 + 1 + 3 < 39; omega) ?_
  intro H2 hs2 hb2 hx2
  replace hb2 : Blk H2 H.size (rowC r) 63 := hb2
  ((conv => whnf); repeat (any_goals (first | (refine Vc.sts ?_; (conv => whnf)))))
  refine DoH.store1 (o := 0 + 38) hb2 rfl rfl rfl (by show 0 + 38 < 39; omega) ?_
  intro H3 hs3 hb3 hx3
  replace hb3 : Blk H3 H.size (rowC r) 63 := hb3
  ((conv => whnf); repeat (any_goals (first | ((refine SemH.load_blk hb3 rfl rfl rfl ?_); (conv => whnf)) | (refine Vc.sts ?_; (conv => whnf)))))
  refine PureH.build (fetC { row := r, b := [], fa := 0, sp := 0, dn := false, fl := false } none 0) (by kernel_rfl) ?_
  ((conv => whnf); repeat (any_goals (first | (refine Vc.sts ?_; (conv => whnf)))))
  refine SemH.box ?_
  intro H4 hs4 hb4 hx4
  replace hb4 : Blk H4 H3.size (fetC { row := r, b := [], fa := 0, sp := 0, dn := false, fl := false } none 0) 104 := hb4
  have ho4 : FetO H4 H.size H3.size { row := r, b := [], fa := 0, sp := 0, dn := false, fl := false } none 0 := ⟨hb4, Own.nil _ _ _ _, fun p hp => (by cases hp), by omega, hr⟩
  have e4 : Ext H H4 := ((hx1.but hx2 (Nat.le_refl _)).but hx3 (Nat.le_refl _)).trans hx4
  ((conv => whnf); repeat (any_goals (first | ((refine (settle_any ho4 (Nat.zero_le _)).mono ?_; rintro _ H5 ⟨rfl, ho5, hx5⟩); (conv => whnf)) | (refine Vc.sts ?_; (conv => whnf)))))
  exact ⟨⟨_, rfl, ho5⟩, e4.but hx5 (by omega)⟩
end Go.Proofs.YtlgcfcdmldlefaaDoor
