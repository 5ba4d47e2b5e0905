import Derived.Test.YtlgcfcdmldlefaaDoorFa
import Derived.Test.YtlgcfcdmldlefaaDoorEr
set_option linter.unusedVariables false
set_option linter.unusedSimpArgs false
set_option maxRecDepth 100000
/- Fetches: questions and replies. -/
namespace Go.Proofs.YtlgcfcdmldlefaaDoor
open Go Go.Vc Go.Sha

def askC (nm : ByteArray) (mj mn pt off n : Int) : Array Value := #[.string nm, .int .i64 mj, .int .i64 mn, .int .i64 pt, .slice none 0 0, .int .i64 off, .int .i64 n]
def Fet.over (f : Fet) : Bool := f.dn || f.fl
def Fet.want (f : Fet) : Nat := min 64 (f.size - f.b.length)
def Fet.askV (f : Fet) : Value := if f.over then .tuple #[.agg (askC ⟨#[]⟩ 0 0 0 0 0), .bool false] else .tuple #[.agg (askC f.row.nm f.row.mj f.row.mn f.row.pt f.b.length f.want), .bool true]
theorem ask_any {H : Heap} {base g : Nat} {f : Fet} {a : Option Addr} {cap : Nat} (h : FetO H base g f a cap) (hl : f.b.length ≤ f.size) (hm : f.size ≤ 70368744177664) : CallH Tryd.prog 30 [.pointer (some ⟨g, 0, none⟩)] H fun v H' => v = f.askV ∧ Ext H H' := by
  have hb := h.blk
  refine Vc.CallH.body Tryd.func30 Tryd.call30 rfl (by decide +kernel) rfl ?_
  ((conv => whnf); repeat (any_goals (first | (refine Vc.sts ?_; (conv => whnf)))))
  refine SemH.alloc rfl rfl ?_
  intro H1 hs1 hb1 hx1
  ((conv => whnf); repeat (any_goals (first | ((refine (over_any (h.ext hx1)).mono ?_; rintro _ _ ⟨rfl, rfl⟩); (conv => whnf)) | (refine Vc.sts ?_; (conv => whnf)))))
  unfold Fet.askV Fet.over
  cases ho : (f.dn || f.fl)
  · have hb1' := hb.ext hx1
    ((conv => whnf); repeat (any_goals (first | (((with_reducible apply SemH.load_cut hb1'); (focus (rfl)); (focus (rfl)); (focus ((show 0 + 0 + 1 + 4 ≤ 44; omega))); (focus (rfl))); (conv => whnf)) | (refine Vc.sts ?_; (conv => whnf)))))
    refine SemH.alloc rfl rfl ?_
    intro H2 hs2 hb2 hx2
    ((conv => whnf); repeat (any_goals (first | (refine Vc.sts ?_; (conv => whnf)))))
    refine DoH.put_all (cs := #[.int .i64 f.row.mj, .int .i64 f.row.mn, .int .i64 f.row.pt, .slice none 0 0]) hb2 rfl rfl rfl rfl ?_
    intro H3 hs3 hb3 hx3
    ((conv => whnf); repeat (any_goals (first | (((with_reducible apply SemH.load_at hb3); (focus (rfl)); (focus (rfl))); (conv => whnf)) | ((refine (clones_nil _).mono ?_; rintro _ _ ⟨rfl, rfl⟩); (conv => whnf)) | (refine Vc.sts ?_; (conv => whnf)))))
    refine DoH.store1 (o := 0 + 3) hb3 rfl rfl rfl (by show 0 + 3 < 4; omega) ?_
    intro H4 hs4 hb4 hx4
    replace hb4 : Blk H4 H1.size #[.int .i64 f.row.mj, .int .i64 f.row.mn, .int .i64 f.row.pt, .slice none 0 0] 58 := hb4
    have hlt1 := hb1.lt
    have e14 : Ext H1 H4 := (hx2.but hx3 (Nat.le_refl _)).but hx4 (Nat.le_refl _)
    have hb5 := hb1'.ext e14
    have h4 := (h.ext hx1).ext e14
    have hv4 : (Blk H4 H1.size #[.int .i64 f.row.mj, .int .i64 f.row.mn, .int .i64 f.row.pt, .slice none 0 0] 58) := hb4
    ((conv => whnf); repeat (any_goals (first | (((with_reducible refine Vc.DrawH.held [0, 1, 2, 3, 4, 5, 6, 7, 8, 9, 10, 11, 13, 14, 15, 16, 17, 12, 18, 19, 20, 21, 22] [(12, [4, 5, 9, 16])] mixed (by decide +kernel) ?_)); (conv => whnf)) | (((with_reducible apply SemH.load_at hb5); (focus (rfl)); (focus (rfl))); (conv => whnf)) | ((refine SemH.load_blk hb4 rfl rfl rfl ?_); (conv => whnf)) | ((refine (size_any h4).mono ?_; rintro _ _ ⟨rfl, rfl⟩); (conv => whnf)) | ((refine StillsH.load rfl rfl rfl rfl rfl rfl (SemH.load_at hb5 rfl rfl rfl) ?_); (conv => whnf)) | ((refine StillsH.load rfl rfl rfl rfl rfl rfl (SemH.load_blk hb4 rfl rfl rfl rfl) ?_); (conv => whnf)) | (refine Vc.sts ?_; (conv => whnf)))))
    have hw : min 64 ((f.size : Int) - (f.b.length : Int)) = (f.want : Int) := by unfold Fet.want; omega
    rw [hw]
    refine PureH.build (askC f.row.nm f.row.mj f.row.mn f.row.pt f.b.length f.want) (by kernel_rfl) ?_
    ((conv => whnf); repeat (any_goals (first | (refine Vc.sts ?_; (conv => whnf)))))
    refine DoH.put_all (hb1.ext e14) rfl rfl rfl rfl ?_
    intro H5 hs5 hb5 hx5
    ((conv => whnf); repeat (any_goals (first | (refine Vc.sts ?_; (conv => whnf)))))
    refine SemH.load_blk hb5 rfl rfl rfl ?_
    refine ⟨rfl, ?_⟩
    (conv => whnf)
    exact ⟨rfl, (hx1.trans e14).but hx5 (Nat.le_refl _)⟩
  · ((conv => whnf); repeat (any_goals (first | (refine Vc.sts ?_; (conv => whnf)))))
    refine PureH.build (askC ⟨#[]⟩ 0 0 0 0 0) (by kernel_rfl) ?_
    ((conv => whnf); repeat (any_goals (first | (refine Vc.sts ?_; (conv => whnf)))))
    refine DoH.store_all hb1 rfl rfl rfl (by decide +kernel) ?_
    intro H2 hs2 hb2 hx2
    ((conv => whnf); repeat (any_goals (first | ((refine SemH.load_blk hb2 rfl rfl rfl ?_); (conv => whnf)) | (refine Vc.sts ?_; (conv => whnf)))))
    refine ⟨rfl, ?_⟩
    (conv => whnf)
    exact ⟨rfl, hx1.but hx2 (Nat.le_refl _)⟩

/-- an error that is there -/
def errOf (g : Nat) : Value := .iface 39 (.pointer (some ⟨g, 0, none⟩))
def Errs (H : Heap) (v : Value) (op nm : ByteArray) (n : Int) : Prop := ∃ g, v = errOf g ∧ Blk H g #[.string op, .string nm, .iface 25 (.int .i64 n)] 43
def opFetch : ByteArray := ⟨#[102, 101, 116, 99, 104]⟩
theorem fail_any {H : Heap} {base g : Nat} {f : Fet} {a : Option Addr} {cap : Nat} (h : FetO H base g f a cap) (n : Int) (hn : n ≠ 0) : CallH Tryd.prog 53 [.pointer (some ⟨g, 0, none⟩), .int .i64 n] H fun v H' => Errs H' v opFetch f.row.nm n ∧ FetO H' base g { f with fl := true } a cap ∧ Only (fun x => x = g) H H' := by
  have hb := h.blk
  refine Vc.CallH.body Tryd.func53 Tryd.call53 rfl (by decide +kernel) rfl ?_
  ((conv => whnf); repeat (any_goals (first | (refine Vc.sts ?_; (conv => whnf)))))
  refine DoH.store1 (o := 0 + 43) hb rfl rfl rfl (by show 0 + 43 < 44; omega) ?_
  intro H1 hs1 hb1 hx1
  replace hb1 : Blk H1 g (fetC { f with fl := true } a cap) 104 := hb1
  ((conv => whnf); repeat (any_goals (first | (((with_reducible apply SemH.load_at hb1); (focus (rfl)); (focus (rfl))); (conv => whnf)) | (refine Vc.sts ?_; (conv => whnf)))))
  refine (wrap_num opFetch f.row.nm n hn _).mono ?_
  rintro _ H2 ⟨rfl, hb2, hx2⟩
  ((conv => whnf); repeat (any_goals (first | (refine Vc.sts ?_; (conv => whnf)))))
  exact ⟨⟨_, rfl, hb2⟩, (h.put hb1 hx1 rfl rfl).ext hx2, hx1.ext hx2⟩

def ErrIs (H : Heap) (v : Value) (nm : ByteArray) (n : Nat) : Prop := if n = 0 then v = .nilIface else Errs H v opFetch nm n
theorem FetO.lt {H : Heap} {base g : Nat} {f : Fet} {a : Option Addr} {cap : Nat} (h : FetO H base g f a cap) : g < H.size := h.blk.lt
/-- a step on the object and its bytes -/
theorem FetO.set {H H' : Heap} {base g : Nat} {f f' : Fet} {a a' : Option Addr} {cap cap' : Nat} (h : FetO H base g f a cap) (hb : Blk H' g (fetC f' a' cap') 104) (ho : Own H' base 5 1 a' f'.b.length cap' (strV f'.b)) (ha : ∀ p, a' = some p → p.block ≠ g) (h2 : f'.row = f.row) : FetO H' base g f' a' cap' :=
  ⟨hb, ho, ha, h.low, by rw [h2]; exact h.key⟩
/-- the blocks that a fetch's calls write -/
def foot (g : Nat) (a : Option Addr) (x : Nat) : Prop := x = g ∨ ∃ p, a = some p ∧ p.block = x
/-- bytes that lie where they lay, or in a new block -/
def Fresh (H : Heap) (a a' : Option Addr) : Prop := ∀ p, a' = some p → a' = a ∨ H.size ≤ p.block
theorem Fresh.refl (H : Heap) (a : Option Addr) : Fresh H a a := fun _ _ => .inl rfl
theorem Fresh.none (H : Heap) (a : Option Addr) : Fresh H a none := fun p hp => by cases hp
theorem Fresh.mono {H H' : Heap} {a a' : Option Addr} (h : Fresh H' a a') (hs : H.size ≤ H'.size) : Fresh H a a' := fun p hp => (h p hp).imp id fun h => Nat.le_trans hs h
def Fet.add (f : Fet) (l : List UInt8) : Fet := { f with b := f.b ++ l, fa := 0 }
def Fet.fullF (f : Fet) (l : List UInt8) : Fet × Nat :=
  let f1 := f.add l
  if f1.b.length < f.size then (f1, 0)
  else if f1.right then ({ f1 with dn := true }, 0)
  else
    let f2 := { f1 with dn := false, b := [], sp := f.sp + 1 }
    if f.sp + 1 = 2 then ({ f2 with fl := true }, 74) else (f2, 0)
/-- f.b = append(f.b, b...) -/
theorem append_any {H : Heap} {base g : Nat} {f : Fet} {a a2 : Option Addr} {cap n2 cap2 : Nat} {l : List UInt8} (h : FetO H base g f a cap) (hr : Row H a2 (strV l)) (hn : l.length = n2) (hm : f.b.length + n2 ≤ 70368744177664) (hbase : base ≤ H.size) {ty : TypeId} {cb : Array Bool} {K : Value → Heap → Prop}
    (hk : ∀ a' cap' H', Own H' base 5 1 a' (f.b ++ l).length cap' (strV (f.b ++ l)) → Blk H' g (fetC f a cap) 104 → (∀ p, a' = some p → p.block ≠ g) → Fresh H a a' → Only (foot g a) H H' → K (.slice a' (f.b ++ l).length cap') H') :
    NextH Tryd.prog (builtin .append #[53, 53] ty cb #[.slice a f.b.length cap, .slice a2 n2 cap2]) H K := by
  have e : (f.b ++ l).length = f.b.length + n2 := by rw [List.length_append, hn]
  rw [e] at hk
  have hg := h.lt
  refine NextH.append (i := Tryd.t5) (z := .int .u8 0) (base := base) rfl ⟨_, rfl, fun _ h => by cases h⟩ rfl rfl rfl h.own (Src.row hr (by rw [strV_length, hn]; exact (Nat.mul_one _).symm) (strV_plain _)) (by unfold maxLen; omega) (by show (f.b.length + n2) * 1 ≤ _; omega) hbase ?_
  intro a' cap' H' ho hw hnew
  refine hk a' cap' H' (by rw [strV_append]; exact ho) (h.blk.keep hw fun ⟨p, hp, hq⟩ => h.apart p hp hq) (fun p hp hq => ?_) hnew (hw.mono fun b h => .inr h)
  rcases hnew p hp with h1 | h1
  · exact h.apart p (h1 ▸ hp) hq
  · omega

set_option maxHeartbeats 1000000 in
theorem full_any {H : Heap} {base g : Nat} {f : Fet} {a a2 : Option Addr} {cap n2 cap2 : Nat} {l : List UInt8} (h : FetO H base g f a cap) (hr : Row H a2 (strV l)) (hn : l.length = n2) (hm : f.b.length + n2 ≤ 70368744177664) (hbase : base ≤ H.size) (hsp : f.sp ≤ 70368744177664) (hd : f.dn = false) :
    CallH Tryd.prog 54 [.pointer (some ⟨g, 0, none⟩), .slice a2 n2 cap2] H fun v H' => ErrIs H' v f.row.nm (f.fullF l).2 ∧ (∃ a' cap', FetO H' base g (f.fullF l).1 a' cap' ∧ Fresh H a a') ∧ Only (foot g a) H H' := by
  have hb := h.blk
  refine Vc.CallH.body Tryd.func54 Tryd.call54 rfl (by decide +kernel) rfl ?_
  ((conv => whnf); repeat (any_goals (first | (((with_reducible apply SemH.load_at hb); (focus (rfl)); (focus (rfl))); (conv => whnf)) | (refine Vc.sts ?_; (conv => whnf)))))
  refine append_any h hr hn hm hbase ?_
  intro a1 cap1 H1 ho1 hb1 hap1 hn1 hx1
  ((conv => whnf); repeat (any_goals (first | (refine Vc.sts ?_; (conv => whnf)))))
  refine DoH.store1 (o := 0 + 39) hb1 rfl rfl rfl (by show 0 + 39 < 44; omega) ?_
  intro H2 hs2 hb2 hx2
  replace hb2 : Blk H2 g (fetC { f with b := f.b ++ l } a1 cap1) 104 := hb2
  ((conv => whnf); repeat (any_goals (first | (refine Vc.sts ?_; (conv => whnf)))))
  refine DoH.store1 (o := 0 + 40) hb2 rfl rfl rfl (by show 0 + 40 < 44; omega) ?_
  intro H3 hs3 hb3 hx3
  replace hb3 : Blk H3 g (fetC (f.add l) a1 cap1) 104 := hb3
  have h3 : FetO H3 base g (f.add l) a1 cap1 := h.set hb3 ((ho1.keep hx2 hap1).keep hx3 hap1) hap1 rfl
  have e3 : Only (foot g a) H H3 := (hx1.trans hx2 fun b _ e => .inl e).trans hx3 fun b _ e => .inl e
  have hl3 : (f.add l).b.length ≤ 70368744177664 := by show (f.b ++ l).length ≤ _; rw [List.length_append]; omega
  ((conv => whnf); repeat (any_goals (first | (((with_reducible refine Vc.DrawH.held [0, 1, 2, 3, 4, 5, 6, 7, 8, 9, 10, 11] [(6, [3])] mixed (by decide +kernel) ?_)); (conv => whnf)) | (((with_reducible apply SemH.load_at hb3); (focus (rfl)); (focus (rfl))); (conv => whnf)) | ((refine (size_any h3).mono ?_; rintro _ _ ⟨rfl, rfl⟩); (conv => whnf)) | ((refine StillsH.load rfl rfl rfl rfl rfl rfl (SemH.load_at hb3 rfl rfl rfl) ?_); (conv => whnf)) | (refine Vc.sts ?_; (conv => whnf)))))
  have hss : (f.add l).size = f.size := rfl
  unfold Fet.fullF
  dsimp only
  by_cases hlt : (f.add l).b.length < (f.add l).size
  · rw [if_pos (hss ▸ hlt)]
    refine SplitH.pos (by rw [decide_eq_true_eq]; omega) ?_
    ((conv => whnf); repeat (any_goals (first | ((refine StillsH.skip rfl rfl rfl rfl ?_); (conv => whnf)) | (refine Vc.sts ?_; (conv => whnf)))))
    exact ⟨rfl, ⟨_, _, h3, hn1⟩, e3⟩
  · rw [if_neg (hss ▸ hlt)]
    refine SplitH.neg (by rw [decide_eq_false_iff_not]; omega) ?_
    ((conv => whnf); repeat (any_goals (first | ((refine (settle_any h3 hl3).mono ?_; rintro _ H4 ⟨rfl, h4, hx4⟩); (conv => whnf)) | (refine Vc.sts ?_; (conv => whnf)))))
    have e4 : Only (foot g a) H H4 := e3.trans hx4 fun b _ e => .inl e
    cases hright : (f.add l).right
    · rw [hright] at h4
      have hb4 := h4.blk
      ((conv => whnf); repeat (any_goals (first | (refine Vc.sts ?_; (conv => whnf)))))
      refine DoH.store1 (o := 0 + 39) hb4 rfl rfl rfl (by show 0 + 39 < 44; omega) ?_
      intro H5 hs5 hb5 hx5
      replace hb5 : Blk H5 g (fetC { f.add l with dn := false, b := [] } none 0) 104 := hb5
      have hsp1 : -9223372036854775808 ≤ (f.sp : Int) + 1 ∧ (f.sp : Int) + 1 ≤ 9223372036854775807 := by omega
      ((conv => whnf); repeat (any_goals (first | (((with_reducible apply SemH.load_at hb5); (focus (rfl)); (focus (rfl))); (conv => whnf)) | ((refine ArithH.i64 hsp1 ?_); (conv => whnf)) | (refine Vc.sts ?_; (conv => whnf)))))
      refine DoH.store1 (o := 0 + 41) hb5 rfl rfl rfl (by show 0 + 41 < 44; omega) ?_
      intro H6 hs6 hb6 hx6
      replace hb6 : Blk H6 g (fetC { f.add l with dn := false, b := [], sp := f.sp + 1 } none 0) 104 := hb6
      have h6 : FetO H6 base g { f.add l with dn := false, b := [], sp := f.sp + 1 } none 0 := h4.set hb6 (Own.nil _ _ _ _) (fun p hp => by cases hp) rfl
      have e6 : Only (foot g a) H H6 := (e4.trans hx5 fun b _ e => .inl e).trans hx6 fun b _ e => .inl e
      by_cases h2 : f.sp + 1 = 2
      · rw [if_neg (by simp), if_pos h2]
        ((conv => whnf); repeat (any_goals (first | (((with_reducible apply SemH.load_at hb6); (focus (rfl)); (focus (rfl))); (conv => whnf)) | ((refine CondH.pos (by rw [beq_iff_eq]; show ((f.sp + 1 : Nat) : Int) = 2; omega) ?_); (conv => whnf)) | ((refine (fail_any h6 74 (by decide)).mono ?_; rintro _ H7 ⟨he, h7, hx7⟩); (conv => whnf)) | (refine Vc.sts ?_; (conv => whnf)))))
        exact ⟨he, ⟨_, _, h7, Fresh.none _ _⟩, e6.trans hx7 fun b _ e => .inl e⟩
      · rw [if_neg (by simp), if_neg h2]
        ((conv => whnf); repeat (any_goals (first | (((with_reducible apply SemH.load_at hb6); (focus (rfl)); (focus (rfl))); (conv => whnf)) | ((refine CondH.neg (by rw [beq_eq_false_iff_ne]; show ((f.sp + 1 : Nat) : Int) ≠ 2; omega) ?_); (conv => whnf)) | (refine Vc.sts ?_; (conv => whnf)))))
        exact ⟨rfl, ⟨_, _, h6, Fresh.none _ _⟩, e6⟩
    · rw [hright] at h4
      ((conv => whnf); repeat (any_goals (first | (refine Vc.sts ?_; (conv => whnf)))))
      exact ⟨rfl, ⟨_, _, h4, hn1⟩, e4⟩

def Fet.short (f : Fet) (k : Int) (l : List UInt8) : Fet := if k = 0 then { f with b := f.b ++ l, fa := f.fa + 1 } else { f with fa := f.fa + 1 }
def Fet.takeF (f : Fet) (k : Int) (l : List UInt8) : Fet × Nat :=
  if f.over then (f, 0)
  else if k = 2 then ({ f with fl := true }, 76)
  else if k = 0 ∧ f.want ≤ l.length then f.fullF (l.take f.want)
  else if f.fa + 1 = 4 then ({ f.short k l with fl := true }, 75) else (f.short k l, 0)

set_option maxHeartbeats 2000000 in
theorem take_any {H : Heap} {base g : Nat} {f : Fet} {a a2 : Option Addr} {cap n2 cap2 : Nat} {k : Int} {l : List UInt8} (h : FetO H base g f a cap) (hr : Row H a2 (strV l)) (hn : l.length = n2) (hc : n2 ≤ cap2) (hl : f.b.length ≤ f.size) (hm : f.size ≤ 30000000000000) (hn2 : n2 ≤ 30000000000000) (hbase : base ≤ H.size)
    (hsp : f.sp ≤ 70368744177664) (hfa : f.fa ≤ 70368744177664) :
    CallH Tryd.prog 31 [.pointer (some ⟨g, 0, none⟩), .agg #[.int .i64 k, .slice a2 n2 cap2]] H fun v H' => ErrIs H' v f.row.nm (f.takeF k l).2 ∧ (∃ a' cap', FetO H' base g (f.takeF k l).1 a' cap' ∧ Fresh H a a') ∧ Only (foot g a) H H' := by
  refine Vc.CallH.body Tryd.func31 Tryd.call31 rfl (by decide +kernel) rfl ?_
  ((conv => whnf); repeat (any_goals (first | (refine Vc.sts ?_; (conv => whnf)))))
  refine SemH.box ?_
  intro H1 hs1 hb1 hx1
  replace hb1 : Blk H1 H.size #[.int .i64 k, .slice a2 n2 cap2] 71 := hb1
  have hask := ask_any (h.ext hx1) hl (by omega)
  unfold Fet.askV at hask
  unfold Fet.takeF
  cases ho : f.over
  · rw [ho] at hask
    ((conv => whnf); repeat (any_goals (first | ((refine hask.mono ?_; rintro _ H2 ⟨rfl, hx2⟩); (conv => whnf)) | (refine Vc.sts ?_; (conv => whnf)))))
    refine SemH.alloc rfl rfl ?_
    intro H3 hs3 hb3 hx3
    ((conv => whnf); repeat (any_goals (first | (refine Vc.sts ?_; (conv => whnf)))))
    refine DoH.put_all hb3 rfl rfl rfl rfl ?_
    intro H4 hs4 hb4 hx4
    have hz2 := hx2.size
    have e4 : Ext H1 H4 := (hx2.trans hx3).but hx4 (by omega)
    have hb1' := hb1.ext e4
    have h4 := (h.ext hx1).ext e4
    have hbl := h4.blk
    have e04 : Only (foot g a) H H4 := (hx1.trans e4).only
    by_cases hk2 : k = 2
    · rw [if_neg (by simp), if_pos hk2]
      ((conv => whnf); repeat (any_goals (first | (((with_reducible apply SemH.load_at hb1'); (focus (rfl)); (focus (rfl))); (conv => whnf)) | ((refine CondH.pos (by rw [beq_iff_eq]; exact hk2) ?_); (conv => whnf)) | ((refine (fail_any h4 76 (by decide)).mono ?_; rintro _ H5 ⟨he, h5, hx5⟩); (conv => whnf)) | (refine Vc.sts ?_; (conv => whnf)))))
      exact ⟨he, ⟨_, _, h5, Fresh.refl _ _⟩, e04.trans hx5 fun b _ e => .inl e⟩
    · rw [if_neg (by simp), if_neg hk2]
      by_cases hk0 : k = 0
      · by_cases hw : f.want ≤ l.length
        · rw [if_pos ⟨hk0, hw⟩]
          have hwn : ((f.want : Nat) : Int) ≤ (n2 : Int) := by omega
          have hlt : (l.take f.want).length = f.want := by rw [List.length_take]; omega
          have hwm : f.want ≤ 64 := Nat.min_le_left _ _
          have hr4 : Row H4 a2 (strV (l.take f.want)) := by rw [← strV_take]; exact ((hr.ext hx1).ext e4).take _
          have hfull := full_any (cap2 := cap2) h4 hr4 hlt (by omega) (by have := hx1.size; have := e4.size; omega) hsp (by simp [Fet.over] at ho; exact ho.1)
          ((conv => whnf); repeat (any_goals (first | (((with_reducible apply SemH.load_at hb1'); (focus (rfl)); (focus (rfl))); (conv => whnf)) | ((refine CondH.neg (by rw [beq_eq_false_iff_ne]; exact hk2) ?_); (conv => whnf)) | ((refine CondH.pos (by rw [beq_iff_eq]; exact hk0) ?_); (conv => whnf)) | (((with_reducible apply SemH.load_at hb4); (focus (rfl)); (focus (rfl))); (conv => whnf)) | ((refine CondH.pos (by rw [decide_eq_true_eq]; exact hwn) ?_); (conv => whnf)) | ((refine BndH.nat f.want rfl (by omega) ?_); (conv => whnf)) | ((refine hfull.mono ?_; rintro _ H5 ⟨he, h5, hx5⟩); (conv => whnf)) | (refine Vc.sts ?_; (conv => whnf)))))
          exact ⟨he, let ⟨a', c', h5, h6⟩ := h5; ⟨a', c', h5, h6.mono e04.size⟩, e04.trans hx5 fun _ _ => id⟩
        · rw [if_neg (fun e => hw e.2)]
          have hwn : ¬ ((f.want : Nat) : Int) ≤ (n2 : Int) := by omega
          ((conv => whnf); repeat (any_goals (first | (((with_reducible apply SemH.load_at hb1'); (focus (rfl)); (focus (rfl))); (conv => whnf)) | ((refine CondH.neg (by rw [beq_eq_false_iff_ne]; exact hk2) ?_); (conv => whnf)) | ((refine CondH.pos (by rw [beq_iff_eq]; exact hk0) ?_); (conv => whnf)) | (((with_reducible apply SemH.load_at hb4); (focus (rfl)); (focus (rfl))); (conv => whnf)) | ((refine CondH.neg (by rw [decide_eq_false_iff_not]; exact hwn) ?_); (conv => whnf)) | (((with_reducible apply SemH.load_at hbl); (focus (rfl)); (focus (rfl))); (conv => whnf)) | (refine Vc.sts ?_; (conv => whnf)))))
          refine append_any h4 ((hr.ext hx1).ext e4) hn (by omega) (by have := hx1.size; have := e4.size; omega) ?_
          intro a5 cap5 H5 ho5 hb5 hap5 hn5 hx5
          ((conv => whnf); repeat (any_goals (first | (refine Vc.sts ?_; (conv => whnf)))))
          refine DoH.store1 (o := 0 + 39) hb5 rfl rfl rfl (by show 0 + 39 < 44; omega) ?_
          intro H6 hs6 hb6 hx6
          replace hb6 : Blk H6 g (fetC { f with b := f.b ++ l } a5 cap5) 104 := hb6
          have e6 : Only (foot g a) H H6 := (e04.trans hx5 fun _ _ => id).trans hx6 fun b _ e => .inl e
          have hfa1 : -9223372036854775808 ≤ (f.fa : Int) + 1 ∧ (f.fa : Int) + 1 ≤ 9223372036854775807 := by omega
          ((conv => whnf); repeat (any_goals (first | (((with_reducible apply SemH.load_at hb6); (focus (rfl)); (focus (rfl))); (conv => whnf)) | ((refine ArithH.i64 hfa1 ?_); (conv => whnf)) | (refine Vc.sts ?_; (conv => whnf)))))
          refine DoH.store1 (o := 0 + 40) hb6 rfl rfl rfl (by show 0 + 40 < 44; omega) ?_
          intro H7 hs7 hb7 hx7
          replace hb7 : Blk H7 g (fetC (f.short k l) a5 cap5) 104 := by unfold Fet.short; rw [if_pos hk0]; exact hb7
          have h7 : FetO H7 base g (f.short k l) a5 cap5 := h.set hb7 (by unfold Fet.short; rw [if_pos hk0]; exact (ho5.keep hx6 hap5).keep hx7 hap5) hap5 (by unfold Fet.short; rw [if_pos hk0])
          have hfa7 : (f.short k l).fa = f.fa + 1 := by unfold Fet.short; rw [if_pos hk0]
          have e7 : Only (foot g a) H H7 := e6.trans hx7 fun b _ e => .inl e
          have hrow7 : (f.short k l).row = f.row := by unfold Fet.short; rw [if_pos hk0]
          by_cases h4f : f.fa + 1 = 4
          · rw [if_pos h4f, ← hrow7]
            ((conv => whnf); repeat (any_goals (first | (((with_reducible apply SemH.load_at hb7); (focus (rfl)); (focus (rfl))); (conv => whnf)) | ((refine CondH.pos (by rw [beq_iff_eq]; show ((f.short k l).fa : Int) = 4; omega) ?_); (conv => whnf)) | ((refine (fail_any h7 75 (by decide)).mono ?_; rintro _ H8 ⟨he, h8, hx8⟩); (conv => whnf)) | (refine Vc.sts ?_; (conv => whnf)))))
            exact ⟨he, ⟨_, _, h8, hn5.mono e04.size⟩, e7.trans hx8 fun b _ e => .inl e⟩
          · rw [if_neg h4f]
            ((conv => whnf); repeat (any_goals (first | (((with_reducible apply SemH.load_at hb7); (focus (rfl)); (focus (rfl))); (conv => whnf)) | ((refine CondH.neg (by rw [beq_eq_false_iff_ne]; show ((f.short k l).fa : Int) ≠ 4; omega) ?_); (conv => whnf)) | (refine Vc.sts ?_; (conv => whnf)))))
            exact ⟨rfl, ⟨_, _, h7, hn5.mono e04.size⟩, e7⟩
      · rw [if_neg (fun e => hk0 e.1)]
        ((conv => whnf); repeat (any_goals (first | (((with_reducible apply SemH.load_at hb1'); (focus (rfl)); (focus (rfl))); (conv => whnf)) | ((refine CondH.neg (by rw [beq_eq_false_iff_ne]; exact hk2) ?_); (conv => whnf)) | ((refine CondH.neg (by rw [beq_eq_false_iff_ne]; exact hk0) ?_); (conv => whnf)) | (((with_reducible apply SemH.load_at hb4); (focus (rfl)); (focus (rfl))); (conv => whnf)) | (((with_reducible apply SemH.load_at hbl); (focus (rfl)); (focus (rfl))); (conv => whnf)) | (refine Vc.sts ?_; (conv => whnf)))))
        refine DoH.store1 (o := 0 + 40) hbl rfl rfl rfl (by show 0 + 40 < 44; omega) ?_
        intro H7 hs7 hb7 hx7
        replace hb7 : Blk H7 g (fetC (f.short k l) a cap) 104 := by unfold Fet.short; rw [if_neg hk0]; exact hb7
        have h7 : FetO H7 base g (f.short k l) a cap := h.set hb7 (by unfold Fet.short; rw [if_neg hk0]; exact h4.own.keep hx7 fun p hp e => h.apart p hp e) h.apart (by unfold Fet.short; rw [if_neg hk0])
        have hfa7 : (f.short k l).fa = f.fa + 1 := by unfold Fet.short; rw [if_neg hk0]
        have e7 : Only (foot g a) H H7 := e04.trans hx7 fun b _ e => .inl e
        have hrow7 : (f.short k l).row = f.row := by unfold Fet.short; rw [if_neg hk0]
        by_cases h4f : f.fa + 1 = 4
        · rw [if_pos h4f, ← hrow7]
          ((conv => whnf); repeat (any_goals (first | (((with_reducible apply SemH.load_at hb7); (focus (rfl)); (focus (rfl))); (conv => whnf)) | ((refine CondH.pos (by rw [beq_iff_eq]; show ((f.short k l).fa : Int) = 4; omega) ?_); (conv => whnf)) | ((refine (fail_any h7 75 (by decide)).mono ?_; rintro _ H8 ⟨he, h8, hx8⟩); (conv => whnf)) | (refine Vc.sts ?_; (conv => whnf)))))
          exact ⟨he, ⟨_, _, h8, Fresh.refl _ _⟩, e7.trans hx8 fun b _ e => .inl e⟩
        · rw [if_neg h4f]
          ((conv => whnf); repeat (any_goals (first | (((with_reducible apply SemH.load_at hb7); (focus (rfl)); (focus (rfl))); (conv => whnf)) | ((refine CondH.neg (by rw [beq_eq_false_iff_ne]; show ((f.short k l).fa : Int) ≠ 4; omega) ?_); (conv => whnf)) | (refine Vc.sts ?_; (conv => whnf)))))
          exact ⟨rfl, ⟨_, _, h7, Fresh.refl _ _⟩, e7⟩
  · rw [ho] at hask
    ((conv => whnf); repeat (any_goals (first | ((refine hask.mono ?_; rintro _ H2 ⟨rfl, hx2⟩); (conv => whnf)) | (refine Vc.sts ?_; (conv => whnf)))))
    refine SemH.alloc rfl rfl ?_
    intro H3 hs3 hb3 hx3
    ((conv => whnf); repeat (any_goals (first | (refine Vc.sts ?_; (conv => whnf)))))
    refine DoH.put_all hb3 rfl rfl rfl rfl ?_
    intro H4 hs4 hb4 hx4
    ((conv => whnf); repeat (any_goals (first | (refine Vc.sts ?_; (conv => whnf)))))
    have hz2 := hx2.size
    have e4 : Ext H1 H4 := (hx2.trans hx3).but hx4 (by omega)
    exact ⟨rfl, ⟨_, _, (h.ext hx1).ext e4, Fresh.refl _ _⟩, (hx1.trans e4).only⟩

def Fet.had (f : Fet) : List UInt8 := if f.dn then f.b else []
theorem done_any {H : Heap} {base g : Nat} {f : Fet} {a : Option Addr} {cap : Nat} (h : FetO H base g f a cap) (hm : f.b.length ≤ 70368744177664) : CallH Tryd.prog 32 [.pointer (some ⟨g, 0, none⟩)] H fun v H' => (∃ a' cap', v = .tuple #[.slice a' f.had.length cap', .bool f.dn] ∧ Own H' H.size 5 1 a' f.had.length cap' (strV f.had)) ∧ Ext H H' := by
  have hb := h.blk
  unfold Fet.had
  refine Vc.CallH.body Tryd.func32 Tryd.call32 rfl (by decide +kernel) rfl ?_
  cases hd : f.dn
  · ((conv => whnf); repeat (any_goals (first | (((with_reducible apply SemH.load_at hb); (focus (rfl)); (focus (rfl))); (conv => whnf)) | ((refine CondH.neg hd ?_); (conv => whnf)) | (refine Vc.sts ?_; (conv => whnf)))))
    exact ⟨⟨none, 0, rfl, Own.nil _ _ _ _⟩, Ext.refl _⟩
  · have ha : a = none → f.b.length = 0 := fun e => by
      rcases h.own.out with ⟨_, h0, _⟩ | ⟨g', cur, h1, _⟩
      · exact h0
      · rw [e] at h1; cases h1
    ((conv => whnf); repeat (any_goals (first | (((with_reducible apply SemH.load_at hb); (focus (rfl)); (focus (rfl))); (conv => whnf)) | ((refine CondH.pos hd ?_); (conv => whnf)) | ((refine (cloneb_any f.b a f.b.length cap _ h.own.row rfl ha (by omega)).mono ?_; rintro _ H1 ⟨⟨a', cap', rfl, ho⟩, hx⟩); (conv => whnf)) | (refine Vc.sts ?_; (conv => whnf)))))
    exact ⟨⟨a', cap', rfl, ho⟩, hx⟩
end Go.Proofs.YtlgcfcdmldlefaaDoor
