import Derived.Test.YtlgcfcdmldlefaaDoorFb
import Derived.Test.YtlgcfcdmldlefaaDoorV9
import Derived.Test.YtlgcfcdmldlefaaDoorSpl
set_option linter.unusedVariables false
set_option linter.unusedSimpArgs false
set_option maxRecDepth 100000
/- Fetches: what the statements make. -/
namespace Go.Proofs.YtlgcfcdmldlefaaDoor
open Go Go.Vc Go.Sha

def madeL (n : Nat) : List UInt8 := (List.range n).map fun i => UInt8.ofNat (7 * i)
theorem madeL_length (n : Nat) : (madeL n).length = n := by simp [madeL]
theorem made_any (n : Nat) (hn : n ≤ 100000) (H : Heap) : CallH Tryd.prog 27 [.int .i64 n] H fun v H' => v = .slice (some ⟨H.size, 0, none⟩) n n ∧ Own H' H.size 5 1 (some ⟨H.size, 0, none⟩) n n (strV (madeL n)) ∧ Ext H H' := by
  refine Vc.CallH.body Tryd.func27 Tryd.call27 rfl (by decide +kernel) rfl ?_
  ((conv => whnf); repeat (any_goals (first | (refine Vc.sts ?_; (conv => whnf)))))
  refine SemH.make rfl rfl rfl (by show 1 * n ≤ _; omega) (by unfold maxLen; omega) ?_
  intro H2 ho2 hx2
  replace ho2 : Own H2 H.size 5 1 (some ⟨H.size, 0, none⟩) n n (madeCells (Value.int .u8 0).cells (n * 1)).toList := ho2
  rw [made_strV] at ho2
  ((conv => whnf); repeat (any_goals (first | (refine Vc.sts ?_; (conv => whnf)))))
  refine LoopH.intro (fun (k : Nat) => [(4, .int .i64 k)]) (fun k H' => k ≤ n ∧ Own H' H.size 5 1 (some ⟨H.size, 0, none⟩) n n (strV (madeL k ++ List.replicate (n - k) 0)) ∧ But H.size H2 H') (fun k => n - k) 0 ⟨rfl, trivial⟩ ⟨by omega, ho2, Only.refl _ _⟩ ?_
  rintro k H3 ⟨hk, ho3, hx3⟩
  by_cases hlt : k < n
  · ((conv => whnf); repeat (any_goals (first | ((refine ArithH.u8m ?_); (conv => whnf)) | ((refine IdxA.at1 k rfl hlt ?_); (conv => whnf)) | (refine Vc.sts ?_; (conv => whnf)))))
    refine DoH.store_own (o := 0 + k) ho3 rfl rfl rfl (by omega) ?_
    intro H4 hs4 ho4 hx4
    ((conv => whnf); repeat (any_goals (first | (refine Vc.sts ?_; (conv => whnf)))))
    rw [Nat.zero_add, strV_set _ _ _ (by omega) (by omega)] at ho4
    refine ⟨k + 1, ⟨rfl, trivial⟩, ⟨by omega, ?_, hx3.trans hx4 fun _ _ => id⟩, by omega⟩
    have e : (madeL k ++ List.replicate (n - k) 0).set k (UInt8.ofNat ((k : Int) * 7 % 256).toNat) = madeL (k + 1) ++ List.replicate (n - (k + 1)) 0 := by
      have e1 : n - k = (n - (k + 1)) + 1 := by omega
      rw [e1, List.replicate_succ, List.set_append_right _ _ (by rw [madeL_length]; omega), madeL_length, Nat.sub_self, List.set_cons_zero]
      have e2 : UInt8.ofNat ((k : Int) * 7 % 256).toNat = UInt8.ofNat (7 * k) := by
        apply UInt8.toNat_inj.1
        rw [UInt8.toNat_ofNat', UInt8.toNat_ofNat']
        omega
      rw [e2]
      unfold madeL
      rw [List.range_succ, List.map_append]
      simp
    rw [e] at ho4
    exact ho4
  · obtain rfl : k = n := by omega
    ((conv => whnf); repeat (any_goals (first | (refine Vc.sts ?_; (conv => whnf)))))
    rw [Nat.sub_self, List.replicate_zero, List.append_nil] at ho3
    exact ⟨rfl, ho3, hx2.but hx3 (Nat.le_refl _)⟩

def rowOf (b : List UInt8) : RowF := { nm := ⟨#[97]⟩, mj := 1, mn := 0, pt := 0, key := sumL b, sz := b.length }
theorem xor1' : ∀ n : Nat, n < 256 → bitB .u8 .xor (n : Int) 1 = ((n ^^^ 1 : Nat) : Int) := by decide +kernel
theorem xor1 (x : UInt8) : bitB .u8 .xor (x.toNat : Int) 1 = ((x ^^^ 1).toNat : Int) := xor1' _ x.toNat_lt
theorem rowC_flip (r : RowF) (h : r.key.length = 32) : (rowC r).setIfInBounds (0 + 5 + 0) (.int .u8 (bitB .u8 .xor (keyI r.key 0) 1)) = rowC { r with key := r.key.set 0 (r.key.getD 0 0 ^^^ 1) } := by
  obtain ⟨nm, mj, mn, pt, key, sz⟩ := r
  match key, h with
  | x :: t, _ =>
    have e : bitB .u8 .xor (keyI (x :: t) 0) 1 = keyI ((x ^^^ 1) :: t) 0 := xor1 x
    show _ = rowC { nm := nm, mj := mj, mn := mn, pt := pt, key := (x ^^^ 1) :: t, sz := sz }
    dsimp only
    rw [e]
    rfl
/-- the row, told falsely -/
def lieR (r : RowF) (lie : Nat) : RowF :=
  if lie % 6 = 1 then { r with key := r.key.set 0 (r.key.getD 0 0 ^^^ 1) }
  else if lie % 6 = 2 then { r with sz := r.sz + 5 }
  else if lie % 6 = 3 then { r with sz := max (r.sz - 5) 0 }
  else if lie % 6 = 4 then { r with sz := -3 }
  else r
theorem key_cells (l : List UInt8) (h : l.length = 32) : (Value.agg (strV l).toArray).cells = k32 (keyI l) := by rw [k32_key _ h]; rfl
theorem of1 {a : Option Addr} {n cap g : Nat} {l : List UInt8} {e : TypeId} {H : Heap} (hb : Blk H g #[.slice a n cap] e) (hl : l.length = n) (hc : n ≤ cap) (hr : Row H a (strV l)) (hm : n ≤ 70368744177664) :
    CallH Tryd.prog 50 [.slice (some ⟨g, 0, none⟩) 1 1] H fun v H' => v = .agg (k32 (keyI (sumL l))) ∧ Ext H H' := by
  have h := of_any [⟨a, n, cap, l⟩] (some ⟨g, 0, none⟩) 1 1 H (parts1 hb ⟨hl, hc, hr⟩) rfl (by decide) (by rw [allL_one]; show l.length ≤ _; omega)
  rw [allL_one, ← k32_key _ (sumL_length _)] at h
  exact h
set_option maxHeartbeats 2000000 in
theorem row_any (b : List UInt8) (a : Option Addr) (n cap : Nat) (lie : Int) (H : Heap) (hl : 0 ≤ lie ∧ lie ≤ 255) (hr : Row H a (strV b)) (hn : b.length = n) (hc : n ≤ cap) (hm : n ≤ 1000000) :
    CallH Tryd.prog 29 [.slice a n cap, .int .u8 lie] H fun v H' => v = .agg (rowC (lieR (rowOf b) lie.toNat)) ∧ Ext H H' := by
  refine Vc.CallH.body Tryd.func29 Tryd.call29 rfl (by decide +kernel) rfl ?_
  ((conv => whnf); repeat (any_goals (first | (refine Vc.sts ?_; (conv => whnf)))))
  refine SemH.alloc rfl rfl ?_
  intro H1 hs1 hb1 hx1
  ((conv => whnf); repeat (any_goals (first | ((refine (version100 _).mono ?_; rintro _ H2 ⟨rfl, hx2⟩); (conv => whnf)) | (refine Vc.stt ?_; (conv => whnf)))))
  refine SemH.alloc rfl rfl ?_
  intro H3 hs3 hb3 hx3
  ((conv => whnf); repeat (any_goals (first | (refine Vc.stt ?_; (conv => whnf)))))
  refine DoH.put_all hb3 rfl rfl rfl rfl ?_
  intro H4 hs4 hb4 hx4
  have hz2 := hx2.size
  have e4 : Ext H1 H4 := (hx2.trans hx3).but hx4 (by omega)
  have hr4 := (hr.ext hx1).ext e4
  ((conv => whnf); repeat (any_goals (first | (refine Vc.stt ?_; (conv => whnf)))))
  refine SeqH.cut (fun (g : Nat) => [(7, .pointer (some ⟨g, 0, none⟩))]) (fun g H' => H4.size ≤ g ∧ Blk H' g (rowC (rowOf b)) 63 ∧ Ext H4 H') ?_ ?_
  · ((conv => whnf); repeat (any_goals (first | ((first | (with_reducible refine Vc.DrawH.lin (id := 2) mixed ?_) | (with_reducible refine Vc.DrawL.split (es := []) 2 7 (by decide) (by decide) (by decide) ?_ ?_) | (with_reducible refine Vc.DrawL.split (es := [(2, 7)]) 3 7 (by decide) (by decide) (by decide) ?_ ?_) | (with_reducible refine Vc.DrawL.held (es := [(3, 7), (2, 7)]) [0, 1, 4, 5, 2, 3, 6, 7, 8] [(2, [0]), (3, [0]), (7, [0])] (by decide +kernel) ?_) | (with_reducible refine Vc.DrawL.held (es := [(7, 3), (2, 7)]) [0, 1, 4, 5, 2, 7, 3, 6, 8] [(2, [0]), (7, [0]), (3, [0])] (by decide +kernel) ?_) | (with_reducible refine Vc.DrawL.held (es := [(7, 2)]) [0, 1, 4, 5, 7, 2, 3, 6, 8] [(7, [0]), (2, [0]), (3, [0])] (by decide +kernel) ?_)); (conv => whnf)) | ((refine SemH.load_blk hb4 rfl rfl rfl ?_); (conv => whnf)) | (refine Vc.sts ?_; (conv => whnf)))))
    · refine SemH.lit (vs := [_]) rfl rfl rfl rfl rfl rfl rfl ?_
      intro H5 hsl hbl hxl
      have e5 : Ext H4 H5 := (Ext.refl H4).trans hxl
      ((conv => whnf); repeat (any_goals (first | ((refine StillsH.load rfl rfl rfl rfl rfl rfl (SemH.load_blk (hb4.ext e5) rfl rfl rfl rfl) ?_); (conv => whnf)) | (refine Vc.sts ?_; (conv => whnf)))))
      have hof := of1 hbl hn hc (hr4.ext e5) (by omega)
      ((conv => whnf); repeat (any_goals (first | ((refine StillsH.load rfl rfl rfl rfl rfl rfl (SemH.load_blk (hb4.ext e5) rfl rfl rfl rfl) ?_); (conv => whnf)) | ((refine hof.mono ?_; rintro _ H6 ⟨rfl, hxo⟩); (conv => whnf)) | (refine Vc.sts ?_; (conv => whnf)))))
      have e6 : Ext H4 H6 := e5.trans hxo
      ((conv => whnf); repeat (any_goals (first | ((refine StillsH.load rfl rfl rfl rfl rfl rfl (SemH.load_blk (hb4.ext e6) rfl rfl rfl rfl) ?_); (conv => whnf)) | (refine Vc.sts ?_; (conv => whnf)))))
      refine PureH.build (rowC (rowOf b)) (by subst hn; kernel_rfl) ?_
      ((conv => whnf); repeat (any_goals (first | (refine Vc.sts ?_; (conv => whnf)))))
      refine SemH.alloc rfl rfl ?_
      intro H7 hsa hba hxa
      have e7 : Ext H4 H7 := e6.trans hxa
      ((conv => whnf); repeat (any_goals (first | ((refine StillsH.load rfl rfl rfl rfl rfl rfl (SemH.load_blk (hb4.ext e7) rfl rfl rfl rfl) ?_); (conv => whnf)) | (refine Vc.sts ?_; (conv => whnf)))))
      refine DoH.put_all hba rfl rfl rfl rfl ?_
      intro H8 hs8 hb8 hx8
      have hge : H4.size ≤ H6.size := e6.size
      ((conv => whnf); repeat (any_goals (first | (refine Vc.sts ?_; (conv => whnf)))))
      exact ⟨H6.size, ⟨rfl, trivial⟩, hge, hb8, e7.but hx8 hge⟩
    · refine SemH.lit (vs := [_]) rfl rfl rfl rfl rfl rfl rfl ?_
      intro H5 hsl hbl hxl
      have e5 : Ext H4 H5 := (Ext.refl H4).trans hxl
      ((conv => whnf); repeat (any_goals (first | ((refine StillsH.load rfl rfl rfl rfl rfl rfl (SemH.load_blk (hb4.ext e5) rfl rfl rfl rfl) ?_); (conv => whnf)) | (refine Vc.sts ?_; (conv => whnf)))))
      refine SemH.alloc rfl rfl ?_
      intro H6 hsa hba hxa
      have e6 : Ext H4 H6 := e5.trans hxa
      ((conv => whnf); repeat (any_goals (first | ((refine StillsH.load rfl rfl rfl rfl rfl rfl (SemH.load_blk (hb4.ext e6) rfl rfl rfl rfl) ?_); (conv => whnf)) | (refine Vc.sts ?_; (conv => whnf)))))
      have hof := of1 (hbl.ext hxa) hn hc (hr4.ext e6) (by omega)
      ((conv => whnf); repeat (any_goals (first | ((refine StillsH.load rfl rfl rfl rfl rfl rfl (SemH.load_blk (hb4.ext e6) rfl rfl rfl rfl) ?_); (conv => whnf)) | ((refine hof.mono ?_; rintro _ H7 ⟨rfl, hxo⟩); (conv => whnf)) | (refine Vc.sts ?_; (conv => whnf)))))
      have e7 : Ext H4 H7 := e6.trans hxo
      ((conv => whnf); repeat (any_goals (first | ((refine StillsH.load rfl rfl rfl rfl rfl rfl (SemH.load_blk (hb4.ext e7) rfl rfl rfl rfl) ?_); (conv => whnf)) | (refine Vc.sts ?_; (conv => whnf)))))
      refine PureH.build (rowC (rowOf b)) (by subst hn; kernel_rfl) ?_
      ((conv => whnf); repeat (any_goals (first | (refine Vc.sts ?_; (conv => whnf)))))
      refine DoH.put_all (hba.ext hxo) rfl rfl rfl rfl ?_
      intro H8 hs8 hb8 hx8
      have hge : H4.size ≤ H5.size := e5.size
      ((conv => whnf); repeat (any_goals (first | (refine Vc.sts ?_; (conv => whnf)))))
      exact ⟨H5.size, ⟨rfl, trivial⟩, hge, hb8, e7.but hx8 hge⟩
    · refine SemH.alloc rfl rfl ?_
      intro H5 hsa hba hxa
      have e5 : Ext H4 H5 := (Ext.refl H4).trans hxa
      ((conv => whnf); repeat (any_goals (first | ((refine StillsH.load rfl rfl rfl rfl rfl rfl (SemH.load_blk (hb4.ext e5) rfl rfl rfl rfl) ?_); (conv => whnf)) | (refine Vc.sts ?_; (conv => whnf)))))
      refine SemH.lit (vs := [_]) rfl rfl rfl rfl rfl rfl rfl ?_
      intro H6 hsl hbl hxl
      have e6 : Ext H4 H6 := e5.trans hxl
      ((conv => whnf); repeat (any_goals (first | ((refine StillsH.load rfl rfl rfl rfl rfl rfl (SemH.load_blk (hb4.ext e6) rfl rfl rfl rfl) ?_); (conv => whnf)) | (refine Vc.sts ?_; (conv => whnf)))))
      have hof := of1 hbl hn hc (hr4.ext e6) (by omega)
      ((conv => whnf); repeat (any_goals (first | ((refine StillsH.load rfl rfl rfl rfl rfl rfl (SemH.load_blk (hb4.ext e6) rfl rfl rfl rfl) ?_); (conv => whnf)) | ((refine hof.mono ?_; rintro _ H7 ⟨rfl, hxo⟩); (conv => whnf)) | (refine Vc.sts ?_; (conv => whnf)))))
      have e7 : Ext H4 H7 := e6.trans hxo
      ((conv => whnf); repeat (any_goals (first | ((refine StillsH.load rfl rfl rfl rfl rfl rfl (SemH.load_blk (hb4.ext e7) rfl rfl rfl rfl) ?_); (conv => whnf)) | (refine Vc.sts ?_; (conv => whnf)))))
      refine PureH.build (rowC (rowOf b)) (by subst hn; kernel_rfl) ?_
      ((conv => whnf); repeat (any_goals (first | (refine Vc.sts ?_; (conv => whnf)))))
      refine DoH.put_all ((hba.ext hxl).ext hxo) rfl rfl rfl rfl ?_
      intro H8 hs8 hb8 hx8
      have hge : H4.size ≤ H4.size := (Ext.refl H4).size
      ((conv => whnf); repeat (any_goals (first | (refine Vc.sts ?_; (conv => whnf)))))
      exact ⟨H4.size, ⟨rfl, trivial⟩, hge, hb8, e7.but hx8 hge⟩
  · rintro g H5 ⟨hge, hb5, hx5⟩
    have hlr : lie = (lie.toNat : Int) := by omega
    generalize lie.toNat = z at hlr
    subst hlr
    have hb1' := (hb1.ext e4).ext hx5
    have hlt1 := hb1.lt
    have e5 : Ext H H5 := (hx1.trans e4).trans hx5
    have hz5 := e4.size
    have fin : ∀ (r : RowF) (H6 : Heap), Blk H6 g (rowC r) 63 → But g H5 H6 → Blk H6 H.size (rowC { nm := ⟨#[]⟩, mj := 0, mn := 0, pt := 0, key := List.replicate 32 0, sz := 0 }) 63 ∧ Ext H H6 := fun r H6 h6 hx6 => ⟨hb1'.but hx6 (by omega), e5.but hx6 (by omega)⟩
    unfold lieR
    by_cases h1 : z % 6 = 1
    · rw [if_pos h1]
      ((conv => whnf); repeat (any_goals (first | (((with_reducible apply SemH.load_at hb5); (focus (rfl)); (focus (rfl))); (conv => whnf)) | ((refine IdxH.nat 0 rfl (by decide) ?_); (conv => whnf)) | (refine Vc.sts ?_; (conv => whnf)))))
      refine DoH.store1 (o := 0 + 5 + 0) hb5 rfl rfl rfl (by show 0 + 5 + 0 < 39; omega) ?_
      intro H6 hs6 hb6 hx6
      replace hb6 : Blk H6 g ((rowC (rowOf b)).setIfInBounds (0 + 5 + 0) (.int .u8 (bitB .u8 .xor (keyI (rowOf b).key 0) 1))) 63 := hb6
      rw [rowC_flip _ (sumL_length b)] at hb6
      ((conv => whnf); repeat (any_goals (first | ((refine SemH.load_blk hb6 rfl rfl rfl ?_); (conv => whnf)) | (refine Vc.sts ?_; (conv => whnf)))))
      obtain ⟨hf, ef⟩ := fin _ H6 hb6 hx6
      refine DoH.put_all hf rfl rfl rfl rfl ?_
      intro H7 hs7 hb7 hx7
      ((conv => whnf); repeat (any_goals (first | ((refine SemH.load_blk hb7 rfl rfl rfl ?_); (conv => whnf)) | (refine Vc.sts ?_; (conv => whnf)))))
      refine ⟨rfl, ?_⟩
      (conv => whnf)
      exact ⟨rfl, ef.but hx7 (Nat.le_refl _)⟩
    · rw [if_neg h1]
      by_cases h2 : z % 6 = 2
      · rw [if_pos h2]
        have hsz : -9223372036854775808 ≤ (b.length : Int) + 5 ∧ (b.length : Int) + 5 ≤ 9223372036854775807 := by omega
        ((conv => whnf); repeat (any_goals (first | (((with_reducible apply SemH.load_at hb5); (focus (rfl)); (focus (rfl))); (conv => whnf)) | ((refine ArithH.i64 hsz ?_); (conv => whnf)) | (refine Vc.sts ?_; (conv => whnf)))))
        refine DoH.store1 (o := 0 + 37) hb5 rfl rfl rfl (by show 0 + 37 < 39; omega) ?_
        intro H6 hs6 hb6 hx6
        replace hb6 : Blk H6 g (rowC { rowOf b with sz := (rowOf b).sz + 5 }) 63 := hb6
        ((conv => whnf); repeat (any_goals (first | ((refine SemH.load_blk hb6 rfl rfl rfl ?_); (conv => whnf)) | (refine Vc.sts ?_; (conv => whnf)))))
        obtain ⟨hf, ef⟩ := fin _ H6 hb6 hx6
        refine DoH.put_all hf rfl rfl rfl rfl ?_
        intro H7 hs7 hb7 hx7
        ((conv => whnf); repeat (any_goals (first | ((refine SemH.load_blk hb7 rfl rfl rfl ?_); (conv => whnf)) | (refine Vc.sts ?_; (conv => whnf)))))
        refine ⟨rfl, ?_⟩
        (conv => whnf)
        exact ⟨rfl, ef.but hx7 (Nat.le_refl _)⟩
      · rw [if_neg h2]
        by_cases h3 : z % 6 = 3
        · rw [if_pos h3]
          have hsz : -9223372036854775808 ≤ (b.length : Int) - 5 ∧ (b.length : Int) - 5 ≤ 9223372036854775807 := by omega
          ((conv => whnf); repeat (any_goals (first | (((with_reducible apply SemH.load_at hb5); (focus (rfl)); (focus (rfl))); (conv => whnf)) | ((refine ArithH.i64 hsz ?_); (conv => whnf)) | (refine Vc.sts ?_; (conv => whnf)))))
          refine DoH.store1 (o := 0 + 37) hb5 rfl rfl rfl (by show 0 + 37 < 39; omega) ?_
          intro H6 hs6 hb6 hx6
          replace hb6 : Blk H6 g (rowC { rowOf b with sz := max ((rowOf b).sz - 5) 0 }) 63 := hb6
          ((conv => whnf); repeat (any_goals (first | ((refine SemH.load_blk hb6 rfl rfl rfl ?_); (conv => whnf)) | (refine Vc.sts ?_; (conv => whnf)))))
          obtain ⟨hf, ef⟩ := fin _ H6 hb6 hx6
          refine DoH.put_all hf rfl rfl rfl rfl ?_
          intro H7 hs7 hb7 hx7
          ((conv => whnf); repeat (any_goals (first | ((refine SemH.load_blk hb7 rfl rfl rfl ?_); (conv => whnf)) | (refine Vc.sts ?_; (conv => whnf)))))
          refine ⟨rfl, ?_⟩
          (conv => whnf)
          exact ⟨rfl, ef.but hx7 (Nat.le_refl _)⟩
        · rw [if_neg h3]
          by_cases h4 : z % 6 = 4
          · rw [if_pos h4]
            ((conv => whnf); repeat (any_goals (first | (refine Vc.sts ?_; (conv => whnf)))))
            refine DoH.store1 (o := 0 + 37) hb5 rfl rfl rfl (by show 0 + 37 < 39; omega) ?_
            intro H6 hs6 hb6 hx6
            replace hb6 : Blk H6 g (rowC { rowOf b with sz := -3 }) 63 := hb6
            ((conv => whnf); repeat (any_goals (first | ((refine SemH.load_blk hb6 rfl rfl rfl ?_); (conv => whnf)) | (refine Vc.sts ?_; (conv => whnf)))))
            obtain ⟨hf, ef⟩ := fin _ H6 hb6 hx6
            refine DoH.put_all hf rfl rfl rfl rfl ?_
            intro H7 hs7 hb7 hx7
            ((conv => whnf); repeat (any_goals (first | ((refine SemH.load_blk hb7 rfl rfl rfl ?_); (conv => whnf)) | (refine Vc.sts ?_; (conv => whnf)))))
            refine ⟨rfl, ?_⟩
            (conv => whnf)
            exact ⟨rfl, ef.but hx7 (Nat.le_refl _)⟩
          · rw [if_neg h4]
            have hx6 : But g H5 H5 := Only.refl _ _
            ((conv => whnf); repeat (any_goals (first | ((refine SemH.load_blk hb5 rfl rfl rfl ?_); (conv => whnf)) | (refine Vc.sts ?_; (conv => whnf)))))
            obtain ⟨hf, ef⟩ := fin _ H5 hb5 hx6
            refine DoH.put_all hf rfl rfl rfl rfl ?_
            intro H7 hs7 hb7 hx7
            ((conv => whnf); repeat (any_goals (first | ((refine SemH.load_blk hb7 rfl rfl rfl ?_); (conv => whnf)) | (refine Vc.sts ?_; (conv => whnf)))))
            refine ⟨rfl, ?_⟩
            (conv => whnf)
            exact ⟨rfl, ef.but hx7 (Nat.le_refl _)⟩
end Go.Proofs.YtlgcfcdmldlefaaDoor
