import Derived.Test.YtipebbbgpkplaaaFb
set_option linter.unusedVariables false
set_option maxRecDepth 100000
/- Numbers and texts as bytes: the writer. -/
namespace Go.Proofs.Ytipebbbgpkplaaa
open Go Go.Vc

/-- a number's bytes: seven bits each, the low ones first -/
def encN (n : Nat) : List UInt8 := if h : n < 128 then [UInt8.ofNat n] else UInt8.ofNat (n % 128 + 128) :: encN (n / 128)
termination_by n
decreasing_by omega
theorem encN_lt {n : Nat} (h : n < 128) : encN n = [UInt8.ofNat n] := by rw [encN, dif_pos h]
theorem encN_ge {n : Nat} (h : ¬ n < 128) : encN n = UInt8.ofNat (n % 128 + 128) :: encN (n / 128) := by rw [encN, dif_neg h]
theorem encN_len (k : Nat) : ∀ n : Nat, n < 128 ^ (k + 1) → (encN n).length ≤ k + 1 := by
  induction k with
  | zero => intro n h; rw [encN_lt (by omega)]; simp
  | succ k ih =>
    intro n h
    by_cases h1 : n < 128
    · rw [encN_lt h1]; simp
    · rw [encN_ge h1]
      have := ih (n / 128) (by rw [Nat.pow_succ] at h; omega)
      simp only [List.length_cons]; omega
theorem or128' : ∀ n : Nat, n < 256 → bitB .u8 .or (n : Int) 128 = ((n % 128 + 128 : Nat) : Int) := by decide +kernel
theorem or128 (n : Nat) : bitB .u8 .or ((n : Int) % 256) 128 = ((n % 128 + 128 : Nat) : Int) := by
  have := or128' (n % 256) (by omega)
  rw [show ((n : Int) % 256) = ((n % 256 : Nat) : Int) by omega, this]
  congr 1
  omega
theorem shr7 (n : Nat) : shrB .u64 (n : Int) 7 = ((n / 128 : Nat) : Int) := by
  show (n : Int).fdiv (2 ^ 7) = _
  rw [Int.fdiv_eq_ediv_of_nonneg _ (by decide)]
  rfl
theorem byte_nat {n : Nat} (h : n < 256) : (((UInt8.ofNat n).toNat : Nat) : Int) = n := by
  rw [UInt8.toNat_ofNat']
  omega

/-- what is written: in the object in block g, the bytes in a block of its own -/
structure Wt (H : Heap) (base g : Nat) (l : List UInt8) (a : Option Addr) (cap : Nat) : Prop where
  blk : Blk H g #[.slice a l.length cap] 101
  own : Own H base 5 1 a l.length cap (strV l)
  apart : ∀ p, a = some p → p.block ≠ g
  low : base ≤ g
theorem Wt.ext {H H' : Heap} {base g : Nat} {l : List UInt8} {a : Option Addr} {cap : Nat} (h : Wt H base g l a cap) (k : Ext H H') : Wt H' base g l a cap := ⟨h.blk.ext k, h.own.ext k, h.apart, h.low⟩
theorem wt_append {H : Heap} {base g : Nat} {l l2 : List UInt8} {a : Option Addr} {cap : Nat} {x : Value} {n2 : Nat} {t u : TypeId} (ht : t = 23) (hu : ∃ d, Try.prog.underlying u = some d ∧ (∀ k, d ≠ .int k)) (h : Wt H base g l a cap) (hsrc : Src Try.prog H x 1 n2 (strV l2)) (hn : l2.length = n2) (hm : l.length + n2 ≤ 70368744177664) (hbase : base ≤ H.size) {ty : TypeId} {cb : Array Bool} {K : Value → Heap → Prop}
    (hk : ∀ a' cap' H', Own H' base 5 1 a' (l ++ l2).length cap' (strV (l ++ l2)) → Blk H' g #[.slice a l.length cap] 101 → (∀ p, a' = some p → p.block ≠ g) → Fresh H a a' → Only (foot g a) H H' → K (.slice a' (l ++ l2).length cap') H') :
    NextH Try.prog (builtin .append #[t, u] ty cb #[.slice a l.length cap, x]) H K := by
  subst ht
  have e : (l ++ l2).length = l.length + n2 := by rw [List.length_append, hn]
  rw [e] at hk
  have hg := h.blk.lt
  refine NextH.append (i := Try.t5) (z := .int .u8 0) (base := base) rfl hu rfl rfl rfl h.own hsrc (by unfold maxLen; omega) (by show (l.length + n2) * 1 ≤ _; omega) hbase ?_
  intro a' cap' H' ho hw hnew
  refine hk a' cap' H' (by rw [strV_append]; exact ho) (h.blk.keep hw fun ⟨p, hp, hq⟩ => h.apart p hp hq) (fun p hp hq => ?_) hnew (hw.mono fun b h => .inr h)
  rcases hnew p hp with h1 | h1
  · exact h.apart p (h1 ▸ hp) hq
  · omega
theorem newwriter_any (H : Heap) : CallH Try.prog 38 [] H fun v H' => v = .pointer (some ⟨H.size, 0, none⟩) ∧ Wt H' H.size H.size [] none 0 ∧ Ext H H' := by
  refine Vc.CallH.body Try.func38 Try.call38 rfl (by decide +kernel) rfl ?_
  ((conv => whnf); repeat (any_goals (first | ((with_reducible first | refine Vc.SeqH.go ?_ | refine Vc.StillsH.nil ?_ | refine Vc.CallX.of ?_ | refine Vc.NextX.of ?_ | refine Vc.DrawH.text mixed (by decide +kernel) ?_ | refine Vc.ArithH.i64 (by omega) ?_ | refine Vc.ArithH.u8 (by omega) ?_ | refine Vc.ArithH.u64 (by omega) ?_ | refine Vc.ArithH.u32 (by omega) ?_ | refine Vc.NeedH.mk ⟨by omega, ?_⟩ | refine Vc.QuoH.i64 (by omega) ?_ | refine Vc.RemH.pos (by omega) ?_ | refine Vc.CondH.bnot ?_ | refine Vc.CondH.lit_t ?_ | refine Vc.CondH.lit_f ?_ | refine Vc.SplitH.lit_t ?_ | refine Vc.SplitH.lit_f ?_ | refine Vc.CondH.pos (by first | (rw [decide_eq_true_eq]; omega) | (rw [beq_iff_eq]; omega) | (rw [bne_iff_ne]; omega)) ?_ | refine Vc.CondH.neg (by first | (rw [decide_eq_false_iff_not]; omega) | (rw [beq_eq_false_iff_ne]; omega) | (rw [bne_eq_false_iff_eq]; omega)) ?_); (conv => whnf)))))
  refine PureH.build #[.slice none 0 0] (by kernel_rfl) ?_
  ((conv => whnf); repeat (any_goals (first | ((with_reducible first | refine Vc.SeqH.go ?_ | refine Vc.StillsH.nil ?_ | refine Vc.CallX.of ?_ | refine Vc.NextX.of ?_ | refine Vc.DrawH.text mixed (by decide +kernel) ?_ | refine Vc.ArithH.i64 (by omega) ?_ | refine Vc.ArithH.u8 (by omega) ?_ | refine Vc.ArithH.u64 (by omega) ?_ | refine Vc.ArithH.u32 (by omega) ?_ | refine Vc.NeedH.mk ⟨by omega, ?_⟩ | refine Vc.QuoH.i64 (by omega) ?_ | refine Vc.RemH.pos (by omega) ?_ | refine Vc.CondH.bnot ?_ | refine Vc.CondH.lit_t ?_ | refine Vc.CondH.lit_f ?_ | refine Vc.SplitH.lit_t ?_ | refine Vc.SplitH.lit_f ?_ | refine Vc.CondH.pos (by first | (rw [decide_eq_true_eq]; omega) | (rw [beq_iff_eq]; omega) | (rw [bne_iff_ne]; omega)) ?_ | refine Vc.CondH.neg (by first | (rw [decide_eq_false_iff_not]; omega) | (rw [beq_eq_false_iff_ne]; omega) | (rw [bne_eq_false_iff_eq]; omega)) ?_); (conv => whnf)))))
  refine SemH.box ?_
  intro H1 hs1 hb1 hx1
  ((conv => whnf); repeat (any_goals (first | ((with_reducible first | refine Vc.SeqH.go ?_ | refine Vc.StillsH.nil ?_ | refine Vc.CallX.of ?_ | refine Vc.NextX.of ?_ | refine Vc.DrawH.text mixed (by decide +kernel) ?_ | refine Vc.ArithH.i64 (by omega) ?_ | refine Vc.ArithH.u8 (by omega) ?_ | refine Vc.ArithH.u64 (by omega) ?_ | refine Vc.ArithH.u32 (by omega) ?_ | refine Vc.NeedH.mk ⟨by omega, ?_⟩ | refine Vc.QuoH.i64 (by omega) ?_ | refine Vc.RemH.pos (by omega) ?_ | refine Vc.CondH.bnot ?_ | refine Vc.CondH.lit_t ?_ | refine Vc.CondH.lit_f ?_ | refine Vc.SplitH.lit_t ?_ | refine Vc.SplitH.lit_f ?_ | refine Vc.CondH.pos (by first | (rw [decide_eq_true_eq]; omega) | (rw [beq_iff_eq]; omega) | (rw [bne_iff_ne]; omega)) ?_ | refine Vc.CondH.neg (by first | (rw [decide_eq_false_iff_not]; omega) | (rw [beq_eq_false_iff_ne]; omega) | (rw [bne_eq_false_iff_eq]; omega)) ?_); (conv => whnf)))))
  exact ⟨rfl, ⟨hb1, Own.nil _ _ _ _, fun p hp => (by cases hp), Nat.le_refl _⟩, hx1⟩
theorem wbytes_any {H : Heap} {base g : Nat} {l : List UInt8} {a : Option Addr} {cap : Nat} (h : Wt H base g l a cap) (hm : l.length ≤ 70368744177664) : CallH Try.prog 41 [.pointer (some ⟨g, 0, none⟩)] H fun v H' => (∃ a' cap', v = .slice a' l.length cap' ∧ Own H' H.size 5 1 a' l.length cap' (strV l)) ∧ Ext H H' := by
  have hb := h.blk
  have hcl := cloneb_any l a l.length cap H h.own.row rfl (fun e => by
    rcases h.own.out with ⟨_, h, _⟩ | ⟨_, _, h, _⟩
    · exact h
    · rw [e] at h; cases h) (by omega)
  refine Vc.CallH.body Try.func41 Try.call41 rfl (by decide +kernel) rfl ?_
  ((conv => whnf); repeat (any_goals (first | (((with_reducible apply SemH.load_at hb); (focus (rfl)); (focus (rfl))); (conv => whnf)) | ((refine hcl.mono ?_; rintro _ H1 ⟨⟨a1, c1, rfl, ho⟩, hx1⟩); (conv => whnf)) | ((with_reducible first | refine Vc.SeqH.go ?_ | refine Vc.StillsH.nil ?_ | refine Vc.CallX.of ?_ | refine Vc.NextX.of ?_ | refine Vc.DrawH.text mixed (by decide +kernel) ?_ | refine Vc.ArithH.i64 (by omega) ?_ | refine Vc.ArithH.u8 (by omega) ?_ | refine Vc.ArithH.u64 (by omega) ?_ | refine Vc.ArithH.u32 (by omega) ?_ | refine Vc.NeedH.mk ⟨by omega, ?_⟩ | refine Vc.QuoH.i64 (by omega) ?_ | refine Vc.RemH.pos (by omega) ?_ | refine Vc.CondH.bnot ?_ | refine Vc.CondH.lit_t ?_ | refine Vc.CondH.lit_f ?_ | refine Vc.SplitH.lit_t ?_ | refine Vc.SplitH.lit_f ?_ | refine Vc.CondH.pos (by first | (rw [decide_eq_true_eq]; omega) | (rw [beq_iff_eq]; omega) | (rw [bne_iff_ne]; omega)) ?_ | refine Vc.CondH.neg (by first | (rw [decide_eq_false_iff_not]; omega) | (rw [beq_eq_false_iff_ne]; omega) | (rw [bne_eq_false_iff_eq]; omega)) ?_); (conv => whnf)))))
  exact ⟨⟨_, _, rfl, ho⟩, hx1⟩

/-- between numbers: what is written, from where -/
structure WtI (H0 H : Heap) (base g : Nat) (a0 : Option Addr) (l : List UInt8) (a : Option Addr) (cap : Nat) : Prop where
  w : Wt H base g l a cap
  new : Fresh H0 a0 a
  only : Only (foot g a0) H0 H
set_option maxHeartbeats 1000000 in
theorem wnum_any {H : Heap} {base g : Nat} {l : List UInt8} {a a2 : Option Addr} {cap cap2 n2 : Nat} {ns : List Nat} (h : Wt H base g l a cap) (hr : Row H a2 (ns.map fun (n : Nat) => Value.int .u64 (n : Int))) (hn : ns.length = n2) (hns : ∀ n ∈ ns, n < 18446744073709551616) (hm : l.length + 10 * n2 ≤ 70368744177664) (hbase : base ≤ H.size)
    (hap : ∀ p, a2 = some p → ¬ foot g a p.block) :
    CallH Try.prog 40 [.pointer (some ⟨g, 0, none⟩), .slice a2 n2 cap2] H fun v H' => (∃ a' cap', WtI H H' base g a (l ++ ns.flatMap encN) a' cap') := by
  refine Vc.CallH.body Try.func40 Try.call40 rfl (by decide +kernel) rfl ?_
  ((conv => whnf); repeat (any_goals (first | ((with_reducible first | refine Vc.SeqH.go ?_ | refine Vc.StillsH.nil ?_ | refine Vc.CallX.of ?_ | refine Vc.NextX.of ?_ | refine Vc.DrawH.text mixed (by decide +kernel) ?_ | refine Vc.ArithH.i64 (by omega) ?_ | refine Vc.ArithH.u8 (by omega) ?_ | refine Vc.ArithH.u64 (by omega) ?_ | refine Vc.ArithH.u32 (by omega) ?_ | refine Vc.NeedH.mk ⟨by omega, ?_⟩ | refine Vc.QuoH.i64 (by omega) ?_ | refine Vc.RemH.pos (by omega) ?_ | refine Vc.CondH.bnot ?_ | refine Vc.CondH.lit_t ?_ | refine Vc.CondH.lit_f ?_ | refine Vc.SplitH.lit_t ?_ | refine Vc.SplitH.lit_f ?_ | refine Vc.CondH.pos (by first | (rw [decide_eq_true_eq]; omega) | (rw [beq_iff_eq]; omega) | (rw [bne_iff_ne]; omega)) ?_ | refine Vc.CondH.neg (by first | (rw [decide_eq_false_iff_not]; omega) | (rw [beq_eq_false_iff_ne]; omega) | (rw [bne_eq_false_iff_eq]; omega)) ?_); (conv => whnf)))))
  refine LoopH.intro (fun (s : Nat × Option Addr × Nat) => [(8, .int .i64 s.1)]) (fun s H' => s.1 ≤ n2 ∧ WtI H H' base g a (l ++ (ns.take s.1).flatMap encN) s.2.1 s.2.2) (fun s => n2 - s.1) (0, a, cap) ⟨rfl, trivial⟩ ⟨Nat.zero_le _, by rw [List.take_zero, List.flatMap_nil, List.append_nil]; exact ⟨h, Fresh.refl _ _, Only.refl _ _⟩⟩ ?_
  rintro ⟨i, a1, cap1⟩ H1 ⟨hi, hI⟩
  dsimp only at hi hI ⊢
  by_cases hin : i < n2
  · obtain ⟨n, hnn⟩ : ∃ n, ns[i]? = some n := ⟨ns[i], List.getElem?_eq_getElem (by omega)⟩
    have hr1 : Row H1 a2 (ns.map fun (n : Nat) => Value.int .u64 (n : Int)) := hr.keep hI.only hap
    ((conv => whnf); repeat (any_goals (first | ((refine SplitH.pos (by rw [decide_eq_true_eq]; omega) ?_); (conv => whnf)) | ((refine IdxA.row (size := 1) hr1 (by rw [List.length_map, Nat.mul_one]; exact hn) (by decide) i rfl hin ?_; intro b o _ _ hc; have hcl := hc 0 (.int .u64 (n : Int)) (by rw [Nat.mul_one, Nat.add_zero, List.getElem?_map, hnn]; rfl)); (conv => whnf)) | (((with_reducible apply SemH.load); (focus (rfl)); (focus (exact hcl))); (conv => whnf)) | ((with_reducible first | refine Vc.SeqH.go ?_ | refine Vc.StillsH.nil ?_ | refine Vc.CallX.of ?_ | refine Vc.NextX.of ?_ | refine Vc.DrawH.text mixed (by decide +kernel) ?_ | refine Vc.ArithH.i64 (by omega) ?_ | refine Vc.ArithH.u8 (by omega) ?_ | refine Vc.ArithH.u64 (by omega) ?_ | refine Vc.ArithH.u32 (by omega) ?_ | refine Vc.NeedH.mk ⟨by omega, ?_⟩ | refine Vc.QuoH.i64 (by omega) ?_ | refine Vc.RemH.pos (by omega) ?_ | refine Vc.CondH.bnot ?_ | refine Vc.CondH.lit_t ?_ | refine Vc.CondH.lit_f ?_ | refine Vc.SplitH.lit_t ?_ | refine Vc.SplitH.lit_f ?_ | refine Vc.CondH.pos (by first | (rw [decide_eq_true_eq]; omega) | (rw [beq_iff_eq]; omega) | (rw [bne_iff_ne]; omega)) ?_ | refine Vc.CondH.neg (by first | (rw [decide_eq_false_iff_not]; omega) | (rw [beq_eq_false_iff_ne]; omega) | (rw [bne_eq_false_iff_eq]; omega)) ?_); (conv => whnf)))))
    have hnl := hns n (List.mem_of_getElem? hnn)
    have hlen := encN_len 9 n (by omega)
    have hpre : (l ++ (ns.take i).flatMap encN).length ≤ l.length + 10 * i := by
      rw [List.length_append, List.length_flatMap]
      have : ∀ (us : List Nat), (∀ u ∈ us, u < 18446744073709551616) → ((us.map fun n => (encN n).length).sum) ≤ 10 * us.length := by
        intro us
        induction us with
        | nil => intro _; simp
        | cons u us ih =>
          intro hu
          have h1 := ih fun x hx => hu x (by simp [hx])
          have h2 := encN_len 9 u (by have := hu u (by simp); omega)
          simp only [List.map_cons, List.sum_cons, List.length_cons]; omega
      have h3 := this (ns.take i) fun u hu => hns u (List.mem_of_mem_take hu)
      rw [List.length_take] at h3
      omega
    generalize hL : l ++ (ns.take i).flatMap encN = L at hI hpre
    have hnext : l ++ (ns.take (i + 1)).flatMap encN = L ++ encN n := by
      rw [List.take_add_one, hnn, ← hL]; simp
    refine LoopH.intro (fun (s : Nat × List UInt8 × Option Addr × Nat) => [(5, .int .u64 (s.1 : Int))]) (fun s H' => s.1 < 18446744073709551616 ∧ s.2.1 ++ encN s.1 = encN n ∧ WtI H H' base g a (L ++ s.2.1) s.2.2.1 s.2.2.2) (fun s => s.1) (n, [], a1, cap1) ⟨rfl, trivial⟩ ⟨hnl, rfl, by rw [List.append_nil]; exact hI⟩ ?_
    rintro ⟨q, D, a2', cap2'⟩ H2 ⟨hq, hD, hJ⟩
    dsimp only at hq hD hJ ⊢
    have hbk := hJ.w.blk
    have hbs : base ≤ H2.size := by have := hJ.only.size; omega
    have hDl : D.length + (encN q).length = (encN n).length := by rw [← hD, List.length_append]
    have hel : 1 ≤ (encN q).length := by
      by_cases h1 : q < 128
      · rw [encN_lt h1]; simp
      · rw [encN_ge h1]; simp
    have hll : (L ++ D).length + 1 ≤ 70368744177664 := by rw [List.length_append]; omega
    by_cases h128 : q < 128
    · have hq8 : ((q : Int) % 256) = ((UInt8.ofNat q).toNat : Int) := by rw [byte_nat (by omega)]; omega
      ((conv => whnf); repeat (any_goals (first | ((refine SplitH.neg (by rw [decide_eq_false_iff_not]; omega) ?_); (conv => whnf)) | ((refine CondH.neg (by rw [decide_eq_false_iff_not]; omega) ?_); (conv => whnf)) | (((with_reducible apply SemH.load_at hbk); (focus (rfl)); (focus (rfl))); (conv => whnf)) | ((refine ArithH.u8m ?_; rw [hq8]); (conv => whnf)) | ((with_reducible first | refine Vc.SeqH.go ?_ | refine Vc.StillsH.nil ?_ | refine Vc.CallX.of ?_ | refine Vc.NextX.of ?_ | refine Vc.DrawH.text mixed (by decide +kernel) ?_ | refine Vc.ArithH.i64 (by omega) ?_ | refine Vc.ArithH.u8 (by omega) ?_ | refine Vc.ArithH.u64 (by omega) ?_ | refine Vc.ArithH.u32 (by omega) ?_ | refine Vc.NeedH.mk ⟨by omega, ?_⟩ | refine Vc.QuoH.i64 (by omega) ?_ | refine Vc.RemH.pos (by omega) ?_ | refine Vc.CondH.bnot ?_ | refine Vc.CondH.lit_t ?_ | refine Vc.CondH.lit_f ?_ | refine Vc.SplitH.lit_t ?_ | refine Vc.SplitH.lit_f ?_ | refine Vc.CondH.pos (by first | (rw [decide_eq_true_eq]; omega) | (rw [beq_iff_eq]; omega) | (rw [bne_iff_ne]; omega)) ?_ | refine Vc.CondH.neg (by first | (rw [decide_eq_false_iff_not]; omega) | (rw [beq_eq_false_iff_ne]; omega) | (rw [bne_eq_false_iff_eq]; omega)) ?_); (conv => whnf)))))
      refine SemH.lit (vs := [_]) rfl rfl rfl rfl rfl rfl rfl ?_
      intro H3 hs3 hb3 hx3
      replace hb3 : Blk H3 H2.size (strV [UInt8.ofNat q]).toArray 5 := hb3
      ((conv => whnf); repeat (any_goals (first | ((with_reducible first | refine Vc.SeqH.go ?_ | refine Vc.StillsH.nil ?_ | refine Vc.CallX.of ?_ | refine Vc.NextX.of ?_ | refine Vc.DrawH.text mixed (by decide +kernel) ?_ | refine Vc.ArithH.i64 (by omega) ?_ | refine Vc.ArithH.u8 (by omega) ?_ | refine Vc.ArithH.u64 (by omega) ?_ | refine Vc.ArithH.u32 (by omega) ?_ | refine Vc.NeedH.mk ⟨by omega, ?_⟩ | refine Vc.QuoH.i64 (by omega) ?_ | refine Vc.RemH.pos (by omega) ?_ | refine Vc.CondH.bnot ?_ | refine Vc.CondH.lit_t ?_ | refine Vc.CondH.lit_f ?_ | refine Vc.SplitH.lit_t ?_ | refine Vc.SplitH.lit_f ?_ | refine Vc.CondH.pos (by first | (rw [decide_eq_true_eq]; omega) | (rw [beq_iff_eq]; omega) | (rw [bne_iff_ne]; omega)) ?_ | refine Vc.CondH.neg (by first | (rw [decide_eq_false_iff_not]; omega) | (rw [beq_eq_false_iff_ne]; omega) | (rw [bne_eq_false_iff_eq]; omega)) ?_); (conv => whnf)))))
      have hw3 := hJ.w.ext hx3
      refine wt_append rfl ⟨_, rfl, fun _ h => by cases h⟩ hw3 (Src.row (c := 1) hb3.row rfl (strV_plain _)) rfl hll (by omega) ?_
      intro a4 cap4 H4 ho4 hb4 hap4 hn4 hx4
      ((conv => whnf); repeat (any_goals (first | ((with_reducible first | refine Vc.SeqH.go ?_ | refine Vc.StillsH.nil ?_ | refine Vc.CallX.of ?_ | refine Vc.NextX.of ?_ | refine Vc.DrawH.text mixed (by decide +kernel) ?_ | refine Vc.ArithH.i64 (by omega) ?_ | refine Vc.ArithH.u8 (by omega) ?_ | refine Vc.ArithH.u64 (by omega) ?_ | refine Vc.ArithH.u32 (by omega) ?_ | refine Vc.NeedH.mk ⟨by omega, ?_⟩ | refine Vc.QuoH.i64 (by omega) ?_ | refine Vc.RemH.pos (by omega) ?_ | refine Vc.CondH.bnot ?_ | refine Vc.CondH.lit_t ?_ | refine Vc.CondH.lit_f ?_ | refine Vc.SplitH.lit_t ?_ | refine Vc.SplitH.lit_f ?_ | refine Vc.CondH.pos (by first | (rw [decide_eq_true_eq]; omega) | (rw [beq_iff_eq]; omega) | (rw [bne_iff_ne]; omega)) ?_ | refine Vc.CondH.neg (by first | (rw [decide_eq_false_iff_not]; omega) | (rw [beq_eq_false_iff_ne]; omega) | (rw [bne_eq_false_iff_eq]; omega)) ?_); (conv => whnf)))))
      refine DoH.store1 (o := 0 + 0) hb4 rfl rfl rfl (by show 0 + 0 < 1; omega) ?_
      intro H5 hs5 hb5 hx5
      ((conv => whnf); repeat (any_goals (first | ((with_reducible first | refine Vc.SeqH.go ?_ | refine Vc.StillsH.nil ?_ | refine Vc.CallX.of ?_ | refine Vc.NextX.of ?_ | refine Vc.DrawH.text mixed (by decide +kernel) ?_ | refine Vc.ArithH.i64 (by omega) ?_ | refine Vc.ArithH.u8 (by omega) ?_ | refine Vc.ArithH.u64 (by omega) ?_ | refine Vc.ArithH.u32 (by omega) ?_ | refine Vc.NeedH.mk ⟨by omega, ?_⟩ | refine Vc.QuoH.i64 (by omega) ?_ | refine Vc.RemH.pos (by omega) ?_ | refine Vc.CondH.bnot ?_ | refine Vc.CondH.lit_t ?_ | refine Vc.CondH.lit_f ?_ | refine Vc.SplitH.lit_t ?_ | refine Vc.SplitH.lit_f ?_ | refine Vc.CondH.pos (by first | (rw [decide_eq_true_eq]; omega) | (rw [beq_iff_eq]; omega) | (rw [bne_iff_ne]; omega)) ?_ | refine Vc.CondH.neg (by first | (rw [decide_eq_false_iff_not]; omega) | (rw [beq_eq_false_iff_ne]; omega) | (rw [bne_eq_false_iff_eq]; omega)) ?_); (conv => whnf)))))
      refine ⟨(i + 1, a4, cap4), ⟨rfl, trivial⟩, ⟨by show i + 1 ≤ n2; omega, ?_⟩, by show n2 - (i + 1) < n2 - i; omega⟩
      rw [hnext, ← hD, encN_lt h128, ← List.append_assoc]
      refine ⟨⟨hb5, ho4.keep hx5 hap4, hap4, hJ.w.low⟩, ?_, ?_⟩
      · intro p hp
        rcases hn4 p hp with h1 | h1
        · exact (hJ.new p (h1 ▸ hp)).imp h1.trans id
        · have := hJ.only.size; have := hx3.size; exact .inr (by omega)
      · refine ((hJ.only.trans hx3.only fun _ _ => id).trans hx4 fun x hx h => ?_).trans hx5 fun x _ h => .inl h
        rcases h with h | ⟨p, hp, h⟩
        · exact .inl h
        · rcases hJ.new p hp with h1 | h1
          · exact .inr ⟨p, h1 ▸ hp, h⟩
          · omega
    · have hq8 : ((q % 128 + 128 : Nat) : Int) = ((UInt8.ofNat (q % 128 + 128)).toNat : Int) := by rw [byte_nat (by omega)]
      ((conv => whnf); repeat (any_goals (first | ((refine SplitH.pos (by rw [decide_eq_true_eq]; omega) ?_); (conv => whnf)) | ((refine CondH.pos (by rw [decide_eq_true_eq]; omega) ?_); (conv => whnf)) | (((with_reducible apply SemH.load_at hbk); (focus (rfl)); (focus (rfl))); (conv => whnf)) | ((refine ArithH.u8m ?_); (conv => whnf)) | ((with_reducible first | refine Vc.SeqH.go ?_ | refine Vc.StillsH.nil ?_ | refine Vc.CallX.of ?_ | refine Vc.NextX.of ?_ | refine Vc.DrawH.text mixed (by decide +kernel) ?_ | refine Vc.ArithH.i64 (by omega) ?_ | refine Vc.ArithH.u8 (by omega) ?_ | refine Vc.ArithH.u64 (by omega) ?_ | refine Vc.ArithH.u32 (by omega) ?_ | refine Vc.NeedH.mk ⟨by omega, ?_⟩ | refine Vc.QuoH.i64 (by omega) ?_ | refine Vc.RemH.pos (by omega) ?_ | refine Vc.CondH.bnot ?_ | refine Vc.CondH.lit_t ?_ | refine Vc.CondH.lit_f ?_ | refine Vc.SplitH.lit_t ?_ | refine Vc.SplitH.lit_f ?_ | refine Vc.CondH.pos (by first | (rw [decide_eq_true_eq]; omega) | (rw [beq_iff_eq]; omega) | (rw [bne_iff_ne]; omega)) ?_ | refine Vc.CondH.neg (by first | (rw [decide_eq_false_iff_not]; omega) | (rw [beq_eq_false_iff_ne]; omega) | (rw [bne_eq_false_iff_eq]; omega)) ?_); (conv => whnf)))))
      rw [or128, hq8]
      refine SemH.lit (vs := [_]) rfl rfl rfl rfl rfl rfl rfl ?_
      intro H3 hs3 hb3 hx3
      replace hb3 : Blk H3 H2.size (strV [UInt8.ofNat (q % 128 + 128)]).toArray 5 := hb3
      ((conv => whnf); repeat (any_goals (first | ((with_reducible first | refine Vc.SeqH.go ?_ | refine Vc.StillsH.nil ?_ | refine Vc.CallX.of ?_ | refine Vc.NextX.of ?_ | refine Vc.DrawH.text mixed (by decide +kernel) ?_ | refine Vc.ArithH.i64 (by omega) ?_ | refine Vc.ArithH.u8 (by omega) ?_ | refine Vc.ArithH.u64 (by omega) ?_ | refine Vc.ArithH.u32 (by omega) ?_ | refine Vc.NeedH.mk ⟨by omega, ?_⟩ | refine Vc.QuoH.i64 (by omega) ?_ | refine Vc.RemH.pos (by omega) ?_ | refine Vc.CondH.bnot ?_ | refine Vc.CondH.lit_t ?_ | refine Vc.CondH.lit_f ?_ | refine Vc.SplitH.lit_t ?_ | refine Vc.SplitH.lit_f ?_ | refine Vc.CondH.pos (by first | (rw [decide_eq_true_eq]; omega) | (rw [beq_iff_eq]; omega) | (rw [bne_iff_ne]; omega)) ?_ | refine Vc.CondH.neg (by first | (rw [decide_eq_false_iff_not]; omega) | (rw [beq_eq_false_iff_ne]; omega) | (rw [bne_eq_false_iff_eq]; omega)) ?_); (conv => whnf)))))
      have hw3 := hJ.w.ext hx3
      refine wt_append rfl ⟨_, rfl, fun _ h => by cases h⟩ hw3 (Src.row (c := 1) hb3.row rfl (strV_plain _)) rfl hll (by omega) ?_
      intro a4 cap4 H4 ho4 hb4 hap4 hn4 hx4
      ((conv => whnf); repeat (any_goals (first | ((with_reducible first | refine Vc.SeqH.go ?_ | refine Vc.StillsH.nil ?_ | refine Vc.CallX.of ?_ | refine Vc.NextX.of ?_ | refine Vc.DrawH.text mixed (by decide +kernel) ?_ | refine Vc.ArithH.i64 (by omega) ?_ | refine Vc.ArithH.u8 (by omega) ?_ | refine Vc.ArithH.u64 (by omega) ?_ | refine Vc.ArithH.u32 (by omega) ?_ | refine Vc.NeedH.mk ⟨by omega, ?_⟩ | refine Vc.QuoH.i64 (by omega) ?_ | refine Vc.RemH.pos (by omega) ?_ | refine Vc.CondH.bnot ?_ | refine Vc.CondH.lit_t ?_ | refine Vc.CondH.lit_f ?_ | refine Vc.SplitH.lit_t ?_ | refine Vc.SplitH.lit_f ?_ | refine Vc.CondH.pos (by first | (rw [decide_eq_true_eq]; omega) | (rw [beq_iff_eq]; omega) | (rw [bne_iff_ne]; omega)) ?_ | refine Vc.CondH.neg (by first | (rw [decide_eq_false_iff_not]; omega) | (rw [beq_eq_false_iff_ne]; omega) | (rw [bne_eq_false_iff_eq]; omega)) ?_); (conv => whnf)))))
      refine DoH.store1 (o := 0 + 0) hb4 rfl rfl rfl (by show 0 + 0 < 1; omega) ?_
      intro H5 hs5 hb5 hx5
      ((conv => whnf); repeat (any_goals (first | ((with_reducible first | refine Vc.SeqH.go ?_ | refine Vc.StillsH.nil ?_ | refine Vc.CallX.of ?_ | refine Vc.NextX.of ?_ | refine Vc.DrawH.text mixed (by decide +kernel) ?_ | refine Vc.ArithH.i64 (by omega) ?_ | refine Vc.ArithH.u8 (by omega) ?_ | refine Vc.ArithH.u64 (by omega) ?_ | refine Vc.ArithH.u32 (by omega) ?_ | refine Vc.NeedH.mk ⟨by omega, ?_⟩ | refine Vc.QuoH.i64 (by omega) ?_ | refine Vc.RemH.pos (by omega) ?_ | refine Vc.CondH.bnot ?_ | refine Vc.CondH.lit_t ?_ | refine Vc.CondH.lit_f ?_ | refine Vc.SplitH.lit_t ?_ | refine Vc.SplitH.lit_f ?_ | refine Vc.CondH.pos (by first | (rw [decide_eq_true_eq]; omega) | (rw [beq_iff_eq]; omega) | (rw [bne_iff_ne]; omega)) ?_ | refine Vc.CondH.neg (by first | (rw [decide_eq_false_iff_not]; omega) | (rw [beq_eq_false_iff_ne]; omega) | (rw [bne_eq_false_iff_eq]; omega)) ?_); (conv => whnf)))))
      refine ⟨(q / 128, D ++ [UInt8.ofNat (q % 128 + 128)], a4, cap4), ⟨by show Value.int .u64 (shrB .u64 q 7) = Value.int .u64 ((q / 128 : Nat) : Int); rw [shr7], trivial⟩, ⟨by show q / 128 < _; omega, ?_, ?_⟩, by show q / 128 < q; omega⟩
      · show (D ++ [_]) ++ encN (q / 128) = _
        rw [← hD, encN_ge h128]; simp
      have eA : L ++ (D ++ [UInt8.ofNat (q % 128 + 128)]) = L ++ D ++ [UInt8.ofNat (q % 128 + 128)] := (List.append_assoc _ _ _).symm
      refine ⟨?_, ?_, ?_⟩
      · show Wt H5 base g (L ++ (D ++ [UInt8.ofNat (q % 128 + 128)])) a4 cap4
        rw [eA]
        exact ⟨hb5, ho4.keep hx5 hap4, hap4, hJ.w.low⟩
      · intro p hp
        rcases hn4 p hp with h1 | h1
        · exact (hJ.new p (h1 ▸ hp)).imp h1.trans id
        · have := hJ.only.size; have := hx3.size; exact .inr (by omega)
      · refine ((hJ.only.trans hx3.only fun _ _ => id).trans hx4 fun x hx h => ?_).trans hx5 fun x _ h => .inl h
        rcases h with h | ⟨p, hp, h⟩
        · exact .inl h
        · rcases hJ.new p hp with h1 | h1
          · exact .inr ⟨p, h1 ▸ hp, h⟩
          · omega
  · obtain rfl : i = n2 := by omega
    ((conv => whnf); repeat (any_goals (first | ((refine SplitH.neg (by rw [decide_eq_false_iff_not]; omega) ?_); (conv => whnf)) | ((with_reducible first | refine Vc.SeqH.go ?_ | refine Vc.StillsH.nil ?_ | refine Vc.CallX.of ?_ | refine Vc.NextX.of ?_ | refine Vc.DrawH.text mixed (by decide +kernel) ?_ | refine Vc.ArithH.i64 (by omega) ?_ | refine Vc.ArithH.u8 (by omega) ?_ | refine Vc.ArithH.u64 (by omega) ?_ | refine Vc.ArithH.u32 (by omega) ?_ | refine Vc.NeedH.mk ⟨by omega, ?_⟩ | refine Vc.QuoH.i64 (by omega) ?_ | refine Vc.RemH.pos (by omega) ?_ | refine Vc.CondH.bnot ?_ | refine Vc.CondH.lit_t ?_ | refine Vc.CondH.lit_f ?_ | refine Vc.SplitH.lit_t ?_ | refine Vc.SplitH.lit_f ?_ | refine Vc.CondH.pos (by first | (rw [decide_eq_true_eq]; omega) | (rw [beq_iff_eq]; omega) | (rw [bne_iff_ne]; omega)) ?_ | refine Vc.CondH.neg (by first | (rw [decide_eq_false_iff_not]; omega) | (rw [beq_eq_false_iff_ne]; omega) | (rw [bne_eq_false_iff_eq]; omega)) ?_); (conv => whnf)))))
    rw [List.take_of_length_le (by omega)] at hI
    exact ⟨_, _, hI⟩

/-- a text's bytes: its length, then it -/
def encT (s : List UInt8) : List UInt8 := encN s.length ++ s
theorem WtI.step {H0 H H' : Heap} {base g : Nat} {a0 a a' : Option Addr} {l l' : List UInt8} {cap cap' : Nat} (h : WtI H0 H base g a0 l a cap) (hw : Wt H' base g l' a' cap') (hn : Fresh H a a') (ho : Only (foot g a) H H') : WtI H0 H' base g a0 l' a' cap' := by
  refine ⟨hw, fun p hp => ?_, h.only.trans ho fun x hx e => ?_⟩
  · rcases hn p hp with h1 | h1
    · exact (h.new p (h1 ▸ hp)).imp h1.trans id
    · have := h.only.size; exact .inr (by omega)
  · rcases e with e | ⟨p, hp, e⟩
    · exact .inl e
    · rcases h.new p hp with h1 | h1
      · exact .inr ⟨p, h1 ▸ hp, e⟩
      · omega
set_option maxHeartbeats 1000000 in
theorem wtext_any {H : Heap} {base g : Nat} {l : List UInt8} {a a2 : Option Addr} {cap cap2 n2 : Nat} {ss : List (List UInt8)} (h : Wt H base g l a cap) (hr : Row H a2 (ss.map fun (s : List UInt8) => Value.string ⟨s.toArray⟩)) (hn : ss.length = n2) (hm : l.length + 10 * n2 + (ss.map List.length).sum ≤ 70368744177664) (hbase : base ≤ H.size)
    (hap : ∀ p, a2 = some p → ¬ foot g a p.block) :
    CallH Try.prog 39 [.pointer (some ⟨g, 0, none⟩), .slice a2 n2 cap2] H fun v H' => (∃ a' cap', WtI H H' base g a (l ++ ss.flatMap encT) a' cap') := by
  refine Vc.CallH.body Try.func39 Try.call39 rfl (by decide +kernel) rfl ?_
  ((conv => whnf); repeat (any_goals (first | ((with_reducible first | refine Vc.SeqH.go ?_ | refine Vc.StillsH.nil ?_ | refine Vc.CallX.of ?_ | refine Vc.NextX.of ?_ | refine Vc.DrawH.text mixed (by decide +kernel) ?_ | refine Vc.ArithH.i64 (by omega) ?_ | refine Vc.ArithH.u8 (by omega) ?_ | refine Vc.ArithH.u64 (by omega) ?_ | refine Vc.ArithH.u32 (by omega) ?_ | refine Vc.NeedH.mk ⟨by omega, ?_⟩ | refine Vc.QuoH.i64 (by omega) ?_ | refine Vc.RemH.pos (by omega) ?_ | refine Vc.CondH.bnot ?_ | refine Vc.CondH.lit_t ?_ | refine Vc.CondH.lit_f ?_ | refine Vc.SplitH.lit_t ?_ | refine Vc.SplitH.lit_f ?_ | refine Vc.CondH.pos (by first | (rw [decide_eq_true_eq]; omega) | (rw [beq_iff_eq]; omega) | (rw [bne_iff_ne]; omega)) ?_ | refine Vc.CondH.neg (by first | (rw [decide_eq_false_iff_not]; omega) | (rw [beq_eq_false_iff_ne]; omega) | (rw [bne_eq_false_iff_eq]; omega)) ?_); (conv => whnf)))))
  refine LoopH.intro (fun (s : Nat × Option Addr × Nat) => [(8, .int .i64 s.1)]) (fun s H' => s.1 ≤ n2 ∧ WtI H H' base g a (l ++ (ss.take s.1).flatMap encT) s.2.1 s.2.2) (fun s => n2 - s.1) (0, a, cap) ⟨rfl, trivial⟩ ⟨Nat.zero_le _, by rw [List.take_zero, List.flatMap_nil, List.append_nil]; exact ⟨h, Fresh.refl _ _, Only.refl _ _⟩⟩ ?_
  rintro ⟨i, a1, cap1⟩ H1 ⟨hi, hI⟩
  dsimp only at hi hI ⊢
  by_cases hin : i < n2
  · obtain ⟨s, hss⟩ : ∃ s, ss[i]? = some s := ⟨ss[i], List.getElem?_eq_getElem (by omega)⟩
    have hr1 : Row H1 a2 (ss.map fun (s : List UInt8) => Value.string ⟨s.toArray⟩) := hr.keep hI.only hap
    have hsz : ∀ (us : List (List UInt8)) (j : Nat), (((us.take j).flatMap encT).length + ((us.drop j).map List.length).sum) ≤ 10 * j + (us.map List.length).sum ∨ ¬ (∀ u ∈ us, u.length < 128 ^ 10) := by
      intro us
      induction us with
      | nil => intro j; left; simp
      | cons u us ih =>
        intro j
        cases j with
        | zero => left; simp
        | succ j =>
          rcases ih j with h | h
          · by_cases hu : u.length < 128 ^ 10
            · left
              have := encN_len 9 u.length hu
              simp only [List.take_succ_cons, List.flatMap_cons, List.length_append, List.drop_succ_cons, List.map_cons, List.sum_cons, encT]
              omega
            · right; intro h; exact hu (h u (by simp))
          · right; intro h'; exact h fun x hx => h' x (by simp [hx])
    have hsml : ∀ (us : List (List UInt8)), ∀ u ∈ us, u.length ≤ (us.map List.length).sum := by
      intro us
      induction us with
      | nil => intro u hu; cases hu
      | cons x us ih =>
        intro u hu
        simp only [List.map_cons, List.sum_cons]
        rcases List.mem_cons.1 hu with rfl | hu
        · omega
        · have := ih u hu; omega
    have hmem : s ∈ ss := List.mem_of_getElem? hss
    have hsl := hsml ss s hmem
    have hpre : (l ++ (ss.take i).flatMap encT).length + s.length + 10 ≤ 70368744177664 := by
      have h1 := (hsz ss i).resolve_right (fun hno => hno fun u hu => by have := hsml ss u hu; omega)
      have h2 : s.length ≤ ((ss.drop i).map List.length).sum := hsml _ s (by
        refine List.mem_of_getElem? (i := 0) ?_
        rw [List.getElem?_drop, Nat.add_zero]; exact hss)
      rw [List.length_append]
      omega
    generalize hL : l ++ (ss.take i).flatMap encT = L at hI hpre
    have hnext : l ++ (ss.take (i + 1)).flatMap encT = L ++ encT s := by
      rw [List.take_add_one, hss, ← hL]; simp
    have hsz8 : ((⟨s.toArray⟩ : ByteArray).size) = s.length := rfl
    ((conv => whnf); repeat (any_goals (first | ((refine SplitH.pos (by rw [decide_eq_true_eq]; omega) ?_); (conv => whnf)) | ((refine IdxA.row (size := 1) hr1 (by rw [List.length_map, Nat.mul_one]; exact hn) (by decide) i rfl hin ?_; intro b o _ _ hc; have hcl := hc 0 (.string ⟨s.toArray⟩) (by rw [Nat.mul_one, Nat.add_zero, List.getElem?_map, hss]; rfl)); (conv => whnf)) | (((with_reducible apply SemH.load); (focus (rfl)); (focus (exact hcl))); (conv => whnf)) | ((rw [hsz8]; refine ArithH.u64 (by omega) ?_); (conv => whnf)) | ((with_reducible first | refine Vc.SeqH.go ?_ | refine Vc.StillsH.nil ?_ | refine Vc.CallX.of ?_ | refine Vc.NextX.of ?_ | refine Vc.DrawH.text mixed (by decide +kernel) ?_ | refine Vc.ArithH.i64 (by omega) ?_ | refine Vc.ArithH.u8 (by omega) ?_ | refine Vc.ArithH.u64 (by omega) ?_ | refine Vc.ArithH.u32 (by omega) ?_ | refine Vc.NeedH.mk ⟨by omega, ?_⟩ | refine Vc.QuoH.i64 (by omega) ?_ | refine Vc.RemH.pos (by omega) ?_ | refine Vc.CondH.bnot ?_ | refine Vc.CondH.lit_t ?_ | refine Vc.CondH.lit_f ?_ | refine Vc.SplitH.lit_t ?_ | refine Vc.SplitH.lit_f ?_ | refine Vc.CondH.pos (by first | (rw [decide_eq_true_eq]; omega) | (rw [beq_iff_eq]; omega) | (rw [bne_iff_ne]; omega)) ?_ | refine Vc.CondH.neg (by first | (rw [decide_eq_false_iff_not]; omega) | (rw [beq_eq_false_iff_ne]; omega) | (rw [bne_eq_false_iff_eq]; omega)) ?_); (conv => whnf)))))
    refine SemH.lit (vs := [_]) rfl rfl rfl rfl rfl rfl rfl ?_
    intro H3 hs3 hb3 hx3
    replace hb3 : Blk H3 H1.size ([s.length].map fun (n : Nat) => Value.int .u64 (n : Int)).toArray 54 := hb3
    have hw3 := hI.w.ext hx3
    have hsz1 := hI.only.size
    have hnum := wnum_any (n2 := 1) (ns := [s.length]) (cap2 := 1) hw3 hb3.row rfl (fun n hn => by simp at hn; omega) (by omega) (by omega) (fun p hp hq => by
      cases hp
      rcases hq with hq | ⟨p, hp, hq⟩
      · have := hI.w.blk.lt; dsimp only at hq; omega
      · have := hI.w.own.block p hp; dsimp only at hq; omega)
    ((conv => whnf); repeat (any_goals (first | ((refine hnum.mono ?_; rintro _ H4 ⟨a4, cap4, hI4⟩); (conv => whnf)) | ((with_reducible first | refine Vc.SeqH.go ?_ | refine Vc.StillsH.nil ?_ | refine Vc.CallX.of ?_ | refine Vc.NextX.of ?_ | refine Vc.DrawH.text mixed (by decide +kernel) ?_ | refine Vc.ArithH.i64 (by omega) ?_ | refine Vc.ArithH.u8 (by omega) ?_ | refine Vc.ArithH.u64 (by omega) ?_ | refine Vc.ArithH.u32 (by omega) ?_ | refine Vc.NeedH.mk ⟨by omega, ?_⟩ | refine Vc.QuoH.i64 (by omega) ?_ | refine Vc.RemH.pos (by omega) ?_ | refine Vc.CondH.bnot ?_ | refine Vc.CondH.lit_t ?_ | refine Vc.CondH.lit_f ?_ | refine Vc.SplitH.lit_t ?_ | refine Vc.SplitH.lit_f ?_ | refine Vc.CondH.pos (by first | (rw [decide_eq_true_eq]; omega) | (rw [beq_iff_eq]; omega) | (rw [bne_iff_ne]; omega)) ?_ | refine Vc.CondH.neg (by first | (rw [decide_eq_false_iff_not]; omega) | (rw [beq_eq_false_iff_ne]; omega) | (rw [bne_eq_false_iff_eq]; omega)) ?_); (conv => whnf)))))
    have hb4 := hI4.w.blk
    have hl10 := encN_len 9 s.length (by omega)
    have hl4 : (L ++ [s.length].flatMap encN).length + s.length ≤ 70368744177664 := by
      rw [List.length_append, List.flatMap_cons, List.flatMap_nil, List.append_nil]; omega
    have hs4 := hI4.only.size
    ((conv => whnf); repeat (any_goals (first | (((with_reducible apply SemH.load_at hb4); (focus (rfl)); (focus (rfl))); (conv => whnf)) | ((with_reducible first | refine Vc.SeqH.go ?_ | refine Vc.StillsH.nil ?_ | refine Vc.CallX.of ?_ | refine Vc.NextX.of ?_ | refine Vc.DrawH.text mixed (by decide +kernel) ?_ | refine Vc.ArithH.i64 (by omega) ?_ | refine Vc.ArithH.u8 (by omega) ?_ | refine Vc.ArithH.u64 (by omega) ?_ | refine Vc.ArithH.u32 (by omega) ?_ | refine Vc.NeedH.mk ⟨by omega, ?_⟩ | refine Vc.QuoH.i64 (by omega) ?_ | refine Vc.RemH.pos (by omega) ?_ | refine Vc.CondH.bnot ?_ | refine Vc.CondH.lit_t ?_ | refine Vc.CondH.lit_f ?_ | refine Vc.SplitH.lit_t ?_ | refine Vc.SplitH.lit_f ?_ | refine Vc.CondH.pos (by first | (rw [decide_eq_true_eq]; omega) | (rw [beq_iff_eq]; omega) | (rw [bne_iff_ne]; omega)) ?_ | refine Vc.CondH.neg (by first | (rw [decide_eq_false_iff_not]; omega) | (rw [beq_eq_false_iff_ne]; omega) | (rw [bne_eq_false_iff_eq]; omega)) ?_); (conv => whnf)))))
    refine wt_append rfl ⟨_, rfl, fun _ h => by cases h⟩ hI4.w (Src.str (P := Try.prog) (H := H4) ⟨s.toArray⟩) rfl hl4 (by omega) ?_
    intro a5 cap5 H5 ho5 hb5 hap5 hn5 hx5
    ((conv => whnf); repeat (any_goals (first | ((with_reducible first | refine Vc.SeqH.go ?_ | refine Vc.StillsH.nil ?_ | refine Vc.CallX.of ?_ | refine Vc.NextX.of ?_ | refine Vc.DrawH.text mixed (by decide +kernel) ?_ | refine Vc.ArithH.i64 (by omega) ?_ | refine Vc.ArithH.u8 (by omega) ?_ | refine Vc.ArithH.u64 (by omega) ?_ | refine Vc.ArithH.u32 (by omega) ?_ | refine Vc.NeedH.mk ⟨by omega, ?_⟩ | refine Vc.QuoH.i64 (by omega) ?_ | refine Vc.RemH.pos (by omega) ?_ | refine Vc.CondH.bnot ?_ | refine Vc.CondH.lit_t ?_ | refine Vc.CondH.lit_f ?_ | refine Vc.SplitH.lit_t ?_ | refine Vc.SplitH.lit_f ?_ | refine Vc.CondH.pos (by first | (rw [decide_eq_true_eq]; omega) | (rw [beq_iff_eq]; omega) | (rw [bne_iff_ne]; omega)) ?_ | refine Vc.CondH.neg (by first | (rw [decide_eq_false_iff_not]; omega) | (rw [beq_eq_false_iff_ne]; omega) | (rw [bne_eq_false_iff_eq]; omega)) ?_); (conv => whnf)))))
    refine DoH.store1 (o := 0 + 0) hb5 rfl rfl rfl (by show 0 + 0 < 1; omega) ?_
    intro H6 hs6 hb6 hx6
    ((conv => whnf); repeat (any_goals (first | ((with_reducible first | refine Vc.SeqH.go ?_ | refine Vc.StillsH.nil ?_ | refine Vc.CallX.of ?_ | refine Vc.NextX.of ?_ | refine Vc.DrawH.text mixed (by decide +kernel) ?_ | refine Vc.ArithH.i64 (by omega) ?_ | refine Vc.ArithH.u8 (by omega) ?_ | refine Vc.ArithH.u64 (by omega) ?_ | refine Vc.ArithH.u32 (by omega) ?_ | refine Vc.NeedH.mk ⟨by omega, ?_⟩ | refine Vc.QuoH.i64 (by omega) ?_ | refine Vc.RemH.pos (by omega) ?_ | refine Vc.CondH.bnot ?_ | refine Vc.CondH.lit_t ?_ | refine Vc.CondH.lit_f ?_ | refine Vc.SplitH.lit_t ?_ | refine Vc.SplitH.lit_f ?_ | refine Vc.CondH.pos (by first | (rw [decide_eq_true_eq]; omega) | (rw [beq_iff_eq]; omega) | (rw [bne_iff_ne]; omega)) ?_ | refine Vc.CondH.neg (by first | (rw [decide_eq_false_iff_not]; omega) | (rw [beq_eq_false_iff_ne]; omega) | (rw [bne_eq_false_iff_eq]; omega)) ?_); (conv => whnf)))))
    refine ⟨(i + 1, a5, cap5), ⟨rfl, trivial⟩, ⟨by show i + 1 ≤ n2; omega, ?_⟩, by show n2 - (i + 1) < n2 - i; omega⟩
    have e4 : L ++ [s.length].flatMap encN ++ s = L ++ encT s := by rw [List.flatMap_cons, List.flatMap_nil, List.append_nil, List.append_assoc]; rfl
    rw [hnext, ← e4]
    have hI3 : WtI H H3 base g a L a1 cap1 := hI.step hw3 (Fresh.refl _ _) hx3.only
    exact (hI3.step hI4.w hI4.new hI4.only).step ⟨hb6, ho5.keep hx6 hap5, hap5, hI.w.low⟩ hn5 (hx5.trans hx6 fun x _ e => .inl e)
  · obtain rfl : i = n2 := by omega
    ((conv => whnf); repeat (any_goals (first | ((refine SplitH.neg (by rw [decide_eq_false_iff_not]; omega) ?_); (conv => whnf)) | ((with_reducible first | refine Vc.SeqH.go ?_ | refine Vc.StillsH.nil ?_ | refine Vc.CallX.of ?_ | refine Vc.NextX.of ?_ | refine Vc.DrawH.text mixed (by decide +kernel) ?_ | refine Vc.ArithH.i64 (by omega) ?_ | refine Vc.ArithH.u8 (by omega) ?_ | refine Vc.ArithH.u64 (by omega) ?_ | refine Vc.ArithH.u32 (by omega) ?_ | refine Vc.NeedH.mk ⟨by omega, ?_⟩ | refine Vc.QuoH.i64 (by omega) ?_ | refine Vc.RemH.pos (by omega) ?_ | refine Vc.CondH.bnot ?_ | refine Vc.CondH.lit_t ?_ | refine Vc.CondH.lit_f ?_ | refine Vc.SplitH.lit_t ?_ | refine Vc.SplitH.lit_f ?_ | refine Vc.CondH.pos (by first | (rw [decide_eq_true_eq]; omega) | (rw [beq_iff_eq]; omega) | (rw [bne_iff_ne]; omega)) ?_ | refine Vc.CondH.neg (by first | (rw [decide_eq_false_iff_not]; omega) | (rw [beq_eq_false_iff_ne]; omega) | (rw [bne_eq_false_iff_eq]; omega)) ?_); (conv => whnf)))))
    rw [List.take_of_length_le (by omega)] at hI
    exact ⟨_, _, hI⟩
end Go.Proofs.Ytipebbbgpkplaaa
