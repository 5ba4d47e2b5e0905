import Derived.Test.YtipebbbgpkplaaaRa
set_option linter.unusedVariables false
set_option maxRecDepth 100000
/- Numbers and texts as bytes, written by the reference. -/
namespace Go.Proofs.Ytipebbbgpkplaaa
open Go Go.Vc

/-- bytes of the call's own, grown from the slice a0 -/
structure Grown (H0 H : Heap) (base : Nat) (a0 : Option Addr) (l : List UInt8) (a : Option Addr) (cap : Nat) : Prop where
  own : Own H base 5 1 a l.length cap (strV l)
  new : Fresh H0 a0 a
  only : Wr a0 H0 H
theorem Grown.step {H0 H H' : Heap} {base : Nat} {a0 a a' : Option Addr} {l l' : List UInt8} {cap cap' : Nat} (h : Grown H0 H base a0 l a cap) (ho : Own H' base 5 1 a' l'.length cap' (strV l')) (hn : Fresh H a a') (hw : Wr a H H') : Grown H0 H' base a0 l' a' cap' := by
  refine ⟨ho, fun p hp => ?_, h.only.trans hw fun x hx ⟨p, hp, e⟩ => ?_⟩
  · rcases hn p hp with h1 | h1
    · exact (h.new p (h1 ▸ hp)).imp h1.trans id
    · have := h.only.size; exact .inr (by omega)
  · rcases h.new p hp with h1 | h1
    · exact ⟨p, h1 ▸ hp, e⟩
    · omega
theorem Grown.refl {H : Heap} {base : Nat} {l : List UInt8} {a : Option Addr} {cap : Nat} (h : Own H base 5 1 a l.length cap (strV l)) : Grown H H base a l a cap := ⟨h, Fresh.refl _ _, Only.refl _ _⟩
theorem Grown.ext {H0 H H' : Heap} {base : Nat} {a0 a : Option Addr} {l : List UInt8} {cap : Nat} (h : Grown H0 H base a0 l a cap) (k : Ext H H') : Grown H0 H' base a0 l a cap := ⟨h.own.ext k, h.new, h.only.trans k.only fun _ _ => id⟩
theorem grow_append {H : Heap} {base : Nat} {l l2 : List UInt8} {a : Option Addr} {cap : Nat} {x : Value} {n2 : Nat} {t u : TypeId} (ht : t = 23) (hu : ∃ d, Try.prog.underlying u = some d ∧ (∀ k, d ≠ .int k)) (h : Own H base 5 1 a l.length cap (strV l)) (hsrc : Src Try.prog H x 1 n2 (strV l2)) (hn : l2.length = n2) (hm : l.length + n2 ≤ 70368744177664) (hbase : base ≤ H.size) {ty : TypeId} {cb : Array Bool} {K : Value → Heap → Prop}
    (hk : ∀ a' cap' H', Own H' base 5 1 a' (l ++ l2).length cap' (strV (l ++ l2)) → Fresh H a a' → Wr a H H' → K (.slice a' (l ++ l2).length cap') H') :
    NextH Try.prog (builtin .append #[t, u] ty cb #[.slice a l.length cap, x]) H K := by
  subst ht
  have e : (l ++ l2).length = l.length + n2 := by rw [List.length_append, hn]
  rw [e] at hk
  refine NextH.append (i := Try.t5) (z := .int .u8 0) (base := base) rfl hu rfl rfl rfl h hsrc (by unfold maxLen; omega) (by show (l.length + n2) * 1 ≤ _; omega) hbase ?_
  intro a' cap' H' ho hw hnew
  exact hk a' cap' H' (by rw [strV_append]; exact ho) hnew hw
set_option maxHeartbeats 1000000 in
theorem rnum_any {H : Heap} {base : Nat} {l : List UInt8} {a : Option Addr} {cap q0 : Nat} (h : Own H base 5 1 a l.length cap (strV l)) (hq0 : q0 < 18446744073709551616) (hm : l.length ≤ 1000000000000) (hbase : base ≤ H.size) :
    CallH Try.prog 14 [.slice a l.length cap, .int .u64 q0] H fun v H' => ∃ a' cap', v = .slice a' (l ++ encN q0).length cap' ∧ Grown H H' base a (l ++ encN q0) a' cap' := by
  refine Vc.CallH.body Try.func14 Try.call14 rfl (by decide +kernel) rfl ?_
  have hlen := encN_len 9 q0 (by omega)
  ((conv => whnf); repeat (any_goals (first | ((with_reducible first | refine Vc.SeqH.go ?_ | refine Vc.StillsH.nil ?_ | refine Vc.CallX.of ?_ | refine Vc.NextX.of ?_ | refine Vc.DrawH.text mixed (by decide +kernel) ?_ | refine Vc.ArithH.i64 (by omega) ?_ | refine Vc.ArithH.u8 (by omega) ?_ | refine Vc.ArithH.u64 (by omega) ?_ | refine Vc.ArithH.u32 (by omega) ?_ | refine Vc.NeedH.mk ⟨by omega, ?_⟩ | refine Vc.QuoH.i64 (by omega) ?_ | refine Vc.RemH.pos (by omega) ?_ | refine Vc.CondH.bnot ?_ | refine Vc.CondH.lit_t ?_ | refine Vc.CondH.lit_f ?_ | refine Vc.SplitH.lit_t ?_ | refine Vc.SplitH.lit_f ?_ | refine Vc.CondH.pos (by first | (rw [decide_eq_true_eq]; omega) | (rw [beq_iff_eq]; omega) | (rw [bne_iff_ne]; omega)) ?_ | refine Vc.CondH.neg (by first | (rw [decide_eq_false_iff_not]; omega) | (rw [beq_eq_false_iff_ne]; omega) | (rw [bne_eq_false_iff_eq]; omega)) ?_); (conv => whnf)))))
  refine LoopH.intro (fun (s : Nat × List UInt8 × Option Addr × Nat) => [(0, .slice s.2.2.1 (l ++ s.2.1).length s.2.2.2), (1, .int .u64 (s.1 : Int))]) (fun s H' => s.1 < 18446744073709551616 ∧ s.2.1 ++ encN s.1 = encN q0 ∧ Grown H H' base a (l ++ s.2.1) s.2.2.1 s.2.2.2) (fun s => s.1) (q0, [], a, cap) ⟨by rw [List.append_nil]; rfl, rfl, trivial⟩ ⟨hq0, rfl, by rw [List.append_nil]; exact Grown.refl h⟩ ?_
  rintro ⟨q, D, a2, cap2⟩ H2 ⟨hq, hD, hJ⟩
  dsimp only at hq hD hJ ⊢
  have hbs : base ≤ H2.size := by have := hJ.only.size; omega
  have hDl : D.length + (encN q).length = (encN q0).length := by rw [← hD, List.length_append]
  have hll : (l ++ D).length + 1 ≤ 70368744177664 := by rw [List.length_append]; omega
  by_cases h128 : q < 128
  · have hq8 : ((q : Int) % 256) = ((UInt8.ofNat q).toNat : Int) := by rw [byte_nat (by omega)]; omega
    ((conv => whnf); repeat (any_goals (first | ((refine SplitH.neg (by rw [decide_eq_false_iff_not]; omega) ?_); (conv => whnf)) | ((refine CondH.neg (by rw [decide_eq_false_iff_not]; omega) ?_); (conv => whnf)) | ((refine ArithH.u8m ?_; rw [hq8]); (conv => whnf)) | ((with_reducible first | refine Vc.SeqH.go ?_ | refine Vc.StillsH.nil ?_ | refine Vc.CallX.of ?_ | refine Vc.NextX.of ?_ | refine Vc.DrawH.text mixed (by decide +kernel) ?_ | refine Vc.ArithH.i64 (by omega) ?_ | refine Vc.ArithH.u8 (by omega) ?_ | refine Vc.ArithH.u64 (by omega) ?_ | refine Vc.ArithH.u32 (by omega) ?_ | refine Vc.NeedH.mk ⟨by omega, ?_⟩ | refine Vc.QuoH.i64 (by omega) ?_ | refine Vc.RemH.pos (by omega) ?_ | refine Vc.CondH.bnot ?_ | refine Vc.CondH.lit_t ?_ | refine Vc.CondH.lit_f ?_ | refine Vc.SplitH.lit_t ?_ | refine Vc.SplitH.lit_f ?_ | refine Vc.CondH.pos (by first | (rw [decide_eq_true_eq]; omega) | (rw [beq_iff_eq]; omega) | (rw [bne_iff_ne]; omega)) ?_ | refine Vc.CondH.neg (by first | (rw [decide_eq_false_iff_not]; omega) | (rw [beq_eq_false_iff_ne]; omega) | (rw [bne_eq_false_iff_eq]; omega)) ?_); (conv => whnf)))))
    refine SemH.lit (vs := [_]) rfl rfl rfl rfl rfl rfl rfl ?_
    intro H3 hs3 hb3 hx3
    replace hb3 : Blk H3 H2.size (strV [UInt8.ofNat q]).toArray 5 := hb3
    ((conv => whnf); repeat (any_goals (first | ((with_reducible first | refine Vc.SeqH.go ?_ | refine Vc.StillsH.nil ?_ | refine Vc.CallX.of ?_ | refine Vc.NextX.of ?_ | refine Vc.DrawH.text mixed (by decide +kernel) ?_ | refine Vc.ArithH.i64 (by omega) ?_ | refine Vc.ArithH.u8 (by omega) ?_ | refine Vc.ArithH.u64 (by omega) ?_ | refine Vc.ArithH.u32 (by omega) ?_ | refine Vc.NeedH.mk ⟨by omega, ?_⟩ | refine Vc.QuoH.i64 (by omega) ?_ | refine Vc.RemH.pos (by omega) ?_ | refine Vc.CondH.bnot ?_ | refine Vc.CondH.lit_t ?_ | refine Vc.CondH.lit_f ?_ | refine Vc.SplitH.lit_t ?_ | refine Vc.SplitH.lit_f ?_ | refine Vc.CondH.pos (by first | (rw [decide_eq_true_eq]; omega) | (rw [beq_iff_eq]; omega) | (rw [bne_iff_ne]; omega)) ?_ | refine Vc.CondH.neg (by first | (rw [decide_eq_false_iff_not]; omega) | (rw [beq_eq_false_iff_ne]; omega) | (rw [bne_eq_false_iff_eq]; omega)) ?_); (conv => whnf)))))
    have hJ3 := hJ.ext hx3
    refine grow_append rfl ⟨_, rfl, fun _ h => by cases h⟩ hJ3.own (Src.row (c := 1) hb3.row rfl (strV_plain _)) rfl hll (by omega) ?_
    intro a4 cap4 H4 ho4 hn4 hx4
    ((conv => whnf); repeat (any_goals (first | ((with_reducible first | refine Vc.SeqH.go ?_ | refine Vc.StillsH.nil ?_ | refine Vc.CallX.of ?_ | refine Vc.NextX.of ?_ | refine Vc.DrawH.text mixed (by decide +kernel) ?_ | refine Vc.ArithH.i64 (by omega) ?_ | refine Vc.ArithH.u8 (by omega) ?_ | refine Vc.ArithH.u64 (by omega) ?_ | refine Vc.ArithH.u32 (by omega) ?_ | refine Vc.NeedH.mk ⟨by omega, ?_⟩ | refine Vc.QuoH.i64 (by omega) ?_ | refine Vc.RemH.pos (by omega) ?_ | refine Vc.CondH.bnot ?_ | refine Vc.CondH.lit_t ?_ | refine Vc.CondH.lit_f ?_ | refine Vc.SplitH.lit_t ?_ | refine Vc.SplitH.lit_f ?_ | refine Vc.CondH.pos (by first | (rw [decide_eq_true_eq]; omega) | (rw [beq_iff_eq]; omega) | (rw [bne_iff_ne]; omega)) ?_ | refine Vc.CondH.neg (by first | (rw [decide_eq_false_iff_not]; omega) | (rw [beq_eq_false_iff_ne]; omega) | (rw [bne_eq_false_iff_eq]; omega)) ?_); (conv => whnf)))))
    have hE : l ++ D ++ [UInt8.ofNat q] = l ++ encN q0 := by rw [← hD, encN_lt h128, List.append_assoc]
    rw [hE] at ho4 ⊢
    exact ⟨a4, cap4, rfl, hJ3.step ho4 hn4 hx4⟩
  · have hq8 : ((q % 128 + 128 : Nat) : Int) = ((UInt8.ofNat (q % 128 + 128)).toNat : Int) := by rw [byte_nat (by omega)]
    ((conv => whnf); repeat (any_goals (first | ((refine SplitH.pos (by rw [decide_eq_true_eq]; omega) ?_); (conv => whnf)) | ((refine CondH.pos (by rw [decide_eq_true_eq]; omega) ?_); (conv => whnf)) | ((refine ArithH.u8m ?_); (conv => whnf)) | ((with_reducible first | refine Vc.SeqH.go ?_ | refine Vc.StillsH.nil ?_ | refine Vc.CallX.of ?_ | refine Vc.NextX.of ?_ | refine Vc.DrawH.text mixed (by decide +kernel) ?_ | refine Vc.ArithH.i64 (by omega) ?_ | refine Vc.ArithH.u8 (by omega) ?_ | refine Vc.ArithH.u64 (by omega) ?_ | refine Vc.ArithH.u32 (by omega) ?_ | refine Vc.NeedH.mk ⟨by omega, ?_⟩ | refine Vc.QuoH.i64 (by omega) ?_ | refine Vc.RemH.pos (by omega) ?_ | refine Vc.CondH.bnot ?_ | refine Vc.CondH.lit_t ?_ | refine Vc.CondH.lit_f ?_ | refine Vc.SplitH.lit_t ?_ | refine Vc.SplitH.lit_f ?_ | refine Vc.CondH.pos (by first | (rw [decide_eq_true_eq]; omega) | (rw [beq_iff_eq]; omega) | (rw [bne_iff_ne]; omega)) ?_ | refine Vc.CondH.neg (by first | (rw [decide_eq_false_iff_not]; omega) | (rw [beq_eq_false_iff_ne]; omega) | (rw [bne_eq_false_iff_eq]; omega)) ?_); (conv => whnf)))))
    rw [or128, hq8]
    refine SemH.lit (vs := [_]) rfl rfl rfl rfl rfl rfl rfl ?_
    intro H3 hs3 hb3 hx3
    replace hb3 : Blk H3 H2.size (strV [UInt8.ofNat (q % 128 + 128)]).toArray 5 := hb3
    ((conv => whnf); repeat (any_goals (first | ((with_reducible first | refine Vc.SeqH.go ?_ | refine Vc.StillsH.nil ?_ | refine Vc.CallX.of ?_ | refine Vc.NextX.of ?_ | refine Vc.DrawH.text mixed (by decide +kernel) ?_ | refine Vc.ArithH.i64 (by omega) ?_ | refine Vc.ArithH.u8 (by omega) ?_ | refine Vc.ArithH.u64 (by omega) ?_ | refine Vc.ArithH.u32 (by omega) ?_ | refine Vc.NeedH.mk ⟨by omega, ?_⟩ | refine Vc.QuoH.i64 (by omega) ?_ | refine Vc.RemH.pos (by omega) ?_ | refine Vc.CondH.bnot ?_ | refine Vc.CondH.lit_t ?_ | refine Vc.CondH.lit_f ?_ | refine Vc.SplitH.lit_t ?_ | refine Vc.SplitH.lit_f ?_ | refine Vc.CondH.pos (by first | (rw [decide_eq_true_eq]; omega) | (rw [beq_iff_eq]; omega) | (rw [bne_iff_ne]; omega)) ?_ | refine Vc.CondH.neg (by first | (rw [decide_eq_false_iff_not]; omega) | (rw [beq_eq_false_iff_ne]; omega) | (rw [bne_eq_false_iff_eq]; omega)) ?_); (conv => whnf)))))
    have hJ3 := hJ.ext hx3
    refine grow_append rfl ⟨_, rfl, fun _ h => by cases h⟩ hJ3.own (Src.row (c := 1) hb3.row rfl (strV_plain _)) rfl hll (by omega) ?_
    intro a4 cap4 H4 ho4 hn4 hx4
    ((conv => whnf); repeat (any_goals (first | ((with_reducible first | refine Vc.SeqH.go ?_ | refine Vc.StillsH.nil ?_ | refine Vc.CallX.of ?_ | refine Vc.NextX.of ?_ | refine Vc.DrawH.text mixed (by decide +kernel) ?_ | refine Vc.ArithH.i64 (by omega) ?_ | refine Vc.ArithH.u8 (by omega) ?_ | refine Vc.ArithH.u64 (by omega) ?_ | refine Vc.ArithH.u32 (by omega) ?_ | refine Vc.NeedH.mk ⟨by omega, ?_⟩ | refine Vc.QuoH.i64 (by omega) ?_ | refine Vc.RemH.pos (by omega) ?_ | refine Vc.CondH.bnot ?_ | refine Vc.CondH.lit_t ?_ | refine Vc.CondH.lit_f ?_ | refine Vc.SplitH.lit_t ?_ | refine Vc.SplitH.lit_f ?_ | refine Vc.CondH.pos (by first | (rw [decide_eq_true_eq]; omega) | (rw [beq_iff_eq]; omega) | (rw [bne_iff_ne]; omega)) ?_ | refine Vc.CondH.neg (by first | (rw [decide_eq_false_iff_not]; omega) | (rw [beq_eq_false_iff_ne]; omega) | (rw [bne_eq_false_iff_eq]; omega)) ?_); (conv => whnf)))))
    have eA : l ++ (D ++ [UInt8.ofNat (q % 128 + 128)]) = l ++ D ++ [UInt8.ofNat (q % 128 + 128)] := (List.append_assoc _ _ _).symm
    refine ⟨(q / 128, D ++ [UInt8.ofNat (q % 128 + 128)], a4, cap4), ⟨by show Value.slice a4 (l ++ D ++ [UInt8.ofNat (q % 128 + 128)]).length cap4 = Value.slice a4 (l ++ (D ++ [UInt8.ofNat (q % 128 + 128)])).length cap4; rw [eA], by show Value.int .u64 (shrB .u64 q 7) = Value.int .u64 ((q / 128 : Nat) : Int); rw [shr7], trivial⟩, ⟨by show q / 128 < _; omega, ?_, ?_⟩, by show q / 128 < q; omega⟩
    · show (D ++ [_]) ++ encN (q / 128) = _
      rw [← hD, encN_ge h128]; simp
    · show Grown H H4 base a (l ++ (D ++ [UInt8.ofNat (q % 128 + 128)])) a4 cap4
      rw [eA]
      exact hJ3.step ho4 hn4 hx4
theorem rtext_any {H : Heap} {base : Nat} {l s : List UInt8} {a : Option Addr} {cap : Nat} (h : Own H base 5 1 a l.length cap (strV l)) (hs : s.length ≤ 1000000000) (hm : l.length ≤ 1000000000000) (hbase : base ≤ H.size) :
    CallH Try.prog 15 [.slice a l.length cap, .string ⟨s.toArray⟩] H fun v H' => ∃ a' cap', v = .slice a' (l ++ encT s).length cap' ∧ Grown H H' base a (l ++ encT s) a' cap' := by
  refine Vc.CallH.body Try.func15 Try.call15 rfl (by decide +kernel) rfl ?_
  have hsz8 : ((⟨s.toArray⟩ : ByteArray).size) = s.length := rfl
  have hnum := rnum_any h (q0 := s.length) (by omega) hm hbase
  have hlen := encN_len 9 s.length (by omega)
  ((conv => whnf); repeat (any_goals (first | ((rw [hsz8]; refine ArithH.u64 (by omega) ?_); (conv => whnf)) | ((refine hnum.mono ?_; rintro _ H1 ⟨a1, cap1, rfl, hg1⟩); (conv => whnf)) | ((with_reducible first | refine Vc.SeqH.go ?_ | refine Vc.StillsH.nil ?_ | refine Vc.CallX.of ?_ | refine Vc.NextX.of ?_ | refine Vc.DrawH.text mixed (by decide +kernel) ?_ | refine Vc.ArithH.i64 (by omega) ?_ | refine Vc.ArithH.u8 (by omega) ?_ | refine Vc.ArithH.u64 (by omega) ?_ | refine Vc.ArithH.u32 (by omega) ?_ | refine Vc.NeedH.mk ⟨by omega, ?_⟩ | refine Vc.QuoH.i64 (by omega) ?_ | refine Vc.RemH.pos (by omega) ?_ | refine Vc.CondH.bnot ?_ | refine Vc.CondH.lit_t ?_ | refine Vc.CondH.lit_f ?_ | refine Vc.SplitH.lit_t ?_ | refine Vc.SplitH.lit_f ?_ | refine Vc.CondH.pos (by first | (rw [decide_eq_true_eq]; omega) | (rw [beq_iff_eq]; omega) | (rw [bne_iff_ne]; omega)) ?_ | refine Vc.CondH.neg (by first | (rw [decide_eq_false_iff_not]; omega) | (rw [beq_eq_false_iff_ne]; omega) | (rw [bne_eq_false_iff_eq]; omega)) ?_); (conv => whnf)))))
  have hz := hg1.only.size
  refine grow_append rfl ⟨_, rfl, fun _ h => by cases h⟩ hg1.own (Src.str (P := Try.prog) (H := H1) ⟨s.toArray⟩) rfl (by rw [List.length_append]; show _ + s.length ≤ _; omega) (by omega) ?_
  intro a2 cap2 H2 ho2 hn2 hx2
  ((conv => whnf); repeat (any_goals (first | ((with_reducible first | refine Vc.SeqH.go ?_ | refine Vc.StillsH.nil ?_ | refine Vc.CallX.of ?_ | refine Vc.NextX.of ?_ | refine Vc.DrawH.text mixed (by decide +kernel) ?_ | refine Vc.ArithH.i64 (by omega) ?_ | refine Vc.ArithH.u8 (by omega) ?_ | refine Vc.ArithH.u64 (by omega) ?_ | refine Vc.ArithH.u32 (by omega) ?_ | refine Vc.NeedH.mk ⟨by omega, ?_⟩ | refine Vc.QuoH.i64 (by omega) ?_ | refine Vc.RemH.pos (by omega) ?_ | refine Vc.CondH.bnot ?_ | refine Vc.CondH.lit_t ?_ | refine Vc.CondH.lit_f ?_ | refine Vc.SplitH.lit_t ?_ | refine Vc.SplitH.lit_f ?_ | refine Vc.CondH.pos (by first | (rw [decide_eq_true_eq]; omega) | (rw [beq_iff_eq]; omega) | (rw [bne_iff_ne]; omega)) ?_ | refine Vc.CondH.neg (by first | (rw [decide_eq_false_iff_not]; omega) | (rw [beq_eq_false_iff_ne]; omega) | (rw [bne_eq_false_iff_eq]; omega)) ?_); (conv => whnf)))))
  have hE : l ++ encN s.length ++ s = l ++ encT s := by unfold encT; rw [List.append_assoc]
  have hE2 : l ++ encN s.length ++ (⟨s.toArray⟩ : ByteArray).data.toList = l ++ encT s := hE
  rw [hE2] at ho2 ⊢
  exact ⟨a2, cap2, rfl, hg1.step ho2 hn2 hx2⟩
end Go.Proofs.Ytipebbbgpkplaaa
