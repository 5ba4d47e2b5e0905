import Derived.Test.YtipebbbgpkplaaaCe
import Derived.Test.YtipebbbgpkplaaaFa
set_option linter.unusedVariables false
set_option maxRecDepth 100000
/- A reader's numbers and texts, asked for from outside. -/
namespace Go.Proofs.Ytipebbbgpkplaaa
open Go Go.Vc

/-- a reader: what is left, or none when it has failed -/
def RdO (H : Heap) (g rb : Nat) : Option (List UInt8) → Prop
  | some l => ∃ a cap, Rd H g rb l false a cap
  | none => ∃ t a cap, Rd H g rb t true a cap
theorem RdO.ext {H H' : Heap} {g rb : Nat} : ∀ {o : Option (List UInt8)}, RdO H g rb o → Ext H H' → RdO H' g rb o
  | some _, ⟨a, cap, h⟩, k => ⟨a, cap, h.ext k⟩
  | none, ⟨t, a, cap, h⟩, k => ⟨t, a, cap, h.ext k⟩
theorem RdO.keep {H H' : Heap} {F : Nat → Prop} {g rb : Nat} : ∀ {o : Option (List UInt8)}, RdO H g rb o → Only F H H' → ¬ F g → ¬ F rb → RdO H' g rb o
  | some _, ⟨a, cap, h⟩, k, hg, hb => ⟨a, cap, h.keep k hg fun p hp e => hb ((h.inb p hp) ▸ e)⟩
  | none, ⟨t, a, cap, h⟩, k, hg, hb => ⟨t, a, cap, h.keep k hg fun p hp e => hb ((h.inb p hp) ▸ e)⟩
theorem RdO.rd {H : Heap} {g rb : Nat} : ∀ {o : Option (List UInt8)}, RdO H g rb o → ∃ l a cap, Rd H g rb l o.isNone a cap ∧ ∀ t, o = some t → l = t
  | some l, ⟨a, cap, h⟩ => ⟨l, a, cap, h, fun t e => by cases e; rfl⟩
  | none, ⟨t, a, cap, h⟩ => ⟨t, a, cap, h, fun t e => by cases e⟩
def numP : Option (List UInt8) → Int × Option (List UInt8)
  | none => (0, none)
  | some l => match numF 10 0 0 l with | none => (0, none) | some (n, t) => (n, some t)
def textP : Option (List UInt8) → List UInt8 × Option (List UInt8)
  | none => ([], none)
  | some l => match textF l with | none => ([], none) | some (n, t) => (n, some t)

set_option maxHeartbeats 2000000 in
theorem numo_any (g rb : Nat) (o : Option (List UInt8)) (H : Heap) (hr : RdO H g rb o) (hrb : rb < H.size) : CallH Try.prog 32 [.pointer (some ⟨g, 0, none⟩)] H fun v H' => v = .int .u64 (numP o).1 ∧ RdO H' g rb (numP o).2 ∧ But g H H' := by
  obtain ⟨l, a, cap, hrd, hl⟩ := hr.rd
  have hg := hrd.blk.lt
  refine Vc.CallH.body Try.func32 Try.call32 rfl (by decide +kernel) rfl ?_
  ((conv => whnf); repeat (any_goals (first | ((with_reducible first | refine Vc.SeqH.go ?_ | refine Vc.StillsH.nil ?_ | refine Vc.CallX.of ?_ | refine Vc.NextX.of ?_ | refine Vc.DrawH.text mixed (by decide +kernel) ?_ | refine Vc.ArithH.i64 (by omega) ?_ | refine Vc.ArithH.u8 (by omega) ?_ | refine Vc.ArithH.u64 (by omega) ?_ | refine Vc.ArithH.u32 (by omega) ?_ | refine Vc.NeedH.mk ⟨by omega, ?_⟩ | refine Vc.QuoH.i64 (by omega) ?_ | refine Vc.RemH.pos (by omega) ?_ | refine Vc.CondH.bnot ?_ | refine Vc.CondH.lit_t ?_ | refine Vc.CondH.lit_f ?_ | refine Vc.SplitH.lit_t ?_ | refine Vc.SplitH.lit_f ?_ | refine Vc.CondH.pos (by first | (rw [decide_eq_true_eq]; omega) | (rw [beq_iff_eq]; omega) | (rw [bne_iff_ne]; omega)) ?_ | refine Vc.CondH.neg (by first | (rw [decide_eq_false_iff_not]; omega) | (rw [beq_eq_false_iff_ne]; omega) | (rw [bne_eq_false_iff_eq]; omega)) ?_); (conv => whnf)))))
  refine SemH.box ?_
  intro H1 hs1 hb1 hx1
  ((conv => whnf); repeat (any_goals (first | ((with_reducible first | refine Vc.SeqH.go ?_ | refine Vc.StillsH.nil ?_ | refine Vc.CallX.of ?_ | refine Vc.NextX.of ?_ | refine Vc.DrawH.text mixed (by decide +kernel) ?_ | refine Vc.ArithH.i64 (by omega) ?_ | refine Vc.ArithH.u8 (by omega) ?_ | refine Vc.ArithH.u64 (by omega) ?_ | refine Vc.ArithH.u32 (by omega) ?_ | refine Vc.NeedH.mk ⟨by omega, ?_⟩ | refine Vc.QuoH.i64 (by omega) ?_ | refine Vc.RemH.pos (by omega) ?_ | refine Vc.CondH.bnot ?_ | refine Vc.CondH.lit_t ?_ | refine Vc.CondH.lit_f ?_ | refine Vc.SplitH.lit_t ?_ | refine Vc.SplitH.lit_f ?_ | refine Vc.CondH.pos (by first | (rw [decide_eq_true_eq]; omega) | (rw [beq_iff_eq]; omega) | (rw [bne_iff_ne]; omega)) ?_ | refine Vc.CondH.neg (by first | (rw [decide_eq_false_iff_not]; omega) | (rw [beq_eq_false_iff_ne]; omega) | (rw [bne_eq_false_iff_eq]; omega)) ?_); (conv => whnf)))))
  refine SemH.alloc rfl rfl ?_
  intro H2 hs2 hb2 hx2
  rw [hs1] at hb2 ⊢
  have hb12 := hb1.ext hx2
  have hx12 := hx1.trans hx2
  have hsz : H2.size = H.size + 2 := by omega
  have hr2 := hrd.ext hx12
  have hF : ∀ x, x = g ∨ x = H.size + 1 → x < H2.size := fun x hx => by omega
  have htry := try_any (F := fun x => x = g ∨ x = H.size + 1) (f := 51) (c0 := .pointer (some ⟨H.size, 0, none⟩)) (c1 := .pointer (some ⟨H.size + 1, 0, none⟩))
    (Q1 := fun H' => ∃ n t a cap, numF 10 0 0 l = some (n, t) ∧ Blk H' (H.size + 1) #[.int .u64 n] 54 ∧ Rd H' g rb t false a cap) (X1 := fun H' => numF 10 0 0 l = none) hr2 (by omega) hF
    fun hfl H0 hx0 => by
      have := num1_any g rb H.size (H.size + 1) l a cap H0 (.int .u64 0) ⟨hb12.ext hx0, by omega, by omega, by omega, by omega⟩ (hb2.ext hx0) (by have := hr2.ext hx0; rw [hfl] at this; exact this)
      exact this.mono (fun v H' ⟨n, t, a, cap, h1, h2, h3, h4⟩ => ⟨⟨n, t, a, cap, h1, h2, h3⟩, h4⟩) (fun c H' ⟨h1, h2, h3, h4⟩ => ⟨h1, h2, h3, h4⟩)
  ((conv => whnf); repeat (any_goals (first | (((with_reducible apply SemH.load_at hb12); (focus (rfl)); (focus (rfl))); (conv => whnf)) | ((refine SemH.func ?_); (conv => whnf)) | ((refine htry.mono ?_); (conv => whnf)) | ((with_reducible first | refine Vc.SeqH.go ?_ | refine Vc.StillsH.nil ?_ | refine Vc.CallX.of ?_ | refine Vc.NextX.of ?_ | refine Vc.DrawH.text mixed (by decide +kernel) ?_ | refine Vc.ArithH.i64 (by omega) ?_ | refine Vc.ArithH.u8 (by omega) ?_ | refine Vc.ArithH.u64 (by omega) ?_ | refine Vc.ArithH.u32 (by omega) ?_ | refine Vc.NeedH.mk ⟨by omega, ?_⟩ | refine Vc.QuoH.i64 (by omega) ?_ | refine Vc.RemH.pos (by omega) ?_ | refine Vc.CondH.bnot ?_ | refine Vc.CondH.lit_t ?_ | refine Vc.CondH.lit_f ?_ | refine Vc.SplitH.lit_t ?_ | refine Vc.SplitH.lit_f ?_ | refine Vc.CondH.pos (by first | (rw [decide_eq_true_eq]; omega) | (rw [beq_iff_eq]; omega) | (rw [bne_iff_ne]; omega)) ?_ | refine Vc.CondH.neg (by first | (rw [decide_eq_false_iff_not]; omega) | (rw [beq_eq_false_iff_ne]; omega) | (rw [bne_eq_false_iff_eq]; omega)) ?_); (conv => whnf)))))
  rintro _ H3 (⟨hfl, rfl, hx3⟩ | ⟨hfl, rfl, ⟨H5, ⟨n, t, a5, cap5, hn, h5, hr5⟩, hsz5, hx5⟩, hx3⟩ | ⟨hfl, rfl, ⟨t, a3, cap3, hr3⟩, ⟨H5, hn, hsz5, hx5⟩, hx3⟩)
  · ((conv => whnf); repeat (any_goals (first | ((with_reducible first | refine Vc.SeqH.go ?_ | refine Vc.StillsH.nil ?_ | refine Vc.CallX.of ?_ | refine Vc.NextX.of ?_ | refine Vc.DrawH.text mixed (by decide +kernel) ?_ | refine Vc.ArithH.i64 (by omega) ?_ | refine Vc.ArithH.u8 (by omega) ?_ | refine Vc.ArithH.u64 (by omega) ?_ | refine Vc.ArithH.u32 (by omega) ?_ | refine Vc.NeedH.mk ⟨by omega, ?_⟩ | refine Vc.QuoH.i64 (by omega) ?_ | refine Vc.RemH.pos (by omega) ?_ | refine Vc.CondH.bnot ?_ | refine Vc.CondH.lit_t ?_ | refine Vc.CondH.lit_f ?_ | refine Vc.SplitH.lit_t ?_ | refine Vc.SplitH.lit_f ?_ | refine Vc.CondH.pos (by first | (rw [decide_eq_true_eq]; omega) | (rw [beq_iff_eq]; omega) | (rw [bne_iff_ne]; omega)) ?_ | refine Vc.CondH.neg (by first | (rw [decide_eq_false_iff_not]; omega) | (rw [beq_eq_false_iff_ne]; omega) | (rw [bne_eq_false_iff_eq]; omega)) ?_); (conv => whnf)))))
    have ho : o = none := by cases o with | none => rfl | some _ => cases hfl
    subst ho
    exact ⟨rfl, hr.ext (hx12.trans hx3), (hx12.trans hx3).only⟩
  · obtain ⟨l', ho⟩ : ∃ l', o = some l' := by cases o with | none => cases hfl | some l' => exact ⟨l', rfl⟩
    subst ho
    obtain rfl := hl _ rfl
    have hb3 := h5.keep hx5 fun h => by omega
    ((conv => whnf); repeat (any_goals (first | (((with_reducible apply SemH.load_at hb3); (focus (rfl)); (focus (rfl))); (conv => whnf)) | ((with_reducible first | refine Vc.SeqH.go ?_ | refine Vc.StillsH.nil ?_ | refine Vc.CallX.of ?_ | refine Vc.NextX.of ?_ | refine Vc.DrawH.text mixed (by decide +kernel) ?_ | refine Vc.ArithH.i64 (by omega) ?_ | refine Vc.ArithH.u8 (by omega) ?_ | refine Vc.ArithH.u64 (by omega) ?_ | refine Vc.ArithH.u32 (by omega) ?_ | refine Vc.NeedH.mk ⟨by omega, ?_⟩ | refine Vc.QuoH.i64 (by omega) ?_ | refine Vc.RemH.pos (by omega) ?_ | refine Vc.CondH.bnot ?_ | refine Vc.CondH.lit_t ?_ | refine Vc.CondH.lit_f ?_ | refine Vc.SplitH.lit_t ?_ | refine Vc.SplitH.lit_f ?_ | refine Vc.CondH.pos (by first | (rw [decide_eq_true_eq]; omega) | (rw [beq_iff_eq]; omega) | (rw [bne_iff_ne]; omega)) ?_ | refine Vc.CondH.neg (by first | (rw [decide_eq_false_iff_not]; omega) | (rw [beq_eq_false_iff_ne]; omega) | (rw [bne_eq_false_iff_eq]; omega)) ?_); (conv => whnf)))))
    have hP : numP (some l) = (n, some t) := by show (match numF 10 0 0 l with | none => (0, none) | some (n, t) => (n, some t)) = _; rw [hn]
    rw [hP]
    refine ⟨rfl, ⟨a5, cap5, hr5.keep hx5 (by omega) fun p hp e => by have := hr5.inb p hp; omega⟩, Only.trans (hx12.only (F := fun x => x = g)) hx3 fun b hb e => e.elim id fun e => by omega⟩
  · obtain ⟨l', ho⟩ : ∃ l', o = some l' := by cases o with | none => cases hfl | some l' => exact ⟨l', rfl⟩
    subst ho
    obtain rfl := hl _ rfl
    ((conv => whnf); repeat (any_goals (first | ((with_reducible first | refine Vc.SeqH.go ?_ | refine Vc.StillsH.nil ?_ | refine Vc.CallX.of ?_ | refine Vc.NextX.of ?_ | refine Vc.DrawH.text mixed (by decide +kernel) ?_ | refine Vc.ArithH.i64 (by omega) ?_ | refine Vc.ArithH.u8 (by omega) ?_ | refine Vc.ArithH.u64 (by omega) ?_ | refine Vc.ArithH.u32 (by omega) ?_ | refine Vc.NeedH.mk ⟨by omega, ?_⟩ | refine Vc.QuoH.i64 (by omega) ?_ | refine Vc.RemH.pos (by omega) ?_ | refine Vc.CondH.bnot ?_ | refine Vc.CondH.lit_t ?_ | refine Vc.CondH.lit_f ?_ | refine Vc.SplitH.lit_t ?_ | refine Vc.SplitH.lit_f ?_ | refine Vc.CondH.pos (by first | (rw [decide_eq_true_eq]; omega) | (rw [beq_iff_eq]; omega) | (rw [bne_iff_ne]; omega)) ?_ | refine Vc.CondH.neg (by first | (rw [decide_eq_false_iff_not]; omega) | (rw [beq_eq_false_iff_ne]; omega) | (rw [bne_eq_false_iff_eq]; omega)) ?_); (conv => whnf)))))
    have hP : numP (some l) = (0, none) := by show (match numF 10 0 0 l with | none => (0, none) | some (n, t) => (n, some t)) = _; rw [hn]
    rw [hP]
    refine ⟨rfl, ⟨t, a3, cap3, hr3⟩, Only.trans (hx12.only (F := fun x => x = g)) hx3 fun b hb e => e.elim (fun e => e.elim id fun e => by omega) id⟩
set_option maxHeartbeats 2000000 in
theorem texto_any (g rb : Nat) (o : Option (List UInt8)) (H : Heap) (hr : RdO H g rb o) (hrb : rb < H.size) : CallH Try.prog 31 [.pointer (some ⟨g, 0, none⟩)] H fun v H' => v = .string ⟨(textP o).1.toArray⟩ ∧ RdO H' g rb (textP o).2 ∧ But g H H' := by
  obtain ⟨l, a, cap, hrd, hl⟩ := hr.rd
  have hg := hrd.blk.lt
  refine Vc.CallH.body Try.func31 Try.call31 rfl (by decide +kernel) rfl ?_
  ((conv => whnf); repeat (any_goals (first | ((with_reducible first | refine Vc.SeqH.go ?_ | refine Vc.StillsH.nil ?_ | refine Vc.CallX.of ?_ | refine Vc.NextX.of ?_ | refine Vc.DrawH.text mixed (by decide +kernel) ?_ | refine Vc.ArithH.i64 (by omega) ?_ | refine Vc.ArithH.u8 (by omega) ?_ | refine Vc.ArithH.u64 (by omega) ?_ | refine Vc.ArithH.u32 (by omega) ?_ | refine Vc.NeedH.mk ⟨by omega, ?_⟩ | refine Vc.QuoH.i64 (by omega) ?_ | refine Vc.RemH.pos (by omega) ?_ | refine Vc.CondH.bnot ?_ | refine Vc.CondH.lit_t ?_ | refine Vc.CondH.lit_f ?_ | refine Vc.SplitH.lit_t ?_ | refine Vc.SplitH.lit_f ?_ | refine Vc.CondH.pos (by first | (rw [decide_eq_true_eq]; omega) | (rw [beq_iff_eq]; omega) | (rw [bne_iff_ne]; omega)) ?_ | refine Vc.CondH.neg (by first | (rw [decide_eq_false_iff_not]; omega) | (rw [beq_eq_false_iff_ne]; omega) | (rw [bne_eq_false_iff_eq]; omega)) ?_); (conv => whnf)))))
  refine SemH.box ?_
  intro H1 hs1 hb1 hx1
  ((conv => whnf); repeat (any_goals (first | ((with_reducible first | refine Vc.SeqH.go ?_ | refine Vc.StillsH.nil ?_ | refine Vc.CallX.of ?_ | refine Vc.NextX.of ?_ | refine Vc.DrawH.text mixed (by decide +kernel) ?_ | refine Vc.ArithH.i64 (by omega) ?_ | refine Vc.ArithH.u8 (by omega) ?_ | refine Vc.ArithH.u64 (by omega) ?_ | refine Vc.ArithH.u32 (by omega) ?_ | refine Vc.NeedH.mk ⟨by omega, ?_⟩ | refine Vc.QuoH.i64 (by omega) ?_ | refine Vc.RemH.pos (by omega) ?_ | refine Vc.CondH.bnot ?_ | refine Vc.CondH.lit_t ?_ | refine Vc.CondH.lit_f ?_ | refine Vc.SplitH.lit_t ?_ | refine Vc.SplitH.lit_f ?_ | refine Vc.CondH.pos (by first | (rw [decide_eq_true_eq]; omega) | (rw [beq_iff_eq]; omega) | (rw [bne_iff_ne]; omega)) ?_ | refine Vc.CondH.neg (by first | (rw [decide_eq_false_iff_not]; omega) | (rw [beq_eq_false_iff_ne]; omega) | (rw [bne_eq_false_iff_eq]; omega)) ?_); (conv => whnf)))))
  refine SemH.alloc rfl rfl ?_
  intro H2 hs2 hb2 hx2
  rw [hs1] at hb2 ⊢
  have hb12 := hb1.ext hx2
  have hx12 := hx1.trans hx2
  have hsz : H2.size = H.size + 2 := by omega
  have hr2 := hrd.ext hx12
  have hF : ∀ x, x = g ∨ x = H.size + 1 → x < H2.size := fun x hx => by omega
  have htry := try_any (F := fun x => x = g ∨ x = H.size + 1) (f := 49) (c0 := .pointer (some ⟨H.size, 0, none⟩)) (c1 := .pointer (some ⟨H.size + 1, 0, none⟩))
    (Q1 := fun H' => ∃ n t a cap, textF l = some (n, t) ∧ Blk H' (H.size + 1) #[.string ⟨n.toArray⟩] 9 ∧ Rd H' g rb t false a cap) (X1 := fun H' => textF l = none) hr2 (by omega) hF
    fun hfl H0 hx0 => by
      have := text1_any g rb H.size (H.size + 1) l a cap H0 (.string ⟨#[]⟩) ⟨hb12.ext hx0, by omega, by omega, by omega, by omega⟩ (hb2.ext hx0) (by have := hr2.ext hx0; rw [hfl] at this; exact this)
      exact this.mono (fun v H' ⟨n, t, a, cap, h1, h2, h3, h4⟩ => ⟨⟨n, t, a, cap, h1, h2, h3⟩, h4⟩) (fun c H' ⟨h1, h2, h3, h4⟩ => ⟨h1, h2, h3, h4⟩)
  ((conv => whnf); repeat (any_goals (first | (((with_reducible apply SemH.load_at hb12); (focus (rfl)); (focus (rfl))); (conv => whnf)) | ((refine SemH.func ?_); (conv => whnf)) | ((refine htry.mono ?_); (conv => whnf)) | ((with_reducible first | refine Vc.SeqH.go ?_ | refine Vc.StillsH.nil ?_ | refine Vc.CallX.of ?_ | refine Vc.NextX.of ?_ | refine Vc.DrawH.text mixed (by decide +kernel) ?_ | refine Vc.ArithH.i64 (by omega) ?_ | refine Vc.ArithH.u8 (by omega) ?_ | refine Vc.ArithH.u64 (by omega) ?_ | refine Vc.ArithH.u32 (by omega) ?_ | refine Vc.NeedH.mk ⟨by omega, ?_⟩ | refine Vc.QuoH.i64 (by omega) ?_ | refine Vc.RemH.pos (by omega) ?_ | refine Vc.CondH.bnot ?_ | refine Vc.CondH.lit_t ?_ | refine Vc.CondH.lit_f ?_ | refine Vc.SplitH.lit_t ?_ | refine Vc.SplitH.lit_f ?_ | refine Vc.CondH.pos (by first | (rw [decide_eq_true_eq]; omega) | (rw [beq_iff_eq]; omega) | (rw [bne_iff_ne]; omega)) ?_ | refine Vc.CondH.neg (by first | (rw [decide_eq_false_iff_not]; omega) | (rw [beq_eq_false_iff_ne]; omega) | (rw [bne_eq_false_iff_eq]; omega)) ?_); (conv => whnf)))))
  rintro _ H3 (⟨hfl, rfl, hx3⟩ | ⟨hfl, rfl, ⟨H5, ⟨n, t, a5, cap5, hn, h5, hr5⟩, hsz5, hx5⟩, hx3⟩ | ⟨hfl, rfl, ⟨t, a3, cap3, hr3⟩, ⟨H5, hn, hsz5, hx5⟩, hx3⟩)
  · ((conv => whnf); repeat (any_goals (first | ((with_reducible first | refine Vc.SeqH.go ?_ | refine Vc.StillsH.nil ?_ | refine Vc.CallX.of ?_ | refine Vc.NextX.of ?_ | refine Vc.DrawH.text mixed (by decide +kernel) ?_ | refine Vc.ArithH.i64 (by omega) ?_ | refine Vc.ArithH.u8 (by omega) ?_ | refine Vc.ArithH.u64 (by omega) ?_ | refine Vc.ArithH.u32 (by omega) ?_ | refine Vc.NeedH.mk ⟨by omega, ?_⟩ | refine Vc.QuoH.i64 (by omega) ?_ | refine Vc.RemH.pos (by omega) ?_ | refine Vc.CondH.bnot ?_ | refine Vc.CondH.lit_t ?_ | refine Vc.CondH.lit_f ?_ | refine Vc.SplitH.lit_t ?_ | refine Vc.SplitH.lit_f ?_ | refine Vc.CondH.pos (by first | (rw [decide_eq_true_eq]; omega) | (rw [beq_iff_eq]; omega) | (rw [bne_iff_ne]; omega)) ?_ | refine Vc.CondH.neg (by first | (rw [decide_eq_false_iff_not]; omega) | (rw [beq_eq_false_iff_ne]; omega) | (rw [bne_eq_false_iff_eq]; omega)) ?_); (conv => whnf)))))
    have ho : o = none := by cases o with | none => rfl | some _ => cases hfl
    subst ho
    exact ⟨rfl, hr.ext (hx12.trans hx3), (hx12.trans hx3).only⟩
  · obtain ⟨l', ho⟩ : ∃ l', o = some l' := by cases o with | none => cases hfl | some l' => exact ⟨l', rfl⟩
    subst ho
    obtain rfl := hl _ rfl
    have hb3 := h5.keep hx5 fun h => by omega
    ((conv => whnf); repeat (any_goals (first | (((with_reducible apply SemH.load_at hb3); (focus (rfl)); (focus (rfl))); (conv => whnf)) | ((with_reducible first | refine Vc.SeqH.go ?_ | refine Vc.StillsH.nil ?_ | refine Vc.CallX.of ?_ | refine Vc.NextX.of ?_ | refine Vc.DrawH.text mixed (by decide +kernel) ?_ | refine Vc.ArithH.i64 (by omega) ?_ | refine Vc.ArithH.u8 (by omega) ?_ | refine Vc.ArithH.u64 (by omega) ?_ | refine Vc.ArithH.u32 (by omega) ?_ | refine Vc.NeedH.mk ⟨by omega, ?_⟩ | refine Vc.QuoH.i64 (by omega) ?_ | refine Vc.RemH.pos (by omega) ?_ | refine Vc.CondH.bnot ?_ | refine Vc.CondH.lit_t ?_ | refine Vc.CondH.lit_f ?_ | refine Vc.SplitH.lit_t ?_ | refine Vc.SplitH.lit_f ?_ | refine Vc.CondH.pos (by first | (rw [decide_eq_true_eq]; omega) | (rw [beq_iff_eq]; omega) | (rw [bne_iff_ne]; omega)) ?_ | refine Vc.CondH.neg (by first | (rw [decide_eq_false_iff_not]; omega) | (rw [beq_eq_false_iff_ne]; omega) | (rw [bne_eq_false_iff_eq]; omega)) ?_); (conv => whnf)))))
    have hP : textP (some l) = (n, some t) := by show (match textF l with | none => ([], none) | some (n, t) => (n, some t)) = _; rw [hn]
    rw [hP]
    refine ⟨rfl, ⟨a5, cap5, hr5.keep hx5 (by omega) fun p hp e => by have := hr5.inb p hp; omega⟩, Only.trans (hx12.only (F := fun x => x = g)) hx3 fun b hb e => e.elim id fun e => by omega⟩
  · obtain ⟨l', ho⟩ : ∃ l', o = some l' := by cases o with | none => cases hfl | some l' => exact ⟨l', rfl⟩
    subst ho
    obtain rfl := hl _ rfl
    ((conv => whnf); repeat (any_goals (first | ((with_reducible first | refine Vc.SeqH.go ?_ | refine Vc.StillsH.nil ?_ | refine Vc.CallX.of ?_ | refine Vc.NextX.of ?_ | refine Vc.DrawH.text mixed (by decide +kernel) ?_ | refine Vc.ArithH.i64 (by omega) ?_ | refine Vc.ArithH.u8 (by omega) ?_ | refine Vc.ArithH.u64 (by omega) ?_ | refine Vc.ArithH.u32 (by omega) ?_ | refine Vc.NeedH.mk ⟨by omega, ?_⟩ | refine Vc.QuoH.i64 (by omega) ?_ | refine Vc.RemH.pos (by omega) ?_ | refine Vc.CondH.bnot ?_ | refine Vc.CondH.lit_t ?_ | refine Vc.CondH.lit_f ?_ | refine Vc.SplitH.lit_t ?_ | refine Vc.SplitH.lit_f ?_ | refine Vc.CondH.pos (by first | (rw [decide_eq_true_eq]; omega) | (rw [beq_iff_eq]; omega) | (rw [bne_iff_ne]; omega)) ?_ | refine Vc.CondH.neg (by first | (rw [decide_eq_false_iff_not]; omega) | (rw [beq_eq_false_iff_ne]; omega) | (rw [bne_eq_false_iff_eq]; omega)) ?_); (conv => whnf)))))
    have hP : textP (some l) = ([], none) := by show (match textF l with | none => ([], none) | some (n, t) => (n, some t)) = _; rw [hn]
    rw [hP]
    refine ⟨rfl, ⟨t, a3, cap3, hr3⟩, Only.trans (hx12.only (F := fun x => x = g)) hx3 fun b hb e => e.elim (fun e => e.elim id fun e => by omega) id⟩

theorem done_r (g rb : Nat) (o : Option (List UInt8)) (H : Heap) (hr : RdO H g rb o) : CallH Try.prog 33 [.pointer (some ⟨g, 0, none⟩)] H fun v H' => v = .int .i64 (if o = some [] then 0 else 20) ∧ H = H' := by
  obtain ⟨l, a, cap, hrd, hl⟩ := hr.rd
  have hb := hrd.blk
  refine Vc.CallH.body Try.func33 Try.call33 rfl (by decide +kernel) rfl ?_
  cases o with
  | none => 
    replace hb : Blk H g #[.slice a l.length cap, .bool true] 98 := hb
    ((conv => whnf); repeat (any_goals (first | (((with_reducible apply SemH.load_at hb); (focus (rfl)); (focus (rfl))); (conv => whnf)) | ((with_reducible first | refine Vc.SeqH.go ?_ | refine Vc.StillsH.nil ?_ | refine Vc.CallX.of ?_ | refine Vc.NextX.of ?_ | refine Vc.DrawH.text mixed (by decide +kernel) ?_ | refine Vc.ArithH.i64 (by omega) ?_ | refine Vc.ArithH.u8 (by omega) ?_ | refine Vc.ArithH.u64 (by omega) ?_ | refine Vc.ArithH.u32 (by omega) ?_ | refine Vc.NeedH.mk ⟨by omega, ?_⟩ | refine Vc.QuoH.i64 (by omega) ?_ | refine Vc.RemH.pos (by omega) ?_ | refine Vc.CondH.bnot ?_ | refine Vc.CondH.lit_t ?_ | refine Vc.CondH.lit_f ?_ | refine Vc.SplitH.lit_t ?_ | refine Vc.SplitH.lit_f ?_ | refine Vc.CondH.pos (by first | (rw [decide_eq_true_eq]; omega) | (rw [beq_iff_eq]; omega) | (rw [bne_iff_ne]; omega)) ?_ | refine Vc.CondH.neg (by first | (rw [decide_eq_false_iff_not]; omega) | (rw [beq_eq_false_iff_ne]; omega) | (rw [bne_eq_false_iff_eq]; omega)) ?_); (conv => whnf)))))
    exact ⟨rfl, rfl⟩
  | some l' =>
    obtain rfl := hl _ rfl
    cases l with
    | nil =>
      replace hb : Blk H g #[.slice a 0 cap, .bool false] 98 := hb
      ((conv => whnf); repeat (any_goals (first | (((with_reducible apply SemH.load_at hb); (focus (rfl)); (focus (rfl))); (conv => whnf)) | ((with_reducible first | refine Vc.SeqH.go ?_ | refine Vc.StillsH.nil ?_ | refine Vc.CallX.of ?_ | refine Vc.NextX.of ?_ | refine Vc.DrawH.text mixed (by decide +kernel) ?_ | refine Vc.ArithH.i64 (by omega) ?_ | refine Vc.ArithH.u8 (by omega) ?_ | refine Vc.ArithH.u64 (by omega) ?_ | refine Vc.ArithH.u32 (by omega) ?_ | refine Vc.NeedH.mk ⟨by omega, ?_⟩ | refine Vc.QuoH.i64 (by omega) ?_ | refine Vc.RemH.pos (by omega) ?_ | refine Vc.CondH.bnot ?_ | refine Vc.CondH.lit_t ?_ | refine Vc.CondH.lit_f ?_ | refine Vc.SplitH.lit_t ?_ | refine Vc.SplitH.lit_f ?_ | refine Vc.CondH.pos (by first | (rw [decide_eq_true_eq]; omega) | (rw [beq_iff_eq]; omega) | (rw [bne_iff_ne]; omega)) ?_ | refine Vc.CondH.neg (by first | (rw [decide_eq_false_iff_not]; omega) | (rw [beq_eq_false_iff_ne]; omega) | (rw [bne_eq_false_iff_eq]; omega)) ?_); (conv => whnf)))))
      exact ⟨rfl, rfl⟩
    | cons x t =>
      have hlt : (x :: t).length = t.length + 1 := rfl
      rw [hlt] at hb
      replace hb : Blk H g #[.slice a (t.length + 1) cap, .bool false] 98 := hb
      ((conv => whnf); repeat (any_goals (first | (((with_reducible apply SemH.load_at hb); (focus (rfl)); (focus (rfl))); (conv => whnf)) | ((refine SplitH.pos (by rw [decide_eq_true_eq]; omega) ?_); (conv => whnf)) | ((refine CondH.pos (by rw [decide_eq_true_eq]; omega) ?_); (conv => whnf)) | ((with_reducible first | refine Vc.SeqH.go ?_ | refine Vc.StillsH.nil ?_ | refine Vc.CallX.of ?_ | refine Vc.NextX.of ?_ | refine Vc.DrawH.text mixed (by decide +kernel) ?_ | refine Vc.ArithH.i64 (by omega) ?_ | refine Vc.ArithH.u8 (by omega) ?_ | refine Vc.ArithH.u64 (by omega) ?_ | refine Vc.ArithH.u32 (by omega) ?_ | refine Vc.NeedH.mk ⟨by omega, ?_⟩ | refine Vc.QuoH.i64 (by omega) ?_ | refine Vc.RemH.pos (by omega) ?_ | refine Vc.CondH.bnot ?_ | refine Vc.CondH.lit_t ?_ | refine Vc.CondH.lit_f ?_ | refine Vc.SplitH.lit_t ?_ | refine Vc.SplitH.lit_f ?_ | refine Vc.CondH.pos (by first | (rw [decide_eq_true_eq]; omega) | (rw [beq_iff_eq]; omega) | (rw [bne_iff_ne]; omega)) ?_ | refine Vc.CondH.neg (by first | (rw [decide_eq_false_iff_not]; omega) | (rw [beq_eq_false_iff_ne]; omega) | (rw [bne_eq_false_iff_eq]; omega)) ?_); (conv => whnf)))))
      exact ⟨rfl, rfl⟩
end Go.Proofs.Ytipebbbgpkplaaa
