import Derived.Test.YtipebbbgpkplaaaSa
import Derived.Test.YtipebbbgpkplaaaHr
import Derived.Test.YtipebbbgpkplaaaVo
import Derived.Recover
set_option linter.unusedVariables false
set_option maxRecDepth 100000
/- Numbers and texts as bytes: the reader; what a call under try comes to. -/
namespace Go.Proofs.Ytipebbbgpkplaaa
open Go Go.Vc

def stopV : Value := .iface 119 (.agg #[])
def stopC : List PanicEntry := [{ v := stopV, recovered := false }]
theorem must_any (b : Bool) (H : Heap) (R : Value → Heap → Prop) (X : Panics) (ht : b = true → R (.tuple #[]) H) (hf : b = false → X stopC H) : CallX Try.prog 62 [.bool b] H R X := by
  refine Vc.CallX.body Try.func62 Try.call62 rfl (by decide +kernel) rfl ?_
  cases b
  · ((conv => whnf); repeat (any_goals (first | ((with_reducible first | refine Vc.SeqH.go ?_ | refine Vc.StillsH.nil ?_ | refine Vc.CallX.of ?_ | refine Vc.NextX.of ?_ | refine Vc.DrawH.text mixed (by decide +kernel) ?_ | refine Vc.ArithH.i64 (by omega) ?_ | refine Vc.ArithH.u8 (by omega) ?_ | refine Vc.ArithH.u64 (by omega) ?_ | refine Vc.ArithH.u32 (by omega) ?_ | refine Vc.NeedH.mk ⟨by omega, ?_⟩ | refine Vc.QuoH.i64 (by omega) ?_ | refine Vc.RemH.pos (by omega) ?_ | refine Vc.CondH.bnot ?_ | refine Vc.CondH.lit_t ?_ | refine Vc.CondH.lit_f ?_ | refine Vc.SplitH.lit_t ?_ | refine Vc.SplitH.lit_f ?_ | refine Vc.CondH.pos (by first | (rw [decide_eq_true_eq]; omega) | (rw [beq_iff_eq]; omega) | (rw [bne_iff_ne]; omega)) ?_ | refine Vc.CondH.neg (by first | (rw [decide_eq_false_iff_not]; omega) | (rw [beq_eq_false_iff_ne]; omega) | (rw [bne_eq_false_iff_eq]; omega)) ?_); (conv => whnf)))))
    refine PureH.build #[] (by kernel_rfl) ?_
    ((conv => whnf); repeat (any_goals (first | ((with_reducible first | refine Vc.SeqH.go ?_ | refine Vc.StillsH.nil ?_ | refine Vc.CallX.of ?_ | refine Vc.NextX.of ?_ | refine Vc.DrawH.text mixed (by decide +kernel) ?_ | refine Vc.ArithH.i64 (by omega) ?_ | refine Vc.ArithH.u8 (by omega) ?_ | refine Vc.ArithH.u64 (by omega) ?_ | refine Vc.ArithH.u32 (by omega) ?_ | refine Vc.NeedH.mk ⟨by omega, ?_⟩ | refine Vc.QuoH.i64 (by omega) ?_ | refine Vc.RemH.pos (by omega) ?_ | refine Vc.CondH.bnot ?_ | refine Vc.CondH.lit_t ?_ | refine Vc.CondH.lit_f ?_ | refine Vc.SplitH.lit_t ?_ | refine Vc.SplitH.lit_f ?_ | refine Vc.CondH.pos (by first | (rw [decide_eq_true_eq]; omega) | (rw [beq_iff_eq]; omega) | (rw [bne_iff_ne]; omega)) ?_ | refine Vc.CondH.neg (by first | (rw [decide_eq_false_iff_not]; omega) | (rw [beq_eq_false_iff_ne]; omega) | (rw [bne_eq_false_iff_eq]; omega)) ?_); (conv => whnf)))))
    exact ⟨hf rfl⟩
  · ((conv => whnf); repeat (any_goals (first | ((with_reducible first | refine Vc.SeqH.go ?_ | refine Vc.StillsH.nil ?_ | refine Vc.CallX.of ?_ | refine Vc.NextX.of ?_ | refine Vc.DrawH.text mixed (by decide +kernel) ?_ | refine Vc.ArithH.i64 (by omega) ?_ | refine Vc.ArithH.u8 (by omega) ?_ | refine Vc.ArithH.u64 (by omega) ?_ | refine Vc.ArithH.u32 (by omega) ?_ | refine Vc.NeedH.mk ⟨by omega, ?_⟩ | refine Vc.QuoH.i64 (by omega) ?_ | refine Vc.RemH.pos (by omega) ?_ | refine Vc.CondH.bnot ?_ | refine Vc.CondH.lit_t ?_ | refine Vc.CondH.lit_f ?_ | refine Vc.SplitH.lit_t ?_ | refine Vc.SplitH.lit_f ?_ | refine Vc.CondH.pos (by first | (rw [decide_eq_true_eq]; omega) | (rw [beq_iff_eq]; omega) | (rw [bne_iff_ne]; omega)) ?_ | refine Vc.CondH.neg (by first | (rw [decide_eq_false_iff_not]; omega) | (rw [beq_eq_false_iff_ne]; omega) | (rw [bne_eq_false_iff_eq]; omega)) ?_); (conv => whnf)))))
    exact ht rfl
theorem SemH.func {P : Program} {H : Heap} {fn : Fn} {first captured : Array Value} {K : Value → Heap → Prop} (hk : K (.func fn first captured) H) : SemH P (Instr.makeFunc fn first captured) H K :=
  ⟨fun w hw => ⟨_, w, rfl, Same.refl w, hw ▸ hk⟩⟩

/-- a reader: its bytes; whether it failed -/
structure Rd (H : Heap) (g rb : Nat) (l : List UInt8) (fl : Bool) (a : Option Addr) (cap : Nat) : Prop where
  blk : Blk H g #[.slice a l.length cap, .bool fl] 98
  row : Row H a (strV l)
  hcap : l.length ≤ cap
  hmax : cap ≤ maxLen
  inb : ∀ p, a = some p → p.block = rb
  ne : rb ≠ g
theorem Rd.apart {H : Heap} {g rb : Nat} {l : List UInt8} {fl : Bool} {a : Option Addr} {cap : Nat} (h : Rd H g rb l fl a cap) : ∀ p, a = some p → p.block ≠ g := fun p hp e => h.ne ((h.inb p hp).symm.trans e)
theorem Rd.ext {H H' : Heap} {g rb : Nat} {l : List UInt8} {fl : Bool} {a : Option Addr} {cap : Nat} (h : Rd H g rb l fl a cap) (k : Ext H H') : Rd H' g rb l fl a cap := ⟨h.blk.ext k, h.row.ext k, h.hcap, h.hmax, h.inb, h.ne⟩
theorem Rd.keep {H H' : Heap} {F : Nat → Prop} {g rb : Nat} {l : List UInt8} {fl : Bool} {a : Option Addr} {cap : Nat} (h : Rd H g rb l fl a cap) (k : Only F H H') (hg : ¬ F g) (ha : ∀ p, a = some p → ¬ F p.block) : Rd H' g rb l fl a cap := ⟨h.blk.keep k hg, h.row.keep k ha, h.hcap, h.hmax, h.inb, h.ne⟩

theorem sliceBase_block {a : Option Addr} {m l s : Nat} {p : Addr} (h : sliceBase a m l s = some p) : ∃ q, a = some q ∧ q.block = p.block := by
  unfold sliceBase at h
  split at h
  · exact ⟨p, h, rfl⟩
  · cases a with
    | none => cases h
    | some q =>
      simp only [Option.map_some, Option.some.injEq] at h
      exact ⟨q, rfl, by rw [← h]; exact (Go.ChangeShapes.block_add q _).symm⟩
theorem low7' : ∀ n : Nat, n < 256 → bitB .u8 .andNot (n : Int) 128 = ((n % 128 : Nat) : Int) := by decide +kernel
theorem low7 (x : UInt8) : bitB .u8 .andNot (x.toNat : Int) 128 = ((x.toNat % 128 : Nat) : Int) := low7' _ x.toNat_lt
theorem high1' : ∀ n : Nat, n < 256 → bitB .u8 .and (n : Int) 128 = if n < 128 then 0 else 128 := by decide +kernel
theorem high1 (x : UInt8) : bitB .u8 .and (x.toNat : Int) 128 = if x.toNat < 128 then 0 else 128 := high1' _ x.toNat_lt

/-- a number at the head of bytes -/
def numStep (n : Int) (x i : Nat) : Int := bitB .u64 .or n (shlB .u64 ((x % 128 : Nat) : Int) (7 * (i : Int)))
def numF : Nat → Nat → Int → List UInt8 → Option (Int × List UInt8)
  | 0, _, _, _ => none
  | _ + 1, _, _, [] => none
  | k + 1, i, n, x :: t => if i < 9 ∨ x.toNat ≤ 1 then (if x.toNat < 128 then (if x.toNat ≠ 0 ∨ i = 0 then some (numStep n x.toNat i, t) else none) else numF k (i + 1) (numStep n x.toNat i) t) else none

set_option maxHeartbeats 1000000 in
theorem num_any (g rb : Nat) (l0 : List UInt8) (a0 : Option Addr) (cap0 : Nat) (H : Heap) (hr0 : Rd H g rb l0 false a0 cap0) :
    CallX Try.prog 52 [.pointer (some ⟨g, 0, none⟩)] H
      (fun v H' => ∃ n t a cap, numF 10 0 0 l0 = some (n, t) ∧ v = .int .u64 n ∧ Rd H' g rb t false a cap ∧ But g H H')
      (fun c H' => c = stopC ∧ numF 10 0 0 l0 = none ∧ (∃ t a cap, Rd H' g rb t false a cap) ∧ But g H H') := by
  generalize hq : numF 10 0 0 l0 = r0
  refine Vc.CallX.body Try.func52 Try.call52 rfl (by decide +kernel) rfl ?_
  ((conv => whnf); repeat (any_goals (first | ((with_reducible first | refine Vc.SeqH.go ?_ | refine Vc.StillsH.nil ?_ | refine Vc.CallX.of ?_ | refine Vc.NextX.of ?_ | refine Vc.DrawH.text mixed (by decide +kernel) ?_ | refine Vc.ArithH.i64 (by omega) ?_ | refine Vc.ArithH.u8 (by omega) ?_ | refine Vc.ArithH.u64 (by omega) ?_ | refine Vc.ArithH.u32 (by omega) ?_ | refine Vc.NeedH.mk ⟨by omega, ?_⟩ | refine Vc.QuoH.i64 (by omega) ?_ | refine Vc.RemH.pos (by omega) ?_ | refine Vc.CondH.bnot ?_ | refine Vc.CondH.lit_t ?_ | refine Vc.CondH.lit_f ?_ | refine Vc.SplitH.lit_t ?_ | refine Vc.SplitH.lit_f ?_ | refine Vc.CondH.pos (by first | (rw [decide_eq_true_eq]; omega) | (rw [beq_iff_eq]; omega) | (rw [bne_iff_ne]; omega)) ?_ | refine Vc.CondH.neg (by first | (rw [decide_eq_false_iff_not]; omega) | (rw [beq_eq_false_iff_ne]; omega) | (rw [bne_eq_false_iff_eq]; omega)) ?_); (conv => whnf)))))
  refine LoopH.intro (fun (s : Nat × Int × List UInt8 × Option Addr × Nat) => [(4, .int .i64 s.1), (3, .int .u64 s.2.1)])
    (fun s H' => s.1 ≤ 10 ∧ r0 = numF (10 - s.1) s.1 s.2.1 s.2.2.1 ∧ Rd H' g rb s.2.2.1 false s.2.2.2.1 s.2.2.2.2 ∧ But g H H') (fun s => 11 - s.1) (0, 0, l0, a0, cap0) ⟨rfl, rfl, trivial⟩ ⟨by show 0 ≤ 10; omega, hq.symm, hr0, Only.refl _ _⟩ ?_
  rintro ⟨i, n, l, a, cap⟩ H1 ⟨hi, hF, hr, hx⟩
  dsimp only at hi hF hr hx ⊢
  have hb := hr.blk
  have hmx := hr.hmax
  have hcp := hr.hcap
  unfold maxLen at hmx
  by_cases hi10 : i < 10
  · cases l with
    | nil =>
      have hno : r0 = none := by rw [hF, show 10 - i = (9 - i) + 1 by omega]; rfl
      ((conv => whnf); repeat (any_goals (first | ((refine SplitH.pos (by rw [decide_eq_true_eq]; omega) ?_); (conv => whnf)) | (((with_reducible apply SemH.load_at hb); (focus (rfl)); (focus (rfl))); (conv => whnf)) | ((refine must_any _ _ _ _ (fun e => by simp at e) fun _ => ?_); (conv => whnf)) | ((with_reducible first | refine Vc.SeqH.go ?_ | refine Vc.StillsH.nil ?_ | refine Vc.CallX.of ?_ | refine Vc.NextX.of ?_ | refine Vc.DrawH.text mixed (by decide +kernel) ?_ | refine Vc.ArithH.i64 (by omega) ?_ | refine Vc.ArithH.u8 (by omega) ?_ | refine Vc.ArithH.u64 (by omega) ?_ | refine Vc.ArithH.u32 (by omega) ?_ | refine Vc.NeedH.mk ⟨by omega, ?_⟩ | refine Vc.QuoH.i64 (by omega) ?_ | refine Vc.RemH.pos (by omega) ?_ | refine Vc.CondH.bnot ?_ | refine Vc.CondH.lit_t ?_ | refine Vc.CondH.lit_f ?_ | refine Vc.SplitH.lit_t ?_ | refine Vc.SplitH.lit_f ?_ | refine Vc.CondH.pos (by first | (rw [decide_eq_true_eq]; omega) | (rw [beq_iff_eq]; omega) | (rw [bne_iff_ne]; omega)) ?_ | refine Vc.CondH.neg (by first | (rw [decide_eq_false_iff_not]; omega) | (rw [beq_eq_false_iff_ne]; omega) | (rw [bne_eq_false_iff_eq]; omega)) ?_); (conv => whnf)))))
      exact ⟨rfl, hno, ⟨_, _, _, hr⟩, hx⟩
    | cons x t =>
      have hstep : r0 = numF (9 - i + 1) i n (x :: t) := by rw [hF]; congr 1; omega
      unfold numF at hstep
      have hlt : (x :: t).length = t.length + 1 := rfl
      rw [hlt] at hb hcp
      have hrow := hr.row
      have hmust : ∀ {b : Bool} {R : Value → Heap → Prop} {X : Panics} {H : Heap}, b = true → R (.tuple #[]) H → CallX Try.prog 62 [.bool b] H R X := fun hb h => must_any _ _ _ _ (fun _ => h) (fun e => by rw [hb] at e; cases e)
      have hx8 := x.toNat_lt
      ((conv => whnf); repeat (any_goals (first | ((refine SplitH.pos (by rw [decide_eq_true_eq]; omega) ?_); (conv => whnf)) | (((with_reducible apply SemH.load_at hb); (focus (rfl)); (focus (rfl))); (conv => whnf)) | ((refine hmust (by rw [decide_eq_true_eq]; omega) ?_); (conv => whnf)) | ((refine IdxA.bytes hrow hlt (by omega) (by omega) ?_; intro _ _ _ hcl; replace hcl : hcell _ _ = some (.int .u8 x.toNat) := hcl); (conv => whnf)) | (((with_reducible apply SemH.load); (focus (rfl)); (focus (exact hcl))); (conv => whnf)) | ((refine BndH.nat 1 rfl (by omega) ?_); (conv => whnf)) | ((with_reducible first | refine Vc.SeqH.go ?_ | refine Vc.StillsH.nil ?_ | refine Vc.CallX.of ?_ | refine Vc.NextX.of ?_ | refine Vc.DrawH.text mixed (by decide +kernel) ?_ | refine Vc.ArithH.i64 (by omega) ?_ | refine Vc.ArithH.u8 (by omega) ?_ | refine Vc.ArithH.u64 (by omega) ?_ | refine Vc.ArithH.u32 (by omega) ?_ | refine Vc.NeedH.mk ⟨by omega, ?_⟩ | refine Vc.QuoH.i64 (by omega) ?_ | refine Vc.RemH.pos (by omega) ?_ | refine Vc.CondH.bnot ?_ | refine Vc.CondH.lit_t ?_ | refine Vc.CondH.lit_f ?_ | refine Vc.SplitH.lit_t ?_ | refine Vc.SplitH.lit_f ?_ | refine Vc.CondH.pos (by first | (rw [decide_eq_true_eq]; omega) | (rw [beq_iff_eq]; omega) | (rw [bne_iff_ne]; omega)) ?_ | refine Vc.CondH.neg (by first | (rw [decide_eq_false_iff_not]; omega) | (rw [beq_eq_false_iff_ne]; omega) | (rw [bne_eq_false_iff_eq]; omega)) ?_); (conv => whnf)))))
      refine DoH.store1 (o := 0 + 0) hb rfl rfl rfl (by show 0 + 0 < 2; omega) ?_
      intro H2 hs2 hb2 hx2
      have hr2 : Rd H2 g rb t false (sliceBase a cap 1 1) (cap - 1) := ⟨hb2, by
        have := (hrow.drop cap 1 1 (by rw [strV_length, hlt]; omega)).keep hx2 fun p hp hq => by
          obtain ⟨q, h1, h2⟩ := sliceBase_block hp
          exact hr.apart q h1 (h2.trans hq)
        rwa [Nat.mul_one, strV_drop] at this, by omega, by have := hr.hmax; omega, fun p hp => by
          obtain ⟨q, h1, h2⟩ := sliceBase_block hp
          rw [← h2]; exact hr.inb q h1, hr.ne⟩
      have hx12 : But g H H2 := hx.trans hx2 fun _ _ => id
      have hgood : ∀ {b : Bool} {R : Value → Heap → Prop} {X : Panics} {H : Heap}, b = false → X stopC H → CallX Try.prog 62 [.bool b] H R X := fun hb h => must_any _ _ _ _ (fun e => by rw [hb] at e; cases e) (fun _ => h)
      have hi7 : -9223372036854775808 ≤ 7 * (i : Int) ∧ 7 * (i : Int) ≤ 9223372036854775807 := by omega
      have hi7' : 0 ≤ 7 * (i : Int) ∧ 7 * (i : Int) < 18446744073709551616 := by omega
      have hx64 : 0 ≤ ((x.toNat % 128 : Nat) : Int) ∧ ((x.toNat % 128 : Nat) : Int) < 18446744073709551616 := by omega
      have split9 : (i < 9 ∨ x.toNat ≤ 1) ∨ ¬ (i < 9 ∨ x.toNat ≤ 1) := Classical.em _
      by_cases hi9 : i < 9
      · rw [if_pos (.inl hi9)] at hstep
        by_cases hx128 : x.toNat < 128
        · rw [if_pos hx128] at hstep
          by_cases hxz : x.toNat = 0
          · by_cases hiz : i = 0
            · rw [if_pos (.inr hiz)] at hstep
              ((conv => whnf); repeat (any_goals (first | ((refine SplitH.pos (by rw [decide_eq_true_eq]; omega) ?_); (conv => whnf)) | ((refine hmust rfl ?_); (conv => whnf)) | ((rw [low7]; refine ArithH.u64 hx64 ?_); (conv => whnf)) | ((refine ArithH.u64 hi7' ?_); (conv => whnf)) | ((refine CondH.pos (by rw [high1, if_pos hx128]; rfl) ?_); (conv => whnf)) | ((refine SplitH.neg (by rw [bne_eq_false_iff_eq]; omega) ?_); (conv => whnf)) | ((refine hmust (by rw [beq_iff_eq]; omega) ?_); (conv => whnf)) | ((with_reducible first | refine Vc.SeqH.go ?_ | refine Vc.StillsH.nil ?_ | refine Vc.CallX.of ?_ | refine Vc.NextX.of ?_ | refine Vc.DrawH.text mixed (by decide +kernel) ?_ | refine Vc.ArithH.i64 (by omega) ?_ | refine Vc.ArithH.u8 (by omega) ?_ | refine Vc.ArithH.u64 (by omega) ?_ | refine Vc.ArithH.u32 (by omega) ?_ | refine Vc.NeedH.mk ⟨by omega, ?_⟩ | refine Vc.QuoH.i64 (by omega) ?_ | refine Vc.RemH.pos (by omega) ?_ | refine Vc.CondH.bnot ?_ | refine Vc.CondH.lit_t ?_ | refine Vc.CondH.lit_f ?_ | refine Vc.SplitH.lit_t ?_ | refine Vc.SplitH.lit_f ?_ | refine Vc.CondH.pos (by first | (rw [decide_eq_true_eq]; omega) | (rw [beq_iff_eq]; omega) | (rw [bne_iff_ne]; omega)) ?_ | refine Vc.CondH.neg (by first | (rw [decide_eq_false_iff_not]; omega) | (rw [beq_eq_false_iff_ne]; omega) | (rw [bne_eq_false_iff_eq]; omega)) ?_); (conv => whnf)))))
              exact ⟨_, _, _, _, hstep, rfl, hr2, hx12⟩
            · rw [if_neg (by omega)] at hstep
              ((conv => whnf); repeat (any_goals (first | ((refine SplitH.pos (by rw [decide_eq_true_eq]; omega) ?_); (conv => whnf)) | ((refine hmust rfl ?_); (conv => whnf)) | ((rw [low7]; refine ArithH.u64 hx64 ?_); (conv => whnf)) | ((refine ArithH.u64 hi7' ?_); (conv => whnf)) | ((refine CondH.pos (by rw [high1, if_pos hx128]; rfl) ?_); (conv => whnf)) | ((refine SplitH.neg (by rw [bne_eq_false_iff_eq]; omega) ?_); (conv => whnf)) | ((refine hgood (by rw [beq_eq_false_iff_ne]; omega) ?_); (conv => whnf)) | ((with_reducible first | refine Vc.SeqH.go ?_ | refine Vc.StillsH.nil ?_ | refine Vc.CallX.of ?_ | refine Vc.NextX.of ?_ | refine Vc.DrawH.text mixed (by decide +kernel) ?_ | refine Vc.ArithH.i64 (by omega) ?_ | refine Vc.ArithH.u8 (by omega) ?_ | refine Vc.ArithH.u64 (by omega) ?_ | refine Vc.ArithH.u32 (by omega) ?_ | refine Vc.NeedH.mk ⟨by omega, ?_⟩ | refine Vc.QuoH.i64 (by omega) ?_ | refine Vc.RemH.pos (by omega) ?_ | refine Vc.CondH.bnot ?_ | refine Vc.CondH.lit_t ?_ | refine Vc.CondH.lit_f ?_ | refine Vc.SplitH.lit_t ?_ | refine Vc.SplitH.lit_f ?_ | refine Vc.CondH.pos (by first | (rw [decide_eq_true_eq]; omega) | (rw [beq_iff_eq]; omega) | (rw [bne_iff_ne]; omega)) ?_ | refine Vc.CondH.neg (by first | (rw [decide_eq_false_iff_not]; omega) | (rw [beq_eq_false_iff_ne]; omega) | (rw [bne_eq_false_iff_eq]; omega)) ?_); (conv => whnf)))))
              exact ⟨rfl, hstep, ⟨_, _, _, hr2⟩, hx12⟩
          · rw [if_pos (.inl hxz)] at hstep
            ((conv => whnf); repeat (any_goals (first | ((refine SplitH.pos (by rw [decide_eq_true_eq]; omega) ?_); (conv => whnf)) | ((refine hmust rfl ?_); (conv => whnf)) | ((rw [low7]; refine ArithH.u64 hx64 ?_); (conv => whnf)) | ((refine ArithH.u64 hi7' ?_); (conv => whnf)) | ((refine CondH.pos (by rw [high1, if_pos hx128]; rfl) ?_); (conv => whnf)) | ((refine SplitH.pos (by rw [bne_iff_ne]; omega) ?_); (conv => whnf)) | ((refine hmust rfl ?_); (conv => whnf)) | ((with_reducible first | refine Vc.SeqH.go ?_ | refine Vc.StillsH.nil ?_ | refine Vc.CallX.of ?_ | refine Vc.NextX.of ?_ | refine Vc.DrawH.text mixed (by decide +kernel) ?_ | refine Vc.ArithH.i64 (by omega) ?_ | refine Vc.ArithH.u8 (by omega) ?_ | refine Vc.ArithH.u64 (by omega) ?_ | refine Vc.ArithH.u32 (by omega) ?_ | refine Vc.NeedH.mk ⟨by omega, ?_⟩ | refine Vc.QuoH.i64 (by omega) ?_ | refine Vc.RemH.pos (by omega) ?_ | refine Vc.CondH.bnot ?_ | refine Vc.CondH.lit_t ?_ | refine Vc.CondH.lit_f ?_ | refine Vc.SplitH.lit_t ?_ | refine Vc.SplitH.lit_f ?_ | refine Vc.CondH.pos (by first | (rw [decide_eq_true_eq]; omega) | (rw [beq_iff_eq]; omega) | (rw [bne_iff_ne]; omega)) ?_ | refine Vc.CondH.neg (by first | (rw [decide_eq_false_iff_not]; omega) | (rw [beq_eq_false_iff_ne]; omega) | (rw [bne_eq_false_iff_eq]; omega)) ?_); (conv => whnf)))))
            exact ⟨_, _, _, _, hstep, rfl, hr2, hx12⟩
        · rw [if_neg hx128] at hstep
          ((conv => whnf); repeat (any_goals (first | ((refine SplitH.pos (by rw [decide_eq_true_eq]; omega) ?_); (conv => whnf)) | ((refine hmust rfl ?_); (conv => whnf)) | ((rw [low7]; refine ArithH.u64 hx64 ?_); (conv => whnf)) | ((refine ArithH.u64 hi7' ?_); (conv => whnf)) | ((refine CondH.neg (by rw [high1, if_neg hx128]; rfl) ?_); (conv => whnf)) | ((with_reducible first | refine Vc.SeqH.go ?_ | refine Vc.StillsH.nil ?_ | refine Vc.CallX.of ?_ | refine Vc.NextX.of ?_ | refine Vc.DrawH.text mixed (by decide +kernel) ?_ | refine Vc.ArithH.i64 (by omega) ?_ | refine Vc.ArithH.u8 (by omega) ?_ | refine Vc.ArithH.u64 (by omega) ?_ | refine Vc.ArithH.u32 (by omega) ?_ | refine Vc.NeedH.mk ⟨by omega, ?_⟩ | refine Vc.QuoH.i64 (by omega) ?_ | refine Vc.RemH.pos (by omega) ?_ | refine Vc.CondH.bnot ?_ | refine Vc.CondH.lit_t ?_ | refine Vc.CondH.lit_f ?_ | refine Vc.SplitH.lit_t ?_ | refine Vc.SplitH.lit_f ?_ | refine Vc.CondH.pos (by first | (rw [decide_eq_true_eq]; omega) | (rw [beq_iff_eq]; omega) | (rw [bne_iff_ne]; omega)) ?_ | refine Vc.CondH.neg (by first | (rw [decide_eq_false_iff_not]; omega) | (rw [beq_eq_false_iff_ne]; omega) | (rw [bne_eq_false_iff_eq]; omega)) ?_); (conv => whnf)))))
          exact ⟨(i + 1, numStep n x.toNat i, t, _, _), ⟨rfl, rfl, trivial⟩, ⟨by show i + 1 ≤ 10; omega, by show _ = numF (10 - (i + 1)) (i + 1) _ _; rw [hstep]; congr 1; omega, hr2, hx12⟩, by show 11 - (i + 1) < 11 - i; omega⟩
      · by_cases hx1 : x.toNat ≤ 1
        · rw [if_pos (.inr hx1), if_pos (by omega)] at hstep
          by_cases hxz : x.toNat = 0
          · rw [if_neg (by omega)] at hstep
            ((conv => whnf); repeat (any_goals (first | ((refine SplitH.neg (by rw [decide_eq_false_iff_not]; omega) ?_); (conv => whnf)) | ((refine hmust (by rw [decide_eq_true_eq]; omega) ?_); (conv => whnf)) | ((rw [low7]; refine ArithH.u64 hx64 ?_); (conv => whnf)) | ((refine ArithH.u64 hi7' ?_); (conv => whnf)) | ((refine CondH.pos (by rw [high1, if_pos (by omega)]; rfl) ?_); (conv => whnf)) | ((refine SplitH.neg (by rw [bne_eq_false_iff_eq]; omega) ?_); (conv => whnf)) | ((refine hgood (by rw [beq_eq_false_iff_ne]; omega) ?_); (conv => whnf)) | ((with_reducible first | refine Vc.SeqH.go ?_ | refine Vc.StillsH.nil ?_ | refine Vc.CallX.of ?_ | refine Vc.NextX.of ?_ | refine Vc.DrawH.text mixed (by decide +kernel) ?_ | refine Vc.ArithH.i64 (by omega) ?_ | refine Vc.ArithH.u8 (by omega) ?_ | refine Vc.ArithH.u64 (by omega) ?_ | refine Vc.ArithH.u32 (by omega) ?_ | refine Vc.NeedH.mk ⟨by omega, ?_⟩ | refine Vc.QuoH.i64 (by omega) ?_ | refine Vc.RemH.pos (by omega) ?_ | refine Vc.CondH.bnot ?_ | refine Vc.CondH.lit_t ?_ | refine Vc.CondH.lit_f ?_ | refine Vc.SplitH.lit_t ?_ | refine Vc.SplitH.lit_f ?_ | refine Vc.CondH.pos (by first | (rw [decide_eq_true_eq]; omega) | (rw [beq_iff_eq]; omega) | (rw [bne_iff_ne]; omega)) ?_ | refine Vc.CondH.neg (by first | (rw [decide_eq_false_iff_not]; omega) | (rw [beq_eq_false_iff_ne]; omega) | (rw [bne_eq_false_iff_eq]; omega)) ?_); (conv => whnf)))))
            exact ⟨rfl, hstep, ⟨_, _, _, hr2⟩, hx12⟩
          · rw [if_pos (.inl hxz)] at hstep
            ((conv => whnf); repeat (any_goals (first | ((refine SplitH.neg (by rw [decide_eq_false_iff_not]; omega) ?_); (conv => whnf)) | ((refine hmust (by rw [decide_eq_true_eq]; omega) ?_); (conv => whnf)) | ((rw [low7]; refine ArithH.u64 hx64 ?_); (conv => whnf)) | ((refine ArithH.u64 hi7' ?_); (conv => whnf)) | ((refine CondH.pos (by rw [high1, if_pos (by omega)]; rfl) ?_); (conv => whnf)) | ((refine SplitH.pos (by rw [bne_iff_ne]; omega) ?_); (conv => whnf)) | ((refine hmust rfl ?_); (conv => whnf)) | ((with_reducible first | refine Vc.SeqH.go ?_ | refine Vc.StillsH.nil ?_ | refine Vc.CallX.of ?_ | refine Vc.NextX.of ?_ | refine Vc.DrawH.text mixed (by decide +kernel) ?_ | refine Vc.ArithH.i64 (by omega) ?_ | refine Vc.ArithH.u8 (by omega) ?_ | refine Vc.ArithH.u64 (by omega) ?_ | refine Vc.ArithH.u32 (by omega) ?_ | refine Vc.NeedH.mk ⟨by omega, ?_⟩ | refine Vc.QuoH.i64 (by omega) ?_ | refine Vc.RemH.pos (by omega) ?_ | refine Vc.CondH.bnot ?_ | refine Vc.CondH.lit_t ?_ | refine Vc.CondH.lit_f ?_ | refine Vc.SplitH.lit_t ?_ | refine Vc.SplitH.lit_f ?_ | refine Vc.CondH.pos (by first | (rw [decide_eq_true_eq]; omega) | (rw [beq_iff_eq]; omega) | (rw [bne_iff_ne]; omega)) ?_ | refine Vc.CondH.neg (by first | (rw [decide_eq_false_iff_not]; omega) | (rw [beq_eq_false_iff_ne]; omega) | (rw [bne_eq_false_iff_eq]; omega)) ?_); (conv => whnf)))))
            exact ⟨_, _, _, _, hstep, rfl, hr2, hx12⟩
        · rw [if_neg (by omega)] at hstep
          ((conv => whnf); repeat (any_goals (first | ((refine SplitH.neg (by rw [decide_eq_false_iff_not]; omega) ?_); (conv => whnf)) | ((refine hgood (by rw [decide_eq_false_iff_not]; omega) ?_); (conv => whnf)) | ((with_reducible first | refine Vc.SeqH.go ?_ | refine Vc.StillsH.nil ?_ | refine Vc.CallX.of ?_ | refine Vc.NextX.of ?_ | refine Vc.DrawH.text mixed (by decide +kernel) ?_ | refine Vc.ArithH.i64 (by omega) ?_ | refine Vc.ArithH.u8 (by omega) ?_ | refine Vc.ArithH.u64 (by omega) ?_ | refine Vc.ArithH.u32 (by omega) ?_ | refine Vc.NeedH.mk ⟨by omega, ?_⟩ | refine Vc.QuoH.i64 (by omega) ?_ | refine Vc.RemH.pos (by omega) ?_ | refine Vc.CondH.bnot ?_ | refine Vc.CondH.lit_t ?_ | refine Vc.CondH.lit_f ?_ | refine Vc.SplitH.lit_t ?_ | refine Vc.SplitH.lit_f ?_ | refine Vc.CondH.pos (by first | (rw [decide_eq_true_eq]; omega) | (rw [beq_iff_eq]; omega) | (rw [bne_iff_ne]; omega)) ?_ | refine Vc.CondH.neg (by first | (rw [decide_eq_false_iff_not]; omega) | (rw [beq_eq_false_iff_ne]; omega) | (rw [bne_eq_false_iff_eq]; omega)) ?_); (conv => whnf)))))
          exact ⟨rfl, hstep, ⟨_, _, _, hr2⟩, hx12⟩
  · obtain rfl : i = 10 := by omega
    have hno : r0 = none := by rw [hF]; rfl
    ((conv => whnf); repeat (any_goals (first | ((refine SplitH.neg (by rw [decide_eq_false_iff_not]; omega) ?_); (conv => whnf)) | ((refine must_any _ _ _ _ (fun e => by simp at e) fun _ => ?_); (conv => whnf)) | ((with_reducible first | refine Vc.SeqH.go ?_ | refine Vc.StillsH.nil ?_ | refine Vc.CallX.of ?_ | refine Vc.NextX.of ?_ | refine Vc.DrawH.text mixed (by decide +kernel) ?_ | refine Vc.ArithH.i64 (by omega) ?_ | refine Vc.ArithH.u8 (by omega) ?_ | refine Vc.ArithH.u64 (by omega) ?_ | refine Vc.ArithH.u32 (by omega) ?_ | refine Vc.NeedH.mk ⟨by omega, ?_⟩ | refine Vc.QuoH.i64 (by omega) ?_ | refine Vc.RemH.pos (by omega) ?_ | refine Vc.CondH.bnot ?_ | refine Vc.CondH.lit_t ?_ | refine Vc.CondH.lit_f ?_ | refine Vc.SplitH.lit_t ?_ | refine Vc.SplitH.lit_f ?_ | refine Vc.CondH.pos (by first | (rw [decide_eq_true_eq]; omega) | (rw [beq_iff_eq]; omega) | (rw [bne_iff_ne]; omega)) ?_ | refine Vc.CondH.neg (by first | (rw [decide_eq_false_iff_not]; omega) | (rw [beq_eq_false_iff_ne]; omega) | (rw [bne_eq_false_iff_eq]; omega)) ?_); (conv => whnf)))))
    exact ⟨rfl, hno, ⟨_, _, _, hr⟩, hx⟩

theorem numStep_nat (n : Int) (x i : Nat) : 0 ≤ numStep n x i ∧ numStep n x i < 18446744073709551616 := by
  have h := bounds_u64 (wf_bits .or .u64 n (shlB .u64 ((x % 128 : Nat) : Int) (7 * (i : Int))))
  have e : numStep n x i = bits .or .u64 n (shlB .u64 ((x % 128 : Nat) : Int) (7 * (i : Int))) := rfl
  omega
theorem numF_nat : ∀ (k i : Nat) (n : Int) (l : List UInt8) {m : Int} {t : List UInt8}, numF k i n l = some (m, t) → 0 ≤ m ∧ m < 18446744073709551616 ∧ t.length ≤ l.length
  | 0, _, _, _, _, _, h => by simp [numF] at h
  | k + 1, _, _, [], _, _, h => by simp [numF] at h
  | k + 1, i, n, x :: t0, m, t, h => by
    unfold numF at h
    split at h
    · split at h
      · split at h
        · simp only [Option.some.injEq, Prod.mk.injEq] at h
          obtain ⟨rfl, rfl⟩ := h
          have := numStep_nat n x.toNat i
          exact ⟨this.1, this.2, by simp⟩
        · cases h
      · have := numF_nat k (i + 1) _ t0 h
        exact ⟨this.1, this.2.1, by simp only [List.length_cons]; omega⟩
    · cases h

/-- a text at the head of bytes -/
def textF (l : List UInt8) : Option (List UInt8 × List UInt8) :=
  match numF 10 0 0 l with
  | none => none
  | some (n, t) => if n ≤ t.length then some (t.take n.toNat, t.drop n.toNat) else none
theorem text_any (g rb : Nat) (l0 : List UInt8) (a0 : Option Addr) (cap0 : Nat) (H : Heap) (hr0 : Rd H g rb l0 false a0 cap0) :
    CallX Try.prog 50 [.pointer (some ⟨g, 0, none⟩)] H
      (fun v H' => ∃ s t a cap, textF l0 = some (s, t) ∧ v = .string ⟨s.toArray⟩ ∧ Rd H' g rb t false a cap ∧ But g H H')
      (fun c H' => c = stopC ∧ textF l0 = none ∧ (∃ t a cap, Rd H' g rb t false a cap) ∧ But g H H') := by
  unfold textF
  refine Vc.CallX.body Try.func50 Try.call50 rfl (by decide +kernel) rfl ?_
  ((conv => whnf); repeat (any_goals (first | ((refine (num_any g rb l0 a0 cap0 _ hr0).mono ?_ ?_); (conv => whnf)) | ((with_reducible first | refine Vc.SeqH.go ?_ | refine Vc.StillsH.nil ?_ | refine Vc.CallX.of ?_ | refine Vc.NextX.of ?_ | refine Vc.DrawH.text mixed (by decide +kernel) ?_ | refine Vc.ArithH.i64 (by omega) ?_ | refine Vc.ArithH.u8 (by omega) ?_ | refine Vc.ArithH.u64 (by omega) ?_ | refine Vc.ArithH.u32 (by omega) ?_ | refine Vc.NeedH.mk ⟨by omega, ?_⟩ | refine Vc.QuoH.i64 (by omega) ?_ | refine Vc.RemH.pos (by omega) ?_ | refine Vc.CondH.bnot ?_ | refine Vc.CondH.lit_t ?_ | refine Vc.CondH.lit_f ?_ | refine Vc.SplitH.lit_t ?_ | refine Vc.SplitH.lit_f ?_ | refine Vc.CondH.pos (by first | (rw [decide_eq_true_eq]; omega) | (rw [beq_iff_eq]; omega) | (rw [bne_iff_ne]; omega)) ?_ | refine Vc.CondH.neg (by first | (rw [decide_eq_false_iff_not]; omega) | (rw [beq_eq_false_iff_ne]; omega) | (rw [bne_eq_false_iff_eq]; omega)) ?_); (conv => whnf)))))
  · rintro _ H1 ⟨n, t, a, cap, hn, rfl, hr, hx⟩
    have hnn := numF_nat _ _ _ _ hn
    rw [hn]
    dsimp only
    have hb := hr.blk
    have hmx := hr.hmax
    have hcp := hr.hcap
    unfold maxLen at hmx
    by_cases hle : n ≤ (t.length : Int)
    · rw [if_pos hle]
      have hmust : ∀ {b : Bool} {R : Value → Heap → Prop} {X : Panics} {H : Heap}, b = true → R (.tuple #[]) H → CallX Try.prog 62 [.bool b] H R X := fun hb h => must_any _ _ _ _ (fun _ => h) (fun e => by rw [hb] at e; cases e)
      have htl : 0 ≤ (t.length : Int) ∧ (t.length : Int) < 18446744073709551616 := by omega
      have hlt : (t.take n.toNat).length = n.toNat := by rw [List.length_take]; omega
      ((conv => whnf); repeat (any_goals (first | (((with_reducible apply SemH.load_at hb); (focus (rfl)); (focus (rfl))); (conv => whnf)) | ((refine ArithH.u64 htl ?_); (conv => whnf)) | ((refine hmust (by rw [decide_eq_true_eq]; exact hle) ?_); (conv => whnf)) | ((refine BndH.nat n.toNat (by omega) (by omega) ?_); (conv => whnf)) | ((refine to_string' rfl rfl rfl (by rw [← strV_take]; exact hr.row.take n.toNat) hlt ?_); (conv => whnf)) | ((with_reducible first | refine Vc.SeqH.go ?_ | refine Vc.StillsH.nil ?_ | refine Vc.CallX.of ?_ | refine Vc.NextX.of ?_ | refine Vc.DrawH.text mixed (by decide +kernel) ?_ | refine Vc.ArithH.i64 (by omega) ?_ | refine Vc.ArithH.u8 (by omega) ?_ | refine Vc.ArithH.u64 (by omega) ?_ | refine Vc.ArithH.u32 (by omega) ?_ | refine Vc.NeedH.mk ⟨by omega, ?_⟩ | refine Vc.QuoH.i64 (by omega) ?_ | refine Vc.RemH.pos (by omega) ?_ | refine Vc.CondH.bnot ?_ | refine Vc.CondH.lit_t ?_ | refine Vc.CondH.lit_f ?_ | refine Vc.SplitH.lit_t ?_ | refine Vc.SplitH.lit_f ?_ | refine Vc.CondH.pos (by first | (rw [decide_eq_true_eq]; omega) | (rw [beq_iff_eq]; omega) | (rw [bne_iff_ne]; omega)) ?_ | refine Vc.CondH.neg (by first | (rw [decide_eq_false_iff_not]; omega) | (rw [beq_eq_false_iff_ne]; omega) | (rw [bne_eq_false_iff_eq]; omega)) ?_); (conv => whnf)))))
      refine DoH.store1 (o := 0 + 0) hb rfl rfl rfl (by show 0 + 0 < 2; omega) ?_
      intro H2 hs2 hb2 hx2
      ((conv => whnf); repeat (any_goals (first | ((with_reducible first | refine Vc.SeqH.go ?_ | refine Vc.StillsH.nil ?_ | refine Vc.CallX.of ?_ | refine Vc.NextX.of ?_ | refine Vc.DrawH.text mixed (by decide +kernel) ?_ | refine Vc.ArithH.i64 (by omega) ?_ | refine Vc.ArithH.u8 (by omega) ?_ | refine Vc.ArithH.u64 (by omega) ?_ | refine Vc.ArithH.u32 (by omega) ?_ | refine Vc.NeedH.mk ⟨by omega, ?_⟩ | refine Vc.QuoH.i64 (by omega) ?_ | refine Vc.RemH.pos (by omega) ?_ | refine Vc.CondH.bnot ?_ | refine Vc.CondH.lit_t ?_ | refine Vc.CondH.lit_f ?_ | refine Vc.SplitH.lit_t ?_ | refine Vc.SplitH.lit_f ?_ | refine Vc.CondH.pos (by first | (rw [decide_eq_true_eq]; omega) | (rw [beq_iff_eq]; omega) | (rw [bne_iff_ne]; omega)) ?_ | refine Vc.CondH.neg (by first | (rw [decide_eq_false_iff_not]; omega) | (rw [beq_eq_false_iff_ne]; omega) | (rw [bne_eq_false_iff_eq]; omega)) ?_); (conv => whnf)))))
      refine ⟨_, _, _, _, rfl, rfl, ⟨by rw [List.length_drop]; exact hb2, ?_, by rw [List.length_drop]; omega, by unfold maxLen; omega, ?_, hr.ne⟩, hx.trans hx2 fun _ _ => id⟩
      · have := (hr.row.drop cap n.toNat 1 (by rw [strV_length]; omega)).keep hx2 fun p hp hq => by
          obtain ⟨q, h1, h2⟩ := sliceBase_block hp
          exact hr.apart q h1 (h2.trans hq)
        rwa [Nat.mul_one, strV_drop] at this
      · intro p hp
        obtain ⟨q, h1, h2⟩ := sliceBase_block hp
        rw [← h2]; exact hr.inb q h1
    · rw [if_neg hle]
      have hgood : ∀ {b : Bool} {R : Value → Heap → Prop} {X : Panics} {H : Heap}, b = false → X stopC H → CallX Try.prog 62 [.bool b] H R X := fun hb h => must_any _ _ _ _ (fun e => by rw [hb] at e; cases e) (fun _ => h)
      have htl : 0 ≤ (t.length : Int) ∧ (t.length : Int) < 18446744073709551616 := by omega
      ((conv => whnf); repeat (any_goals (first | (((with_reducible apply SemH.load_at hb); (focus (rfl)); (focus (rfl))); (conv => whnf)) | ((refine ArithH.u64 htl ?_); (conv => whnf)) | ((refine hgood (by rw [decide_eq_false_iff_not]; exact hle) ?_); (conv => whnf)) | ((with_reducible first | refine Vc.SeqH.go ?_ | refine Vc.StillsH.nil ?_ | refine Vc.CallX.of ?_ | refine Vc.NextX.of ?_ | refine Vc.DrawH.text mixed (by decide +kernel) ?_ | refine Vc.ArithH.i64 (by omega) ?_ | refine Vc.ArithH.u8 (by omega) ?_ | refine Vc.ArithH.u64 (by omega) ?_ | refine Vc.ArithH.u32 (by omega) ?_ | refine Vc.NeedH.mk ⟨by omega, ?_⟩ | refine Vc.QuoH.i64 (by omega) ?_ | refine Vc.RemH.pos (by omega) ?_ | refine Vc.CondH.bnot ?_ | refine Vc.CondH.lit_t ?_ | refine Vc.CondH.lit_f ?_ | refine Vc.SplitH.lit_t ?_ | refine Vc.SplitH.lit_f ?_ | refine Vc.CondH.pos (by first | (rw [decide_eq_true_eq]; omega) | (rw [beq_iff_eq]; omega) | (rw [bne_iff_ne]; omega)) ?_ | refine Vc.CondH.neg (by first | (rw [decide_eq_false_iff_not]; omega) | (rw [beq_eq_false_iff_ne]; omega) | (rw [bne_eq_false_iff_eq]; omega)) ?_); (conv => whnf)))))
      exact ⟨rfl, rfl, ⟨_, _, _, hr⟩, hx⟩
  · rintro _ H1 ⟨rfl, hn, hr, hx⟩
    rw [hn]
    exact ⟨rfl, rfl, hr, hx⟩

/-- what a closure that reads has: where the reader's address lies, where its result goes -/
structure Cap (H : Heap) (g b0 b1 : Nat) (rb : Nat) : Prop where
  h0 : Blk H b0 #[.pointer (some ⟨g, 0, none⟩)] 77
  n0 : b0 ≠ g
  n1 : b1 ≠ g
  n2 : b0 ≠ b1
  n3 : rb ≠ b1
theorem num1_any (g rb b0 b1 : Nat) (l0 : List UInt8) (a0 : Option Addr) (cap0 : Nat) (H : Heap) (old : Value) (hc : Cap H g b0 b1 rb) (h1 : Blk H b1 #[old] 54) (hr0 : Rd H g rb l0 false a0 cap0) :
    CallX Try.prog 51 [.pointer (some ⟨b0, 0, none⟩), .pointer (some ⟨b1, 0, none⟩)] H
      (fun v H' => ∃ n t a cap, numF 10 0 0 l0 = some (n, t) ∧ Blk H' b1 #[.int .u64 n] 54 ∧ Rd H' g rb t false a cap ∧ Only (fun x => x = g ∨ x = b1) H H')
      (fun c H' => c = stopC ∧ numF 10 0 0 l0 = none ∧ (∃ t a cap, Rd H' g rb t false a cap) ∧ Only (fun x => x = g ∨ x = b1) H H') := by
  have hb0 := hc.h0
  refine Vc.CallX.body Try.func51 Try.call51 rfl (by decide +kernel) rfl ?_
  ((conv => whnf); repeat (any_goals (first | (((with_reducible apply SemH.load_at hb0); (focus (rfl)); (focus (rfl))); (conv => whnf)) | ((refine (num_any g rb l0 a0 cap0 _ hr0).mono ?_ ?_); (conv => whnf)) | ((with_reducible first | refine Vc.SeqH.go ?_ | refine Vc.StillsH.nil ?_ | refine Vc.CallX.of ?_ | refine Vc.NextX.of ?_ | refine Vc.DrawH.text mixed (by decide +kernel) ?_ | refine Vc.ArithH.i64 (by omega) ?_ | refine Vc.ArithH.u8 (by omega) ?_ | refine Vc.ArithH.u64 (by omega) ?_ | refine Vc.ArithH.u32 (by omega) ?_ | refine Vc.NeedH.mk ⟨by omega, ?_⟩ | refine Vc.QuoH.i64 (by omega) ?_ | refine Vc.RemH.pos (by omega) ?_ | refine Vc.CondH.bnot ?_ | refine Vc.CondH.lit_t ?_ | refine Vc.CondH.lit_f ?_ | refine Vc.SplitH.lit_t ?_ | refine Vc.SplitH.lit_f ?_ | refine Vc.CondH.pos (by first | (rw [decide_eq_true_eq]; omega) | (rw [beq_iff_eq]; omega) | (rw [bne_iff_ne]; omega)) ?_ | refine Vc.CondH.neg (by first | (rw [decide_eq_false_iff_not]; omega) | (rw [beq_eq_false_iff_ne]; omega) | (rw [bne_eq_false_iff_eq]; omega)) ?_); (conv => whnf)))))
  · rintro _ H1 ⟨n, t, a, cap, hn, rfl, hr, hx⟩
    ((conv => whnf); repeat (any_goals (first | ((with_reducible first | refine Vc.SeqH.go ?_ | refine Vc.StillsH.nil ?_ | refine Vc.CallX.of ?_ | refine Vc.NextX.of ?_ | refine Vc.DrawH.text mixed (by decide +kernel) ?_ | refine Vc.ArithH.i64 (by omega) ?_ | refine Vc.ArithH.u8 (by omega) ?_ | refine Vc.ArithH.u64 (by omega) ?_ | refine Vc.ArithH.u32 (by omega) ?_ | refine Vc.NeedH.mk ⟨by omega, ?_⟩ | refine Vc.QuoH.i64 (by omega) ?_ | refine Vc.RemH.pos (by omega) ?_ | refine Vc.CondH.bnot ?_ | refine Vc.CondH.lit_t ?_ | refine Vc.CondH.lit_f ?_ | refine Vc.SplitH.lit_t ?_ | refine Vc.SplitH.lit_f ?_ | refine Vc.CondH.pos (by first | (rw [decide_eq_true_eq]; omega) | (rw [beq_iff_eq]; omega) | (rw [bne_iff_ne]; omega)) ?_ | refine Vc.CondH.neg (by first | (rw [decide_eq_false_iff_not]; omega) | (rw [beq_eq_false_iff_ne]; omega) | (rw [bne_eq_false_iff_eq]; omega)) ?_); (conv => whnf)))))
    refine DoH.store1 (o := 0) (h1.but hx hc.n1) rfl rfl rfl (by show 0 < 1; omega) ?_
    intro H2 hs2 hb2 hx2
    ((conv => whnf); repeat (any_goals (first | ((with_reducible first | refine Vc.SeqH.go ?_ | refine Vc.StillsH.nil ?_ | refine Vc.CallX.of ?_ | refine Vc.NextX.of ?_ | refine Vc.DrawH.text mixed (by decide +kernel) ?_ | refine Vc.ArithH.i64 (by omega) ?_ | refine Vc.ArithH.u8 (by omega) ?_ | refine Vc.ArithH.u64 (by omega) ?_ | refine Vc.ArithH.u32 (by omega) ?_ | refine Vc.NeedH.mk ⟨by omega, ?_⟩ | refine Vc.QuoH.i64 (by omega) ?_ | refine Vc.RemH.pos (by omega) ?_ | refine Vc.CondH.bnot ?_ | refine Vc.CondH.lit_t ?_ | refine Vc.CondH.lit_f ?_ | refine Vc.SplitH.lit_t ?_ | refine Vc.SplitH.lit_f ?_ | refine Vc.CondH.pos (by first | (rw [decide_eq_true_eq]; omega) | (rw [beq_iff_eq]; omega) | (rw [bne_iff_ne]; omega)) ?_ | refine Vc.CondH.neg (by first | (rw [decide_eq_false_iff_not]; omega) | (rw [beq_eq_false_iff_ne]; omega) | (rw [bne_eq_false_iff_eq]; omega)) ?_); (conv => whnf)))))
    exact ⟨n, t, a, cap, hn, hb2, hr.keep hx2 (fun e => hc.n1 e.symm) (fun p hp e => hc.n3 ((hr.inb p hp).symm.trans e)), (hx.mono fun _ => .inl).trans hx2 fun _ _ e => .inr e⟩
  · rintro _ H1 ⟨rfl, hn, hr, hx⟩
    exact ⟨rfl, hn, hr, hx.mono fun _ => .inl⟩
theorem text1_any (g rb b0 b1 : Nat) (l0 : List UInt8) (a0 : Option Addr) (cap0 : Nat) (H : Heap) (old : Value) (hc : Cap H g b0 b1 rb) (h1 : Blk H b1 #[old] 9) (hr0 : Rd H g rb l0 false a0 cap0) :
    CallX Try.prog 49 [.pointer (some ⟨b0, 0, none⟩), .pointer (some ⟨b1, 0, none⟩)] H
      (fun v H' => ∃ s t a cap, textF l0 = some (s, t) ∧ Blk H' b1 #[.string ⟨s.toArray⟩] 9 ∧ Rd H' g rb t false a cap ∧ Only (fun x => x = g ∨ x = b1) H H')
      (fun c H' => c = stopC ∧ textF l0 = none ∧ (∃ t a cap, Rd H' g rb t false a cap) ∧ Only (fun x => x = g ∨ x = b1) H H') := by
  have hb0 := hc.h0
  refine Vc.CallX.body Try.func49 Try.call49 rfl (by decide +kernel) rfl ?_
  ((conv => whnf); repeat (any_goals (first | (((with_reducible apply SemH.load_at hb0); (focus (rfl)); (focus (rfl))); (conv => whnf)) | ((refine (text_any g rb l0 a0 cap0 _ hr0).mono ?_ ?_); (conv => whnf)) | ((with_reducible first | refine Vc.SeqH.go ?_ | refine Vc.StillsH.nil ?_ | refine Vc.CallX.of ?_ | refine Vc.NextX.of ?_ | refine Vc.DrawH.text mixed (by decide +kernel) ?_ | refine Vc.ArithH.i64 (by omega) ?_ | refine Vc.ArithH.u8 (by omega) ?_ | refine Vc.ArithH.u64 (by omega) ?_ | refine Vc.ArithH.u32 (by omega) ?_ | refine Vc.NeedH.mk ⟨by omega, ?_⟩ | refine Vc.QuoH.i64 (by omega) ?_ | refine Vc.RemH.pos (by omega) ?_ | refine Vc.CondH.bnot ?_ | refine Vc.CondH.lit_t ?_ | refine Vc.CondH.lit_f ?_ | refine Vc.SplitH.lit_t ?_ | refine Vc.SplitH.lit_f ?_ | refine Vc.CondH.pos (by first | (rw [decide_eq_true_eq]; omega) | (rw [beq_iff_eq]; omega) | (rw [bne_iff_ne]; omega)) ?_ | refine Vc.CondH.neg (by first | (rw [decide_eq_false_iff_not]; omega) | (rw [beq_eq_false_iff_ne]; omega) | (rw [bne_eq_false_iff_eq]; omega)) ?_); (conv => whnf)))))
  · rintro _ H1 ⟨s, t, a, cap, hn, rfl, hr, hx⟩
    ((conv => whnf); repeat (any_goals (first | ((with_reducible first | refine Vc.SeqH.go ?_ | refine Vc.StillsH.nil ?_ | refine Vc.CallX.of ?_ | refine Vc.NextX.of ?_ | refine Vc.DrawH.text mixed (by decide +kernel) ?_ | refine Vc.ArithH.i64 (by omega) ?_ | refine Vc.ArithH.u8 (by omega) ?_ | refine Vc.ArithH.u64 (by omega) ?_ | refine Vc.ArithH.u32 (by omega) ?_ | refine Vc.NeedH.mk ⟨by omega, ?_⟩ | refine Vc.QuoH.i64 (by omega) ?_ | refine Vc.RemH.pos (by omega) ?_ | refine Vc.CondH.bnot ?_ | refine Vc.CondH.lit_t ?_ | refine Vc.CondH.lit_f ?_ | refine Vc.SplitH.lit_t ?_ | refine Vc.SplitH.lit_f ?_ | refine Vc.CondH.pos (by first | (rw [decide_eq_true_eq]; omega) | (rw [beq_iff_eq]; omega) | (rw [bne_iff_ne]; omega)) ?_ | refine Vc.CondH.neg (by first | (rw [decide_eq_false_iff_not]; omega) | (rw [beq_eq_false_iff_ne]; omega) | (rw [bne_eq_false_iff_eq]; omega)) ?_); (conv => whnf)))))
    refine DoH.store1 (o := 0) (h1.but hx hc.n1) rfl rfl rfl (by show 0 < 1; omega) ?_
    intro H2 hs2 hb2 hx2
    ((conv => whnf); repeat (any_goals (first | ((with_reducible first | refine Vc.SeqH.go ?_ | refine Vc.StillsH.nil ?_ | refine Vc.CallX.of ?_ | refine Vc.NextX.of ?_ | refine Vc.DrawH.text mixed (by decide +kernel) ?_ | refine Vc.ArithH.i64 (by omega) ?_ | refine Vc.ArithH.u8 (by omega) ?_ | refine Vc.ArithH.u64 (by omega) ?_ | refine Vc.ArithH.u32 (by omega) ?_ | refine Vc.NeedH.mk ⟨by omega, ?_⟩ | refine Vc.QuoH.i64 (by omega) ?_ | refine Vc.RemH.pos (by omega) ?_ | refine Vc.CondH.bnot ?_ | refine Vc.CondH.lit_t ?_ | refine Vc.CondH.lit_f ?_ | refine Vc.SplitH.lit_t ?_ | refine Vc.SplitH.lit_f ?_ | refine Vc.CondH.pos (by first | (rw [decide_eq_true_eq]; omega) | (rw [beq_iff_eq]; omega) | (rw [bne_iff_ne]; omega)) ?_ | refine Vc.CondH.neg (by first | (rw [decide_eq_false_iff_not]; omega) | (rw [beq_eq_false_iff_ne]; omega) | (rw [bne_eq_false_iff_eq]; omega)) ?_); (conv => whnf)))))
    exact ⟨s, t, a, cap, hn, hb2, hr.keep hx2 (fun e => hc.n1 e.symm) (fun p hp e => hc.n3 ((hr.inb p hp).symm.trans e)), (hx.mono fun _ => .inl).trans hx2 fun _ _ e => .inr e⟩
  · rintro _ H1 ⟨rfl, hn, hr, hx⟩
    exact ⟨rfl, hn, hr, hx.mono fun _ => .inl⟩
end Go.Proofs.Ytipebbbgpkplaaa
