import Derived.Test.YtipebbbgpkplaaaCf
import Derived.Test.YtipebbbgpkplaaaCg
set_option linter.unusedVariables false
set_option maxRecDepth 100000
/- What is written is read again. -/
namespace Go.Proofs.Ytipebbbgpkplaaa
open Go Go.Vc

theorem or_nat (a b : Nat) (ha : a < 18446744073709551616) (hb : b < 18446744073709551616) : bitB .u64 .or (a : Int) (b : Int) = ((a ||| b : Nat) : Int) := by
  have h1 : (BitVec.ofInt 64 (a : Int)).toNat = a := by rw [BitVec.ofInt_natCast, BitVec.toNat_ofNat]; exact Nat.mod_eq_of_lt ha
  have h2 : (BitVec.ofInt 64 (b : Int)).toNat = b := by rw [BitVec.ofInt_natCast, BitVec.toNat_ofNat]; exact Nat.mod_eq_of_lt hb
  show IntKind.u64.wrap (((BitVec.ofInt 64 (a : Int)) ||| (BitVec.ofInt 64 (b : Int))).toNat : Int) = _
  rw [BitVec.toNat_or, h1, h2]
  have : a ||| b < 2 ^ 64 := Nat.or_lt_two_pow ha hb
  exact Go.Vc.wrap_small .u64 rfl (by omega) (by show ((a ||| b : Nat) : Int) < 18446744073709551616; omega)
theorem numStep_add (acc x i : Nat) (hi : i ≤ 9) (ha : acc < 2 ^ (7 * i)) (hs : acc + (x % 128) * 2 ^ (7 * i) < 18446744073709551616) : numStep (acc : Int) x i = ((acc + (x % 128) * 2 ^ (7 * i) : Nat) : Int) := by
  have hsh : shlB .u64 ((x % 128 : Nat) : Int) (7 * (i : Int)) = (((x % 128) * 2 ^ (7 * i) : Nat) : Int) := by
    unfold shlB
    have e : min (7 * (i : Int)).toNat IntKind.u64.bits = 7 * i := by show min (7 * (i : Int)).toNat 64 = _; omega
    rw [e]
    have e2 : ((x % 128 : Nat) : Int) * 2 ^ (7 * i) = (((x % 128) * 2 ^ (7 * i) : Nat) : Int) := by rw [Int.natCast_mul, Int.natCast_pow]; rfl
    rw [e2]
    exact Go.Vc.wrap_small .u64 rfl (by omega) (by show (((x % 128) * 2 ^ (7 * i) : Nat) : Int) < 18446744073709551616; omega)
  unfold numStep
  rw [hsh, or_nat _ _ (by omega) (by omega)]
  congr 1
  have := Nat.shiftLeft_add_eq_or_of_lt ha (x % 128)
  rw [Nat.shiftLeft_eq] at this
  rw [Nat.or_comm, ← this, Nat.add_comm]
theorem numF_enc : ∀ (k i acc q : Nat) (t : List UInt8), k + i = 10 → acc < 2 ^ (7 * i) → acc + q * 2 ^ (7 * i) < 18446744073709551616 → (q ≠ 0 ∨ i = 0) → numF k i (acc : Int) (encN q ++ t) = some (((acc + q * 2 ^ (7 * i) : Nat) : Int), t)
  | 0, i, acc, q, t, hk, ha, hs, hq => by
    obtain rfl : i = 10 := by omega
    have : (2 : Nat) ^ (7 * 10) = 1180591620717411303424 := by decide
    rw [this] at hs
    omega
  | k + 1, i, acc, q, t, hk, ha, hs, hq => by
    have hP : 0 < 2 ^ (7 * i) := Nat.two_pow_pos _
    have h9 : i = 9 → q ≤ 1 := fun e => by
      subst e
      have : (2 : Nat) ^ (7 * 9) = 9223372036854775808 := by decide
      rw [this] at hs
      omega
    by_cases h : q < 128
    · rw [encN_lt h]
      have hx : (UInt8.ofNat q).toNat = q := by rw [UInt8.toNat_ofNat']; omega
      show numF (k + 1) i acc (UInt8.ofNat q :: t) = _
      unfold numF
      rw [hx, if_pos (by omega), if_pos h, if_pos hq, numStep_add acc q i (by omega) ha (by rw [Nat.mod_eq_of_lt h]; exact hs), Nat.mod_eq_of_lt h]
    · rw [encN_ge h]
      have hx : (UInt8.ofNat (q % 128 + 128)).toNat = q % 128 + 128 := by rw [UInt8.toNat_ofNat']; omega
      show numF (k + 1) i acc (UInt8.ofNat (q % 128 + 128) :: (encN (q / 128) ++ t)) = _
      have hm : (q % 128 + 128) % 128 = q % 128 := by omega
      have hPs : (2 : Nat) ^ (7 * (i + 1)) = 128 * 2 ^ (7 * i) := by rw [show 7 * (i + 1) = 7 + 7 * i by omega, Nat.pow_add]
      have hsum : q * 2 ^ (7 * i) = (q % 128) * 2 ^ (7 * i) + (q / 128) * (128 * 2 ^ (7 * i)) := by
        rw [← Nat.mul_assoc, ← Nat.add_mul]
        congr 1
        omega
      have hle : (q % 128) * 2 ^ (7 * i) ≤ 127 * 2 ^ (7 * i) := Nat.mul_le_mul_right _ (by omega)
      unfold numF
      rw [hx, if_pos (by omega), if_neg (by omega), numStep_add acc (q % 128 + 128) i (by omega) ha (by rw [hm]; omega), hm]
      rw [numF_enc k (i + 1) _ (q / 128) t (by omega) (by rw [hPs]; omega) (by rw [hPs]; omega) (.inl (by omega)), hPs]
      congr 3
      omega
theorem numP_enc {n : Nat} (h : n < 18446744073709551616) (t : List UInt8) : numP (some (encN n ++ t)) = ((n : Int), some t) := by
  have := numF_enc 10 0 0 n t rfl (by decide) (by simpa using h) (.inr rfl)
  unfold numP
  dsimp only
  rw [show ((0 : Nat) : Int) = 0 from rfl] at this
  rw [this]
  simp
theorem textP_enc (s t : List UInt8) (h : s.length < 18446744073709551616) : textP (some (encT s ++ t)) = (s, some t) := by
  have := numF_enc 10 0 0 s.length (s ++ t) rfl (by decide) (by simpa using h) (.inr rfl)
  rw [show ((0 : Nat) : Int) = 0 from rfl] at this
  unfold textP textF encT
  rw [List.append_assoc]
  dsimp only
  rw [this]
  simp
  rw [if_pos (by omega)]

/-- a fetch as bytes -/
def encF (f : Fet) : List UInt8 := encT f.b ++ (encN f.fa ++ encN f.sp)
theorem fbytes_any {H : Heap} {base g : Nat} {f : Fet} {a : Option Addr} {cap : Nat} (h : FetO H base g f a cap) (hm : f.b.length ≤ 1000000) (hfa : f.fa ≤ 1000) (hsp : f.sp ≤ 1000) : CallH Try.prog 19 [.pointer (some ⟨g, 0, none⟩)] H fun v H' => v = .string ⟨(encF f).toArray⟩ ∧ Ext H H' := by
  have hb := h.blk
  refine Vc.CallH.body Try.func19 Try.call19 rfl (by decide +kernel) rfl ?_
  ((conv => whnf); repeat (any_goals (first | ((refine (newwriter_any _).mono ?_; rintro _ H1 ⟨rfl, hw1, hx1⟩); (conv => whnf)) | ((with_reducible first | refine Vc.SeqH.go ?_ | refine Vc.StillsH.nil ?_ | refine Vc.CallX.of ?_ | refine Vc.NextX.of ?_ | refine Vc.DrawH.text mixed (by decide +kernel) ?_ | refine Vc.ArithH.i64 (by omega) ?_ | refine Vc.ArithH.u8 (by omega) ?_ | refine Vc.ArithH.u64 (by omega) ?_ | refine Vc.ArithH.u32 (by omega) ?_ | refine Vc.NeedH.mk ⟨by omega, ?_⟩ | refine Vc.QuoH.i64 (by omega) ?_ | refine Vc.RemH.pos (by omega) ?_ | refine Vc.CondH.bnot ?_ | refine Vc.CondH.lit_t ?_ | refine Vc.CondH.lit_f ?_ | refine Vc.SplitH.lit_t ?_ | refine Vc.SplitH.lit_f ?_ | refine Vc.CondH.pos (by first | (rw [decide_eq_true_eq]; omega) | (rw [beq_iff_eq]; omega) | (rw [bne_iff_ne]; omega)) ?_ | refine Vc.CondH.neg (by first | (rw [decide_eq_false_iff_not]; omega) | (rw [beq_eq_false_iff_ne]; omega) | (rw [bne_eq_false_iff_eq]; omega)) ?_); (conv => whnf)))))
  have h1 := h.ext hx1
  have hb1 := h1.blk
  ((conv => whnf); repeat (any_goals (first | (((with_reducible apply SemH.load_at hb1); (focus (rfl)); (focus (rfl))); (conv => whnf)) | ((refine to_string' rfl rfl rfl h1.own.row rfl ?_); (conv => whnf)) | ((with_reducible first | refine Vc.SeqH.go ?_ | refine Vc.StillsH.nil ?_ | refine Vc.CallX.of ?_ | refine Vc.NextX.of ?_ | refine Vc.DrawH.text mixed (by decide +kernel) ?_ | refine Vc.ArithH.i64 (by omega) ?_ | refine Vc.ArithH.u8 (by omega) ?_ | refine Vc.ArithH.u64 (by omega) ?_ | refine Vc.ArithH.u32 (by omega) ?_ | refine Vc.NeedH.mk ⟨by omega, ?_⟩ | refine Vc.QuoH.i64 (by omega) ?_ | refine Vc.RemH.pos (by omega) ?_ | refine Vc.CondH.bnot ?_ | refine Vc.CondH.lit_t ?_ | refine Vc.CondH.lit_f ?_ | refine Vc.SplitH.lit_t ?_ | refine Vc.SplitH.lit_f ?_ | refine Vc.CondH.pos (by first | (rw [decide_eq_true_eq]; omega) | (rw [beq_iff_eq]; omega) | (rw [bne_iff_ne]; omega)) ?_ | refine Vc.CondH.neg (by first | (rw [decide_eq_false_iff_not]; omega) | (rw [beq_eq_false_iff_ne]; omega) | (rw [bne_eq_false_iff_eq]; omega)) ?_); (conv => whnf)))))
  refine SemH.lit (vs := [_]) rfl rfl rfl rfl rfl rfl rfl ?_
  intro H2 hs2 hb2 hx2
  have hw2 := hw1.ext hx2
  replace hb2 : Blk H2 H1.size ([f.b].map fun (s : List UInt8) => Value.string ⟨s.toArray⟩).toArray 9 := hb2
  have hlt1 := hw1.blk.lt
  have htext := wtext_any (n2 := 1) (ss := [f.b]) (cap2 := 1) hw2 hb2.row rfl (by simp; omega) (by omega) (fun p hp hq => by
      cases hp
      rcases hq with hq | ⟨p, hp, hq⟩
      · dsimp only at hq; omega
      · cases hp)
  ((conv => whnf); repeat (any_goals (first | ((refine htext.mono ?_; rintro _ H3 ⟨a3, cap3, hI3⟩); (conv => whnf)) | ((with_reducible first | refine Vc.SeqH.go ?_ | refine Vc.StillsH.nil ?_ | refine Vc.CallX.of ?_ | refine Vc.NextX.of ?_ | refine Vc.DrawH.text mixed (by decide +kernel) ?_ | refine Vc.ArithH.i64 (by omega) ?_ | refine Vc.ArithH.u8 (by omega) ?_ | refine Vc.ArithH.u64 (by omega) ?_ | refine Vc.ArithH.u32 (by omega) ?_ | refine Vc.NeedH.mk ⟨by omega, ?_⟩ | refine Vc.QuoH.i64 (by omega) ?_ | refine Vc.RemH.pos (by omega) ?_ | refine Vc.CondH.bnot ?_ | refine Vc.CondH.lit_t ?_ | refine Vc.CondH.lit_f ?_ | refine Vc.SplitH.lit_t ?_ | refine Vc.SplitH.lit_f ?_ | refine Vc.CondH.pos (by first | (rw [decide_eq_true_eq]; omega) | (rw [beq_iff_eq]; omega) | (rw [bne_iff_ne]; omega)) ?_ | refine Vc.CondH.neg (by first | (rw [decide_eq_false_iff_not]; omega) | (rw [beq_eq_false_iff_ne]; omega) | (rw [bne_eq_false_iff_eq]; omega)) ?_); (conv => whnf)))))
  have hfoot : ∀ x, foot H.size none x → x = H.size := fun x hx => by rcases hx with h | ⟨p, hp, _⟩; exact h; cases hp
  have hx3 : Ext H H3 := Only.trans (hx1.trans hx2) hI3.only fun b hb e => by have := hfoot _ e; omega
  have hb3 := (h.ext hx3).blk
  ((conv => whnf); repeat (any_goals (first | (((with_reducible apply SemH.load_at hb3); (focus (rfl)); (focus (rfl))); (conv => whnf)) | ((refine ArithH.u64 (by omega) ?_); (conv => whnf)) | ((with_reducible first | refine Vc.SeqH.go ?_ | refine Vc.StillsH.nil ?_ | refine Vc.CallX.of ?_ | refine Vc.NextX.of ?_ | refine Vc.DrawH.text mixed (by decide +kernel) ?_ | refine Vc.ArithH.i64 (by omega) ?_ | refine Vc.ArithH.u8 (by omega) ?_ | refine Vc.ArithH.u64 (by omega) ?_ | refine Vc.ArithH.u32 (by omega) ?_ | refine Vc.NeedH.mk ⟨by omega, ?_⟩ | refine Vc.QuoH.i64 (by omega) ?_ | refine Vc.RemH.pos (by omega) ?_ | refine Vc.CondH.bnot ?_ | refine Vc.CondH.lit_t ?_ | refine Vc.CondH.lit_f ?_ | refine Vc.SplitH.lit_t ?_ | refine Vc.SplitH.lit_f ?_ | refine Vc.CondH.pos (by first | (rw [decide_eq_true_eq]; omega) | (rw [beq_iff_eq]; omega) | (rw [bne_iff_ne]; omega)) ?_ | refine Vc.CondH.neg (by first | (rw [decide_eq_false_iff_not]; omega) | (rw [beq_eq_false_iff_ne]; omega) | (rw [bne_eq_false_iff_eq]; omega)) ?_); (conv => whnf)))))
  refine SemH.lit (vs := [_, _]) rfl rfl rfl rfl rfl rfl rfl ?_
  intro H4 hs4 hb4 hx4
  replace hb4 : Blk H4 H3.size ([f.fa, f.sp].map fun (n : Nat) => Value.int .u64 (n : Int)).toArray 54 := hb4
  have hw4 := hI3.w.ext hx4
  have hsz3 := hx3.size
  have hnum := wnum_any (n2 := 2) (ns := [f.fa, f.sp]) (cap2 := 2) hw4 hb4.row rfl (fun n hn => by
      simp only [List.mem_cons, List.not_mem_nil, or_false] at hn
      rcases hn with rfl | rfl <;> omega) (by
      have := encN_len 9 f.b.length (by omega)
      simp [encT]; omega) (by omega) (fun p hp hq => by
      cases hp
      rcases hq with hq | ⟨p, hp, hq⟩
      · dsimp only at hq; have := hI3.w.blk.lt; omega
      · have := hI3.w.own.block p hp; dsimp only at hq; omega)
  ((conv => whnf); repeat (any_goals (first | ((refine hnum.mono ?_; rintro _ H5 ⟨a5, cap5, hI5⟩); (conv => whnf)) | ((with_reducible first | refine Vc.SeqH.go ?_ | refine Vc.StillsH.nil ?_ | refine Vc.CallX.of ?_ | refine Vc.NextX.of ?_ | refine Vc.DrawH.text mixed (by decide +kernel) ?_ | refine Vc.ArithH.i64 (by omega) ?_ | refine Vc.ArithH.u8 (by omega) ?_ | refine Vc.ArithH.u64 (by omega) ?_ | refine Vc.ArithH.u32 (by omega) ?_ | refine Vc.NeedH.mk ⟨by omega, ?_⟩ | refine Vc.QuoH.i64 (by omega) ?_ | refine Vc.RemH.pos (by omega) ?_ | refine Vc.CondH.bnot ?_ | refine Vc.CondH.lit_t ?_ | refine Vc.CondH.lit_f ?_ | refine Vc.SplitH.lit_t ?_ | refine Vc.SplitH.lit_f ?_ | refine Vc.CondH.pos (by first | (rw [decide_eq_true_eq]; omega) | (rw [beq_iff_eq]; omega) | (rw [bne_iff_ne]; omega)) ?_ | refine Vc.CondH.neg (by first | (rw [decide_eq_false_iff_not]; omega) | (rw [beq_eq_false_iff_ne]; omega) | (rw [bne_eq_false_iff_eq]; omega)) ?_); (conv => whnf)))))
  have hfoot5 : ∀ x, foot H.size a3 x → H.size ≤ x := fun x hx => by
    rcases hx with h | ⟨p, hp, h⟩
    · omega
    · have := hI3.w.own.block p hp; omega
  have hx5 : Ext H H5 := Only.trans (hx3.trans hx4) hI5.only fun b hb e => by have := hfoot5 _ e; omega
  have hl5 : ([] ++ List.flatMap encT [f.b]) ++ List.flatMap encN [f.fa, f.sp] = encF f := by simp [encF]
  have hw5 := hI5.w
  rw [hl5] at hw5
  have hlen5 : (encF f).length ≤ 70368744177664 := by
    have := encN_len 9 f.b.length (by omega)
    have := encN_len 9 f.fa (by omega)
    have := encN_len 9 f.sp (by omega)
    simp [encF, encT]; omega
  have hwb := wbytes_any hw5 hlen5
  ((conv => whnf); repeat (any_goals (first | ((refine hwb.mono ?_; rintro _ H6 ⟨⟨a6, cap6, rfl, ho6⟩, hx6⟩); (conv => whnf)) | ((refine to_string' rfl rfl rfl ho6.row rfl ?_); (conv => whnf)) | ((with_reducible first | refine Vc.SeqH.go ?_ | refine Vc.StillsH.nil ?_ | refine Vc.CallX.of ?_ | refine Vc.NextX.of ?_ | refine Vc.DrawH.text mixed (by decide +kernel) ?_ | refine Vc.ArithH.i64 (by omega) ?_ | refine Vc.ArithH.u8 (by omega) ?_ | refine Vc.ArithH.u64 (by omega) ?_ | refine Vc.ArithH.u32 (by omega) ?_ | refine Vc.NeedH.mk ⟨by omega, ?_⟩ | refine Vc.QuoH.i64 (by omega) ?_ | refine Vc.RemH.pos (by omega) ?_ | refine Vc.CondH.bnot ?_ | refine Vc.CondH.lit_t ?_ | refine Vc.CondH.lit_f ?_ | refine Vc.SplitH.lit_t ?_ | refine Vc.SplitH.lit_f ?_ | refine Vc.CondH.pos (by first | (rw [decide_eq_true_eq]; omega) | (rw [beq_iff_eq]; omega) | (rw [bne_iff_ne]; omega)) ?_ | refine Vc.CondH.neg (by first | (rw [decide_eq_false_iff_not]; omega) | (rw [beq_eq_false_iff_ne]; omega) | (rw [bne_eq_false_iff_eq]; omega)) ?_); (conv => whnf)))))
  exact ⟨rfl, hx5.trans hx6⟩

theorem newreader_any {H : Heap} {l : List UInt8} {a : Option Addr} {n cap : Nat} (hr : Row H a (strV l)) (hn : l.length = n) (ha : a = none → n = 0) (hm : n ≤ 140737488355328) (h0 : 0 < H.size) : CallH Try.prog 30 [.slice a n cap] H fun v H' => (∃ g rb, v = .pointer (some ⟨g, 0, none⟩) ∧ RdO H' g rb (some l) ∧ H.size ≤ g ∧ rb < H'.size) ∧ Ext H H' := by
  subst hn
  refine Vc.CallH.body Try.func30 Try.call30 rfl (by decide +kernel) rfl ?_
  ((conv => whnf); repeat (any_goals (first | ((refine (cloneb_any l a _ cap _ hr rfl ha hm).mono ?_; rintro _ H1 ⟨⟨a1, c1, rfl, ho⟩, hx1⟩); (conv => whnf)) | ((with_reducible first | refine Vc.SeqH.go ?_ | refine Vc.StillsH.nil ?_ | refine Vc.CallX.of ?_ | refine Vc.NextX.of ?_ | refine Vc.DrawH.text mixed (by decide +kernel) ?_ | refine Vc.ArithH.i64 (by omega) ?_ | refine Vc.ArithH.u8 (by omega) ?_ | refine Vc.ArithH.u64 (by omega) ?_ | refine Vc.ArithH.u32 (by omega) ?_ | refine Vc.NeedH.mk ⟨by omega, ?_⟩ | refine Vc.QuoH.i64 (by omega) ?_ | refine Vc.RemH.pos (by omega) ?_ | refine Vc.CondH.bnot ?_ | refine Vc.CondH.lit_t ?_ | refine Vc.CondH.lit_f ?_ | refine Vc.SplitH.lit_t ?_ | refine Vc.SplitH.lit_f ?_ | refine Vc.CondH.pos (by first | (rw [decide_eq_true_eq]; omega) | (rw [beq_iff_eq]; omega) | (rw [bne_iff_ne]; omega)) ?_ | refine Vc.CondH.neg (by first | (rw [decide_eq_false_iff_not]; omega) | (rw [beq_eq_false_iff_ne]; omega) | (rw [bne_eq_false_iff_eq]; omega)) ?_); (conv => whnf)))))
  refine PureH.build #[.slice a1 l.length c1, .bool false] (by kernel_rfl) ?_
  ((conv => whnf); repeat (any_goals (first | ((with_reducible first | refine Vc.SeqH.go ?_ | refine Vc.StillsH.nil ?_ | refine Vc.CallX.of ?_ | refine Vc.NextX.of ?_ | refine Vc.DrawH.text mixed (by decide +kernel) ?_ | refine Vc.ArithH.i64 (by omega) ?_ | refine Vc.ArithH.u8 (by omega) ?_ | refine Vc.ArithH.u64 (by omega) ?_ | refine Vc.ArithH.u32 (by omega) ?_ | refine Vc.NeedH.mk ⟨by omega, ?_⟩ | refine Vc.QuoH.i64 (by omega) ?_ | refine Vc.RemH.pos (by omega) ?_ | refine Vc.CondH.bnot ?_ | refine Vc.CondH.lit_t ?_ | refine Vc.CondH.lit_f ?_ | refine Vc.SplitH.lit_t ?_ | refine Vc.SplitH.lit_f ?_ | refine Vc.CondH.pos (by first | (rw [decide_eq_true_eq]; omega) | (rw [beq_iff_eq]; omega) | (rw [bne_iff_ne]; omega)) ?_ | refine Vc.CondH.neg (by first | (rw [decide_eq_false_iff_not]; omega) | (rw [beq_eq_false_iff_ne]; omega) | (rw [bne_eq_false_iff_eq]; omega)) ?_); (conv => whnf)))))
  refine SemH.box ?_
  intro H2 hs2 hb2 hx2
  ((conv => whnf); repeat (any_goals (first | ((with_reducible first | refine Vc.SeqH.go ?_ | refine Vc.StillsH.nil ?_ | refine Vc.CallX.of ?_ | refine Vc.NextX.of ?_ | refine Vc.DrawH.text mixed (by decide +kernel) ?_ | refine Vc.ArithH.i64 (by omega) ?_ | refine Vc.ArithH.u8 (by omega) ?_ | refine Vc.ArithH.u64 (by omega) ?_ | refine Vc.ArithH.u32 (by omega) ?_ | refine Vc.NeedH.mk ⟨by omega, ?_⟩ | refine Vc.QuoH.i64 (by omega) ?_ | refine Vc.RemH.pos (by omega) ?_ | refine Vc.CondH.bnot ?_ | refine Vc.CondH.lit_t ?_ | refine Vc.CondH.lit_f ?_ | refine Vc.SplitH.lit_t ?_ | refine Vc.SplitH.lit_f ?_ | refine Vc.CondH.pos (by first | (rw [decide_eq_true_eq]; omega) | (rw [beq_iff_eq]; omega) | (rw [bne_iff_ne]; omega)) ?_ | refine Vc.CondH.neg (by first | (rw [decide_eq_false_iff_not]; omega) | (rw [beq_eq_false_iff_ne]; omega) | (rw [bne_eq_false_iff_eq]; omega)) ?_); (conv => whnf)))))
  have hc := ho.cap_le
  have hz := hx1.size
  rcases ho.out with ⟨rfl, h1, h2⟩ | ⟨b, cur, rfl, hb, hblk, hc1, hc2, _⟩
  · have hl : l = [] := List.eq_nil_of_length_eq_zero h1
    subst hl
    refine ⟨⟨H1.size, 0, rfl, ⟨none, c1, hb2, ho.row.ext hx2, hc, by unfold maxLen; omega, fun p hp => (by cases hp), by omega⟩, hz, by omega⟩, hx1.trans hx2⟩
  · have := hblk.lt
    exact ⟨⟨H1.size, b, rfl, ⟨_, c1, hb2, ho.row.ext hx2, hc, hc2, fun p hp => (by cases hp; rfl), by omega⟩, hz, by omega⟩, hx1.trans hx2⟩

/-- a fetch from bytes -/
def openF (r : RowF) (l : List UInt8) : Fet :=
  let t := textP (some l)
  let n := numP t.2
  let m := numP n.2
  if m.2 ≠ some [] ∨ (newF r).size < t.1.length ∨ 4 ≤ n.1 ∨ 2 ≤ m.1 then newF r
  else { row := r, b := t.1, fa := n.1.toNat, sp := m.1.toNat, dn := Fet.right { row := r, b := t.1, fa := n.1.toNat, sp := m.1.toNat, dn := (newF r).dn, fl := false }, fl := false }
theorem textP_len (o : Option (List UInt8)) {s : List UInt8} {o' : Option (List UInt8)} (h : textP o = (s, o')) (N : Nat) (hN : ∀ l, o = some l → l.length ≤ N) : s.length ≤ N := by
  cases o with
  | none => unfold textP at h; cases h; simp
  | some l =>
    unfold textP textF at h
    dsimp only at h
    cases hq : numF 10 0 0 l with
    | none => rw [hq] at h; cases h; simp
    | some p =>
      obtain ⟨n, t⟩ := p
      have := numF_nat _ _ _ _ hq
      have := hN l rfl
      rw [hq] at h
      dsimp only at h
      split at h
      · cases h; simp
      · rename_i h2
        split at h2
        · cases h2; cases h; rw [List.length_take]; omega
        · cases h2
theorem numP_nat (o : Option (List UInt8)) : 0 ≤ (numP o).1 := by
  cases o with
  | none => exact Int.le_refl _
  | some l =>
    unfold numP
    dsimp only
    cases hq : numF 10 0 0 l with
    | none => exact Int.le_refl _
    | some p => exact (numF_nat _ _ _ _ hq).1
set_option maxHeartbeats 1000000 in
theorem fopen_any (r : RowF) (hr : r.key.length = 32) (l : List UInt8) (hl : l.length ≤ 1000000000) (H : Heap) : CallH Try.prog 16 [.agg (rowC r), .string ⟨l.toArray⟩] H fun v H' => (∃ g a cap, v = .pointer (some ⟨g, 0, none⟩) ∧ FetO H' H.size g (openF r l) a cap) ∧ Ext H H' := by
  refine Vc.CallH.body Try.func16 Try.call16 rfl (by decide +kernel) rfl ?_
  ((conv => whnf); repeat (any_goals (first | ((with_reducible first | refine Vc.SeqH.go ?_ | refine Vc.StillsH.nil ?_ | refine Vc.CallX.of ?_ | refine Vc.NextX.of ?_ | refine Vc.DrawH.text mixed (by decide +kernel) ?_ | refine Vc.ArithH.i64 (by omega) ?_ | refine Vc.ArithH.u8 (by omega) ?_ | refine Vc.ArithH.u64 (by omega) ?_ | refine Vc.ArithH.u32 (by omega) ?_ | refine Vc.NeedH.mk ⟨by omega, ?_⟩ | refine Vc.QuoH.i64 (by omega) ?_ | refine Vc.RemH.pos (by omega) ?_ | refine Vc.CondH.bnot ?_ | refine Vc.CondH.lit_t ?_ | refine Vc.CondH.lit_f ?_ | refine Vc.SplitH.lit_t ?_ | refine Vc.SplitH.lit_f ?_ | refine Vc.CondH.pos (by first | (rw [decide_eq_true_eq]; omega) | (rw [beq_iff_eq]; omega) | (rw [bne_iff_ne]; omega)) ?_ | refine Vc.CondH.neg (by first | (rw [decide_eq_false_iff_not]; omega) | (rw [beq_eq_false_iff_ne]; omega) | (rw [bne_eq_false_iff_eq]; omega)) ?_); (conv => whnf)))))
  refine SemH.box ?_
  intro H1 hs1 hb1 hx1
  replace hb1 : Blk H1 H.size (rowC r) 33 := hb1
  ((conv => whnf); repeat (any_goals (first | ((with_reducible first | refine Vc.SeqH.go ?_ | refine Vc.StillsH.nil ?_ | refine Vc.CallX.of ?_ | refine Vc.NextX.of ?_ | refine Vc.DrawH.text mixed (by decide +kernel) ?_ | refine Vc.ArithH.i64 (by omega) ?_ | refine Vc.ArithH.u8 (by omega) ?_ | refine Vc.ArithH.u64 (by omega) ?_ | refine Vc.ArithH.u32 (by omega) ?_ | refine Vc.NeedH.mk ⟨by omega, ?_⟩ | refine Vc.QuoH.i64 (by omega) ?_ | refine Vc.RemH.pos (by omega) ?_ | refine Vc.CondH.bnot ?_ | refine Vc.CondH.lit_t ?_ | refine Vc.CondH.lit_f ?_ | refine Vc.SplitH.lit_t ?_ | refine Vc.SplitH.lit_f ?_ | refine Vc.CondH.pos (by first | (rw [decide_eq_true_eq]; omega) | (rw [beq_iff_eq]; omega) | (rw [bne_iff_ne]; omega)) ?_ | refine Vc.CondH.neg (by first | (rw [decide_eq_false_iff_not]; omega) | (rw [beq_eq_false_iff_ne]; omega) | (rw [bne_eq_false_iff_eq]; omega)) ?_); (conv => whnf)))))
  refine SemH.of_string rfl rfl rfl (by show l.length ≤ maxLen; unfold maxLen; omega) ?_
  intro cap2 H2 ho2 hx2
  replace ho2 : Own H2 H1.size 5 1 (some ⟨H1.size, 0, none⟩) l.length cap2 (strV l) := ho2
  have hz2 := hx2.size
  have hnr := newreader_any (cap := cap2) (n := l.length) ho2.row rfl (fun e => by cases e) (by omega) (by omega)
  ((conv => whnf); repeat (any_goals (first | ((refine hnr.mono ?_; rintro _ H3 ⟨⟨g, rb, rfl, hrd3, hg3, hrb3⟩, hx3⟩); (conv => whnf)) | ((with_reducible first | refine Vc.SeqH.go ?_ | refine Vc.StillsH.nil ?_ | refine Vc.CallX.of ?_ | refine Vc.NextX.of ?_ | refine Vc.DrawH.text mixed (by decide +kernel) ?_ | refine Vc.ArithH.i64 (by omega) ?_ | refine Vc.ArithH.u8 (by omega) ?_ | refine Vc.ArithH.u64 (by omega) ?_ | refine Vc.ArithH.u32 (by omega) ?_ | refine Vc.NeedH.mk ⟨by omega, ?_⟩ | refine Vc.QuoH.i64 (by omega) ?_ | refine Vc.RemH.pos (by omega) ?_ | refine Vc.CondH.bnot ?_ | refine Vc.CondH.lit_t ?_ | refine Vc.CondH.lit_f ?_ | refine Vc.SplitH.lit_t ?_ | refine Vc.SplitH.lit_f ?_ | refine Vc.CondH.pos (by first | (rw [decide_eq_true_eq]; omega) | (rw [beq_iff_eq]; omega) | (rw [bne_iff_ne]; omega)) ?_ | refine Vc.CondH.neg (by first | (rw [decide_eq_false_iff_not]; omega) | (rw [beq_eq_false_iff_ne]; omega) | (rw [bne_eq_false_iff_eq]; omega)) ?_); (conv => whnf)))))
  obtain ⟨⟨s, o1⟩, hT⟩ : ∃ p, textP (some l) = p := ⟨_, rfl⟩
  obtain ⟨⟨n, o2⟩, hN⟩ : ∃ p, numP o1 = p := ⟨_, rfl⟩
  obtain ⟨⟨m, o3⟩, hM⟩ : ∃ p, numP o2 = p := ⟨_, rfl⟩
  have hsl := textP_len _ hT 1000000000 (fun l' e => by cases e; exact hl)
  have hn0 : 0 ≤ n := by have := numP_nat o1; rw [hN] at this; exact this
  have hm0 : 0 ≤ m := by have := numP_nat o2; rw [hM] at this; exact this
  have hO : openF r l = if o3 ≠ some [] ∨ (newF r).size < s.length ∨ 4 ≤ n ∨ 2 ≤ m then newF r else { row := r, b := s, fa := n.toNat, sp := m.toNat, dn := Fet.right { row := r, b := s, fa := n.toNat, sp := m.toNat, dn := (newF r).dn, fl := false }, fl := false } := by
    unfold openF; rw [hT]; dsimp only; rw [hN]; dsimp only; rw [hM]
  have hz3 := hx3.size
  ((conv => whnf); repeat (any_goals (first | ((refine (texto_any g rb (some l) _ hrd3 hrb3).mono ?_; rw [hT]; rintro _ H4 ⟨rfl, hrd4, hx4⟩; dsimp only at hrd4); (conv => whnf)) | ((refine (numo_any g rb o1 _ hrd4 (by have := hx4.size; omega)).mono ?_; rw [hN]; rintro _ H5 ⟨rfl, hrd5, hx5⟩; dsimp only at hrd5); (conv => whnf)) | ((refine (numo_any g rb o2 _ hrd5 (by have := hx4.size; have := hx5.size; omega)).mono ?_; rw [hM]; rintro _ H6 ⟨rfl, hrd6, hx6⟩; dsimp only at hrd6); (conv => whnf)) | ((with_reducible first | refine Vc.SeqH.go ?_ | refine Vc.StillsH.nil ?_ | refine Vc.CallX.of ?_ | refine Vc.NextX.of ?_ | refine Vc.DrawH.text mixed (by decide +kernel) ?_ | refine Vc.ArithH.i64 (by omega) ?_ | refine Vc.ArithH.u8 (by omega) ?_ | refine Vc.ArithH.u64 (by omega) ?_ | refine Vc.ArithH.u32 (by omega) ?_ | refine Vc.NeedH.mk ⟨by omega, ?_⟩ | refine Vc.QuoH.i64 (by omega) ?_ | refine Vc.RemH.pos (by omega) ?_ | refine Vc.CondH.bnot ?_ | refine Vc.CondH.lit_t ?_ | refine Vc.CondH.lit_f ?_ | refine Vc.SplitH.lit_t ?_ | refine Vc.SplitH.lit_f ?_ | refine Vc.CondH.pos (by first | (rw [decide_eq_true_eq]; omega) | (rw [beq_iff_eq]; omega) | (rw [bne_iff_ne]; omega)) ?_ | refine Vc.CondH.neg (by first | (rw [decide_eq_false_iff_not]; omega) | (rw [beq_eq_false_iff_ne]; omega) | (rw [bne_eq_false_iff_eq]; omega)) ?_); (conv => whnf)))))
  have hx36 : But g H3 H6 := (hx4.trans hx5 fun _ _ => id).trans hx6 fun _ _ => id
  have hx26 : Ext H2 H6 := hx3.but hx36 hg3
  have hx16 : Ext H1 H6 := hx2.trans hx26
  have hb6 := hb1.ext hx16
  have hz6 := hx16.size
  ((conv => whnf); repeat (any_goals (first | ((refine SemH.load_blk hb6 rfl rfl rfl ?_); (conv => whnf)) | ((refine (new_any r hr _).mono ?_; rintro _ H7 ⟨⟨g7, rfl, hf7⟩, hx7⟩); (conv => whnf)) | ((with_reducible first | refine Vc.SeqH.go ?_ | refine Vc.StillsH.nil ?_ | refine Vc.CallX.of ?_ | refine Vc.NextX.of ?_ | refine Vc.DrawH.text mixed (by decide +kernel) ?_ | refine Vc.ArithH.i64 (by omega) ?_ | refine Vc.ArithH.u8 (by omega) ?_ | refine Vc.ArithH.u64 (by omega) ?_ | refine Vc.ArithH.u32 (by omega) ?_ | refine Vc.NeedH.mk ⟨by omega, ?_⟩ | refine Vc.QuoH.i64 (by omega) ?_ | refine Vc.RemH.pos (by omega) ?_ | refine Vc.CondH.bnot ?_ | refine Vc.CondH.lit_t ?_ | refine Vc.CondH.lit_f ?_ | refine Vc.SplitH.lit_t ?_ | refine Vc.SplitH.lit_f ?_ | refine Vc.CondH.pos (by first | (rw [decide_eq_true_eq]; omega) | (rw [beq_iff_eq]; omega) | (rw [bne_iff_ne]; omega)) ?_ | refine Vc.CondH.neg (by first | (rw [decide_eq_false_iff_not]; omega) | (rw [beq_eq_false_iff_ne]; omega) | (rw [bne_eq_false_iff_eq]; omega)) ?_); (conv => whnf)))))
  have hlow7 := hf7.low
  have e7 : Ext H H7 := (hx1.trans hx16).trans hx7
  have hd7 := done_r g rb o3 H7 (hrd6.ext hx7)
  have hf7' : FetO H7 H.size g7 (newF r) none 0 := ⟨hf7.blk, hf7.own.base (by omega), hf7.apart, by omega, hf7.key⟩
  by_cases h1 : o3 = some []
  · rw [if_pos h1] at hd7
    by_cases h2 : (newF r).size < s.length
    · rw [if_pos (.inr (.inl h2))] at hO
      ((conv => whnf); repeat (any_goals (first | ((refine hd7.mono ?_; rintro _ _ ⟨rfl, rfl⟩); (conv => whnf)) | ((refine SplitH.neg (by decide) ?_); (conv => whnf)) | ((refine (size_any hf7).mono ?_; rintro _ _ ⟨rfl, rfl⟩); (conv => whnf)) | ((refine SplitH.pos (by rw [decide_eq_true_eq]; show ((newF r).size : Int) < (s.length : Int); omega) ?_); (conv => whnf)) | ((with_reducible first | refine Vc.SeqH.go ?_ | refine Vc.StillsH.nil ?_ | refine Vc.CallX.of ?_ | refine Vc.NextX.of ?_ | refine Vc.DrawH.text mixed (by decide +kernel) ?_ | refine Vc.ArithH.i64 (by omega) ?_ | refine Vc.ArithH.u8 (by omega) ?_ | refine Vc.ArithH.u64 (by omega) ?_ | refine Vc.ArithH.u32 (by omega) ?_ | refine Vc.NeedH.mk ⟨by omega, ?_⟩ | refine Vc.QuoH.i64 (by omega) ?_ | refine Vc.RemH.pos (by omega) ?_ | refine Vc.CondH.bnot ?_ | refine Vc.CondH.lit_t ?_ | refine Vc.CondH.lit_f ?_ | refine Vc.SplitH.lit_t ?_ | refine Vc.SplitH.lit_f ?_ | refine Vc.CondH.pos (by first | (rw [decide_eq_true_eq]; omega) | (rw [beq_iff_eq]; omega) | (rw [bne_iff_ne]; omega)) ?_ | refine Vc.CondH.neg (by first | (rw [decide_eq_false_iff_not]; omega) | (rw [beq_eq_false_iff_ne]; omega) | (rw [bne_eq_false_iff_eq]; omega)) ?_); (conv => whnf)))))
      rw [hO]
      exact ⟨⟨_, _, _, rfl, hf7'⟩, e7⟩
    · by_cases h3 : 4 ≤ n
      · rw [if_pos (.inr (.inr (.inl h3)))] at hO
        ((conv => whnf); repeat (any_goals (first | ((refine hd7.mono ?_; rintro _ _ ⟨rfl, rfl⟩); (conv => whnf)) | ((refine SplitH.neg (by decide) ?_); (conv => whnf)) | ((refine (size_any hf7).mono ?_; rintro _ _ ⟨rfl, rfl⟩); (conv => whnf)) | ((refine SplitH.neg (by rw [decide_eq_false_iff_not]; show ¬ ((newF r).size : Int) < (s.length : Int); omega) ?_); (conv => whnf)) | ((refine SplitH.pos (by rw [decide_eq_true_eq]; exact h3) ?_); (conv => whnf)) | ((with_reducible first | refine Vc.SeqH.go ?_ | refine Vc.StillsH.nil ?_ | refine Vc.CallX.of ?_ | refine Vc.NextX.of ?_ | refine Vc.DrawH.text mixed (by decide +kernel) ?_ | refine Vc.ArithH.i64 (by omega) ?_ | refine Vc.ArithH.u8 (by omega) ?_ | refine Vc.ArithH.u64 (by omega) ?_ | refine Vc.ArithH.u32 (by omega) ?_ | refine Vc.NeedH.mk ⟨by omega, ?_⟩ | refine Vc.QuoH.i64 (by omega) ?_ | refine Vc.RemH.pos (by omega) ?_ | refine Vc.CondH.bnot ?_ | refine Vc.CondH.lit_t ?_ | refine Vc.CondH.lit_f ?_ | refine Vc.SplitH.lit_t ?_ | refine Vc.SplitH.lit_f ?_ | refine Vc.CondH.pos (by first | (rw [decide_eq_true_eq]; omega) | (rw [beq_iff_eq]; omega) | (rw [bne_iff_ne]; omega)) ?_ | refine Vc.CondH.neg (by first | (rw [decide_eq_false_iff_not]; omega) | (rw [beq_eq_false_iff_ne]; omega) | (rw [bne_eq_false_iff_eq]; omega)) ?_); (conv => whnf)))))
        rw [hO]
        exact ⟨⟨_, _, _, rfl, hf7'⟩, e7⟩
      · by_cases h4 : 2 ≤ m
        · rw [if_pos (.inr (.inr (.inr h4)))] at hO
          ((conv => whnf); repeat (any_goals (first | ((refine hd7.mono ?_; rintro _ _ ⟨rfl, rfl⟩); (conv => whnf)) | ((refine SplitH.neg (by decide) ?_); (conv => whnf)) | ((refine (size_any hf7).mono ?_; rintro _ _ ⟨rfl, rfl⟩); (conv => whnf)) | ((refine SplitH.neg (by rw [decide_eq_false_iff_not]; show ¬ ((newF r).size : Int) < (s.length : Int); omega) ?_); (conv => whnf)) | ((refine SplitH.neg (by rw [decide_eq_false_iff_not]; exact h3) ?_); (conv => whnf)) | ((refine CondH.pos (by rw [decide_eq_true_eq]; exact h4) ?_); (conv => whnf)) | ((with_reducible first | refine Vc.SeqH.go ?_ | refine Vc.StillsH.nil ?_ | refine Vc.CallX.of ?_ | refine Vc.NextX.of ?_ | refine Vc.DrawH.text mixed (by decide +kernel) ?_ | refine Vc.ArithH.i64 (by omega) ?_ | refine Vc.ArithH.u8 (by omega) ?_ | refine Vc.ArithH.u64 (by omega) ?_ | refine Vc.ArithH.u32 (by omega) ?_ | refine Vc.NeedH.mk ⟨by omega, ?_⟩ | refine Vc.QuoH.i64 (by omega) ?_ | refine Vc.RemH.pos (by omega) ?_ | refine Vc.CondH.bnot ?_ | refine Vc.CondH.lit_t ?_ | refine Vc.CondH.lit_f ?_ | refine Vc.SplitH.lit_t ?_ | refine Vc.SplitH.lit_f ?_ | refine Vc.CondH.pos (by first | (rw [decide_eq_true_eq]; omega) | (rw [beq_iff_eq]; omega) | (rw [bne_iff_ne]; omega)) ?_ | refine Vc.CondH.neg (by first | (rw [decide_eq_false_iff_not]; omega) | (rw [beq_eq_false_iff_ne]; omega) | (rw [bne_eq_false_iff_eq]; omega)) ?_); (conv => whnf)))))
          rw [hO]
          exact ⟨⟨_, _, _, rfl, hf7'⟩, e7⟩
        · rw [if_neg (by intro h; rcases h with h | h | h | h; exact h h1; exact h2 h; exact h3 h; exact h4 h)] at hO
          obtain ⟨n, rfl⟩ : ∃ k : Nat, n = k := ⟨n.toNat, by omega⟩
          obtain ⟨m, rfl⟩ : ∃ k : Nat, m = k := ⟨m.toNat, by omega⟩
          rw [Int.toNat_natCast, Int.toNat_natCast] at hO
          ((conv => whnf); repeat (any_goals (first | ((refine hd7.mono ?_; rintro _ _ ⟨rfl, rfl⟩); (conv => whnf)) | ((refine SplitH.neg (by decide) ?_); (conv => whnf)) | ((refine (size_any hf7).mono ?_; rintro _ _ ⟨rfl, rfl⟩); (conv => whnf)) | ((refine SplitH.neg (by rw [decide_eq_false_iff_not]; show ¬ ((newF r).size : Int) < (s.length : Int); omega) ?_); (conv => whnf)) | ((refine SplitH.neg (by rw [decide_eq_false_iff_not]; exact h3) ?_); (conv => whnf)) | ((refine CondH.neg (by rw [decide_eq_false_iff_not]; exact h4) ?_); (conv => whnf)) | ((with_reducible first | refine Vc.SeqH.go ?_ | refine Vc.StillsH.nil ?_ | refine Vc.CallX.of ?_ | refine Vc.NextX.of ?_ | refine Vc.DrawH.text mixed (by decide +kernel) ?_ | refine Vc.ArithH.i64 (by omega) ?_ | refine Vc.ArithH.u8 (by omega) ?_ | refine Vc.ArithH.u64 (by omega) ?_ | refine Vc.ArithH.u32 (by omega) ?_ | refine Vc.NeedH.mk ⟨by omega, ?_⟩ | refine Vc.QuoH.i64 (by omega) ?_ | refine Vc.RemH.pos (by omega) ?_ | refine Vc.CondH.bnot ?_ | refine Vc.CondH.lit_t ?_ | refine Vc.CondH.lit_f ?_ | refine Vc.SplitH.lit_t ?_ | refine Vc.SplitH.lit_f ?_ | refine Vc.CondH.pos (by first | (rw [decide_eq_true_eq]; omega) | (rw [beq_iff_eq]; omega) | (rw [bne_iff_ne]; omega)) ?_ | refine Vc.CondH.neg (by first | (rw [decide_eq_false_iff_not]; omega) | (rw [beq_eq_false_iff_ne]; omega) | (rw [bne_eq_false_iff_eq]; omega)) ?_); (conv => whnf)))))
          refine SemH.of_string rfl rfl rfl (by show s.length ≤ maxLen; unfold maxLen; omega) ?_
          intro cap8 H8 ho8 hx8
          replace ho8 : Own H8 H7.size 5 1 (some ⟨H7.size, 0, none⟩) s.length cap8 (strV s) := ho8
          have hb8 := hf7.blk.ext hx8
          have hlt7 := hf7.blk.lt
          ((conv => whnf); repeat (any_goals (first | ((refine ArithH.i64 (by omega) ?_); (conv => whnf)) | ((with_reducible first | refine Vc.SeqH.go ?_ | refine Vc.StillsH.nil ?_ | refine Vc.CallX.of ?_ | refine Vc.NextX.of ?_ | refine Vc.DrawH.text mixed (by decide +kernel) ?_ | refine Vc.ArithH.i64 (by omega) ?_ | refine Vc.ArithH.u8 (by omega) ?_ | refine Vc.ArithH.u64 (by omega) ?_ | refine Vc.ArithH.u32 (by omega) ?_ | refine Vc.NeedH.mk ⟨by omega, ?_⟩ | refine Vc.QuoH.i64 (by omega) ?_ | refine Vc.RemH.pos (by omega) ?_ | refine Vc.CondH.bnot ?_ | refine Vc.CondH.lit_t ?_ | refine Vc.CondH.lit_f ?_ | refine Vc.SplitH.lit_t ?_ | refine Vc.SplitH.lit_f ?_ | refine Vc.CondH.pos (by first | (rw [decide_eq_true_eq]; omega) | (rw [beq_iff_eq]; omega) | (rw [bne_iff_ne]; omega)) ?_ | refine Vc.CondH.neg (by first | (rw [decide_eq_false_iff_not]; omega) | (rw [beq_eq_false_iff_ne]; omega) | (rw [bne_eq_false_iff_eq]; omega)) ?_); (conv => whnf)))))
          refine DoH.store1 (o := 0 + 39) hb8 rfl rfl rfl (by show 0 + 39 < 44; omega) ?_
          intro H9 hs9 hb9 hx9
          replace hb9 : Blk H9 g7 (fetC { newF r with b := s } (some ⟨H7.size, 0, none⟩) cap8) 70 := hb9
          ((conv => whnf); repeat (any_goals (first | ((with_reducible first | refine Vc.SeqH.go ?_ | refine Vc.StillsH.nil ?_ | refine Vc.CallX.of ?_ | refine Vc.NextX.of ?_ | refine Vc.DrawH.text mixed (by decide +kernel) ?_ | refine Vc.ArithH.i64 (by omega) ?_ | refine Vc.ArithH.u8 (by omega) ?_ | refine Vc.ArithH.u64 (by omega) ?_ | refine Vc.ArithH.u32 (by omega) ?_ | refine Vc.NeedH.mk ⟨by omega, ?_⟩ | refine Vc.QuoH.i64 (by omega) ?_ | refine Vc.RemH.pos (by omega) ?_ | refine Vc.CondH.bnot ?_ | refine Vc.CondH.lit_t ?_ | refine Vc.CondH.lit_f ?_ | refine Vc.SplitH.lit_t ?_ | refine Vc.SplitH.lit_f ?_ | refine Vc.CondH.pos (by first | (rw [decide_eq_true_eq]; omega) | (rw [beq_iff_eq]; omega) | (rw [bne_iff_ne]; omega)) ?_ | refine Vc.CondH.neg (by first | (rw [decide_eq_false_iff_not]; omega) | (rw [beq_eq_false_iff_ne]; omega) | (rw [bne_eq_false_iff_eq]; omega)) ?_); (conv => whnf)))))
          refine DoH.store1 (o := 0 + 40) hb9 rfl rfl rfl (by show 0 + 40 < 44; omega) ?_
          intro H10 hs10 hb10 hx10
          replace hb10 : Blk H10 g7 (fetC { newF r with b := s, fa := n } (some ⟨H7.size, 0, none⟩) cap8) 70 := hb10
          ((conv => whnf); repeat (any_goals (first | ((with_reducible first | refine Vc.SeqH.go ?_ | refine Vc.StillsH.nil ?_ | refine Vc.CallX.of ?_ | refine Vc.NextX.of ?_ | refine Vc.DrawH.text mixed (by decide +kernel) ?_ | refine Vc.ArithH.i64 (by omega) ?_ | refine Vc.ArithH.u8 (by omega) ?_ | refine Vc.ArithH.u64 (by omega) ?_ | refine Vc.ArithH.u32 (by omega) ?_ | refine Vc.NeedH.mk ⟨by omega, ?_⟩ | refine Vc.QuoH.i64 (by omega) ?_ | refine Vc.RemH.pos (by omega) ?_ | refine Vc.CondH.bnot ?_ | refine Vc.CondH.lit_t ?_ | refine Vc.CondH.lit_f ?_ | refine Vc.SplitH.lit_t ?_ | refine Vc.SplitH.lit_f ?_ | refine Vc.CondH.pos (by first | (rw [decide_eq_true_eq]; omega) | (rw [beq_iff_eq]; omega) | (rw [bne_iff_ne]; omega)) ?_ | refine Vc.CondH.neg (by first | (rw [decide_eq_false_iff_not]; omega) | (rw [beq_eq_false_iff_ne]; omega) | (rw [bne_eq_false_iff_eq]; omega)) ?_); (conv => whnf)))))
          refine DoH.store1 (o := 0 + 41) hb10 rfl rfl rfl (by show 0 + 41 < 44; omega) ?_
          intro H11 hs11 hb11 hx11
          replace hb11 : Blk H11 g7 (fetC { row := r, b := s, fa := n, sp := m, dn := (newF r).dn, fl := false } (some ⟨H7.size, 0, none⟩) cap8) 70 := hb11
          have hne : ∀ p : Addr, some (⟨H7.size, 0, none⟩ : Addr) = some p → p.block ≠ g7 := fun p hp => by cases hp; show H7.size ≠ g7; omega
          have h11 : FetO H11 H.size g7 { row := r, b := s, fa := n, sp := m, dn := (newF r).dn, fl := false } (some ⟨H7.size, 0, none⟩) cap8 := ⟨hb11, (((ho8.keep hx9 hne).keep hx10 hne).keep hx11 hne).base e7.size, hne, by omega, hr⟩
          have hst := settle_any h11 (by show s.length ≤ _; omega)
          ((conv => whnf); repeat (any_goals (first | ((refine hst.mono ?_; rintro _ H12 ⟨rfl, h12, hx12⟩); (conv => whnf)) | ((with_reducible first | refine Vc.SeqH.go ?_ | refine Vc.StillsH.nil ?_ | refine Vc.CallX.of ?_ | refine Vc.NextX.of ?_ | refine Vc.DrawH.text mixed (by decide +kernel) ?_ | refine Vc.ArithH.i64 (by omega) ?_ | refine Vc.ArithH.u8 (by omega) ?_ | refine Vc.ArithH.u64 (by omega) ?_ | refine Vc.ArithH.u32 (by omega) ?_ | refine Vc.NeedH.mk ⟨by omega, ?_⟩ | refine Vc.QuoH.i64 (by omega) ?_ | refine Vc.RemH.pos (by omega) ?_ | refine Vc.CondH.bnot ?_ | refine Vc.CondH.lit_t ?_ | refine Vc.CondH.lit_f ?_ | refine Vc.SplitH.lit_t ?_ | refine Vc.SplitH.lit_f ?_ | refine Vc.CondH.pos (by first | (rw [decide_eq_true_eq]; omega) | (rw [beq_iff_eq]; omega) | (rw [bne_iff_ne]; omega)) ?_ | refine Vc.CondH.neg (by first | (rw [decide_eq_false_iff_not]; omega) | (rw [beq_eq_false_iff_ne]; omega) | (rw [bne_eq_false_iff_eq]; omega)) ?_); (conv => whnf)))))
          rw [hO]
          exact ⟨⟨_, _, _, rfl, h12⟩, Only.trans ((e7.trans hx8)) (((hx9.trans hx10 fun _ _ => id).trans hx11 fun _ _ => id).trans hx12 fun _ _ => id) fun b hb e => by subst e; omega⟩
  · rw [if_neg h1] at hd7
    rw [if_pos (.inl h1)] at hO
    ((conv => whnf); repeat (any_goals (first | ((refine hd7.mono ?_; rintro _ _ ⟨rfl, rfl⟩); (conv => whnf)) | ((refine SplitH.pos (by decide) ?_); (conv => whnf)) | ((with_reducible first | refine Vc.SeqH.go ?_ | refine Vc.StillsH.nil ?_ | refine Vc.CallX.of ?_ | refine Vc.NextX.of ?_ | refine Vc.DrawH.text mixed (by decide +kernel) ?_ | refine Vc.ArithH.i64 (by omega) ?_ | refine Vc.ArithH.u8 (by omega) ?_ | refine Vc.ArithH.u64 (by omega) ?_ | refine Vc.ArithH.u32 (by omega) ?_ | refine Vc.NeedH.mk ⟨by omega, ?_⟩ | refine Vc.QuoH.i64 (by omega) ?_ | refine Vc.RemH.pos (by omega) ?_ | refine Vc.CondH.bnot ?_ | refine Vc.CondH.lit_t ?_ | refine Vc.CondH.lit_f ?_ | refine Vc.SplitH.lit_t ?_ | refine Vc.SplitH.lit_f ?_ | refine Vc.CondH.pos (by first | (rw [decide_eq_true_eq]; omega) | (rw [beq_iff_eq]; omega) | (rw [bne_iff_ne]; omega)) ?_ | refine Vc.CondH.neg (by first | (rw [decide_eq_false_iff_not]; omega) | (rw [beq_eq_false_iff_ne]; omega) | (rw [bne_eq_false_iff_eq]; omega)) ?_); (conv => whnf)))))
    rw [hO]
    exact ⟨⟨_, _, _, rfl, hf7'⟩, e7⟩
end Go.Proofs.Ytipebbbgpkplaaa
