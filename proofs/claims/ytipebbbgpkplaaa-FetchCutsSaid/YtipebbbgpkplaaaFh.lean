import Derived.Test.YtipebbbgpkplaaaFe
import Derived.Test.YtipebbbgpkplaaaCh
set_option linter.unusedVariables false
set_option maxRecDepth 100000
/- A fetch that is stored and opened again goes on where it was: the law's call. -/
namespace Go.Proofs.Ytipebbbgpkplaaa
open Go Go.Vc Go.Sha

theorem open_st {b : List UInt8} {m fa : Nat} (hm : m < b.length) (hb : b.length ≤ 1000000) (hfa : fa < 4) : openF (rowOf b) (encF (St b m fa)) = St b m fa := by
  have hl : (b.take m).length = m := by rw [List.length_take]; omega
  have h1 : textP (some (encF (St b m fa))) = (b.take m, some (encN fa ++ encN 0)) := textP_enc (b.take m) (encN fa ++ encN 0) (by omega)
  have h2 : numP (some (encN fa ++ encN 0)) = ((fa : Int), some (encN 0)) := numP_enc (by omega) _
  have h3 : numP (some (encN 0)) = (0, some []) := by have := numP_enc (n := 0) (by omega) []; rw [List.append_nil] at this; exact this
  have hs : (newF (rowOf b)).size = b.length := by show (max (b.length : Int) 0).toNat = _; omega
  unfold openF
  dsimp only
  rw [h1]
  dsimp only
  rw [h2]
  dsimp only
  rw [h3]
  dsimp only
  rw [if_neg (by rw [hs, hl]; intro h; rcases h with h | h | h | h; exact h rfl; omega; omega; omega)]
  unfold St
  rw [Int.toNat_natCast]
  congr 1
  unfold Fet.right
  show ((b.take m).length == (max (b.length : Int) 0).toNat && _) = _
  have e1 : ((b.take m).length == (max (b.length : Int) 0).toNat) = false := by rw [beq_eq_false_iff_ne, hl]; omega
  have e2 : decide (m = b.length) = false := by rw [decide_eq_false_iff_not]; omega
  rw [e1, e2]; rfl
structure Ct where
  k : Nat
  m : Nat
  ff : Nat
  g : Nat
  a : Option Addr
  cap : Nat
structure CtI (N : Nat) (s : Ct) : Prop where
  m : s.m ≤ N
  ff : s.ff ≤ s.k % 3
  k : s.k ≤ s.m
set_option maxHeartbeats 4000000 in
theorem cuts_any (n : Int) (fl : List UInt8) (fa : Option Addr) (nf capf : Nat) (al : List Value) (aa : Option Addr) (na capa : Nat) (H : Heap) (hn : 0 ≤ n ∧ n ≤ 65535) (hfr : Row H fa (strV fl)) (hfl : fl.length = nf) (hfm : nf ≤ maxLen) (har : Row H aa al) (hal : al.length = na) (ham : na ≤ maxLen) (hbool : ∀ v ∈ al, ∃ b, v = Value.bool b) :
    CallH Try.prog 5 [.int .u16 n, .slice fa nf capf, .slice aa na capa] H fun v H' => v = .bool true ∧ Ext H H' := by
  unfold maxLen at hfm ham
  refine Vc.CallH.body Try.func5 Try.call5 rfl (by decide +kernel) rfl ?_
  ((conv => whnf); repeat (any_goals (first | ((refine (known20_any _).mono ?_; rintro _ H1 ⟨rfl, hx1⟩); (conv => whnf)) | ((with_reducible first | refine Vc.SeqH.go ?_ | refine Vc.StillsH.nil ?_ | refine Vc.CallX.of ?_ | refine Vc.NextX.of ?_ | refine Vc.DrawH.text mixed (by decide +kernel) ?_ | refine Vc.ArithH.i64 (by omega) ?_ | refine Vc.ArithH.u8 (by omega) ?_ | refine Vc.ArithH.u64 (by omega) ?_ | refine Vc.ArithH.u32 (by omega) ?_ | refine Vc.NeedH.mk ⟨by omega, ?_⟩ | refine Vc.QuoH.i64 (by omega) ?_ | refine Vc.RemH.pos (by omega) ?_ | refine Vc.CondH.bnot ?_ | refine Vc.CondH.lit_t ?_ | refine Vc.CondH.lit_f ?_ | refine Vc.SplitH.lit_t ?_ | refine Vc.SplitH.lit_f ?_ | refine Vc.CondH.pos (by first | (rw [decide_eq_true_eq]; omega) | (rw [beq_iff_eq]; omega) | (rw [bne_iff_ne]; omega)) ?_ | refine Vc.CondH.neg (by first | (rw [decide_eq_false_iff_not]; omega) | (rw [beq_eq_false_iff_ne]; omega) | (rw [bne_eq_false_iff_eq]; omega)) ?_); (conv => whnf)))))
  by_cases h60 : 30 < nf
  · ((conv => whnf); repeat (any_goals (first | ((refine SplitH.pos (by rw [decide_eq_true_eq]; omega) ?_); (conv => whnf)) | ((with_reducible first | refine Vc.SeqH.go ?_ | refine Vc.StillsH.nil ?_ | refine Vc.CallX.of ?_ | refine Vc.NextX.of ?_ | refine Vc.DrawH.text mixed (by decide +kernel) ?_ | refine Vc.ArithH.i64 (by omega) ?_ | refine Vc.ArithH.u8 (by omega) ?_ | refine Vc.ArithH.u64 (by omega) ?_ | refine Vc.ArithH.u32 (by omega) ?_ | refine Vc.NeedH.mk ⟨by omega, ?_⟩ | refine Vc.QuoH.i64 (by omega) ?_ | refine Vc.RemH.pos (by omega) ?_ | refine Vc.CondH.bnot ?_ | refine Vc.CondH.lit_t ?_ | refine Vc.CondH.lit_f ?_ | refine Vc.SplitH.lit_t ?_ | refine Vc.SplitH.lit_f ?_ | refine Vc.CondH.pos (by first | (rw [decide_eq_true_eq]; omega) | (rw [beq_iff_eq]; omega) | (rw [bne_iff_ne]; omega)) ?_ | refine Vc.CondH.neg (by first | (rw [decide_eq_false_iff_not]; omega) | (rw [beq_eq_false_iff_ne]; omega) | (rw [bne_eq_false_iff_eq]; omega)) ?_); (conv => whnf)))))
    exact ⟨rfl, hx1⟩
  by_cases hna : na < nf
  · ((conv => whnf); repeat (any_goals (first | ((refine SplitH.neg (by rw [decide_eq_false_iff_not]; omega) ?_); (conv => whnf)) | ((refine CondH.pos (by rw [decide_eq_true_eq]; omega) ?_); (conv => whnf)) | ((with_reducible first | refine Vc.SeqH.go ?_ | refine Vc.StillsH.nil ?_ | refine Vc.CallX.of ?_ | refine Vc.NextX.of ?_ | refine Vc.DrawH.text mixed (by decide +kernel) ?_ | refine Vc.ArithH.i64 (by omega) ?_ | refine Vc.ArithH.u8 (by omega) ?_ | refine Vc.ArithH.u64 (by omega) ?_ | refine Vc.ArithH.u32 (by omega) ?_ | refine Vc.NeedH.mk ⟨by omega, ?_⟩ | refine Vc.QuoH.i64 (by omega) ?_ | refine Vc.RemH.pos (by omega) ?_ | refine Vc.CondH.bnot ?_ | refine Vc.CondH.lit_t ?_ | refine Vc.CondH.lit_f ?_ | refine Vc.SplitH.lit_t ?_ | refine Vc.SplitH.lit_f ?_ | refine Vc.CondH.pos (by first | (rw [decide_eq_true_eq]; omega) | (rw [beq_iff_eq]; omega) | (rw [bne_iff_ne]; omega)) ?_ | refine Vc.CondH.neg (by first | (rw [decide_eq_false_iff_not]; omega) | (rw [beq_eq_false_iff_ne]; omega) | (rw [bne_eq_false_iff_eq]; omega)) ?_); (conv => whnf)))))
    exact ⟨rfl, hx1⟩
  obtain ⟨N, hN⟩ : ∃ N : Nat, n % 500 = N := ⟨(n % 500).toNat, by omega⟩
  have hlen := madeL_length N
  have hmade := made_any N (by omega) H1
  ((conv => whnf); repeat (any_goals (first | ((refine SplitH.neg (by rw [decide_eq_false_iff_not]; omega) ?_); (conv => whnf)) | ((refine CondH.neg (by rw [decide_eq_false_iff_not]; omega) ?_); (conv => whnf)) | ((rw [hN]; refine ArithH.i64 (by omega) ?_); (conv => whnf)) | ((refine hmade.mono ?_; rintro _ H2 ⟨rfl, ho2, hx2⟩); (conv => whnf)) | ((with_reducible first | refine Vc.SeqH.go ?_ | refine Vc.StillsH.nil ?_ | refine Vc.CallX.of ?_ | refine Vc.NextX.of ?_ | refine Vc.DrawH.text mixed (by decide +kernel) ?_ | refine Vc.ArithH.i64 (by omega) ?_ | refine Vc.ArithH.u8 (by omega) ?_ | refine Vc.ArithH.u64 (by omega) ?_ | refine Vc.ArithH.u32 (by omega) ?_ | refine Vc.NeedH.mk ⟨by omega, ?_⟩ | refine Vc.QuoH.i64 (by omega) ?_ | refine Vc.RemH.pos (by omega) ?_ | refine Vc.CondH.bnot ?_ | refine Vc.CondH.lit_t ?_ | refine Vc.CondH.lit_f ?_ | refine Vc.SplitH.lit_t ?_ | refine Vc.SplitH.lit_f ?_ | refine Vc.CondH.pos (by first | (rw [decide_eq_true_eq]; omega) | (rw [beq_iff_eq]; omega) | (rw [bne_iff_ne]; omega)) ?_ | refine Vc.CondH.neg (by first | (rw [decide_eq_false_iff_not]; omega) | (rw [beq_eq_false_iff_ne]; omega) | (rw [bne_eq_false_iff_eq]; omega)) ?_); (conv => whnf)))))
  have hrow := row_any (madeL N) _ N N 0 H2 (by decide) ho2.row hlen (Nat.le_refl _) (by omega)
  rw [show (0 : Int).toNat = 0 from rfl, lieR_zero] at hrow
  have hnew := fun H => new_any (rowOf (madeL N)) (sumL_length _) H
  rw [newF_row] at hnew
  generalize hB : madeL N = B at *
  have hkey : (rowOf B).key.length = 32 := sumL_length _
  ((conv => whnf); repeat (any_goals (first | ((refine hrow.mono ?_; rintro _ H3 ⟨rfl, hx3⟩); (conv => whnf)) | ((with_reducible first | refine Vc.SeqH.go ?_ | refine Vc.StillsH.nil ?_ | refine Vc.CallX.of ?_ | refine Vc.NextX.of ?_ | refine Vc.DrawH.text mixed (by decide +kernel) ?_ | refine Vc.ArithH.i64 (by omega) ?_ | refine Vc.ArithH.u8 (by omega) ?_ | refine Vc.ArithH.u64 (by omega) ?_ | refine Vc.ArithH.u32 (by omega) ?_ | refine Vc.NeedH.mk ⟨by omega, ?_⟩ | refine Vc.QuoH.i64 (by omega) ?_ | refine Vc.RemH.pos (by omega) ?_ | refine Vc.CondH.bnot ?_ | refine Vc.CondH.lit_t ?_ | refine Vc.CondH.lit_f ?_ | refine Vc.SplitH.lit_t ?_ | refine Vc.SplitH.lit_f ?_ | refine Vc.CondH.pos (by first | (rw [decide_eq_true_eq]; omega) | (rw [beq_iff_eq]; omega) | (rw [bne_iff_ne]; omega)) ?_ | refine Vc.CondH.neg (by first | (rw [decide_eq_false_iff_not]; omega) | (rw [beq_eq_false_iff_ne]; omega) | (rw [bne_eq_false_iff_eq]; omega)) ?_); (conv => whnf)))))
  refine SemH.alloc rfl rfl ?_
  intro H4 hs4 hb4 hx4
  ((conv => whnf); repeat (any_goals (first | ((with_reducible first | refine Vc.SeqH.go ?_ | refine Vc.StillsH.nil ?_ | refine Vc.CallX.of ?_ | refine Vc.NextX.of ?_ | refine Vc.DrawH.text mixed (by decide +kernel) ?_ | refine Vc.ArithH.i64 (by omega) ?_ | refine Vc.ArithH.u8 (by omega) ?_ | refine Vc.ArithH.u64 (by omega) ?_ | refine Vc.ArithH.u32 (by omega) ?_ | refine Vc.NeedH.mk ⟨by omega, ?_⟩ | refine Vc.QuoH.i64 (by omega) ?_ | refine Vc.RemH.pos (by omega) ?_ | refine Vc.CondH.bnot ?_ | refine Vc.CondH.lit_t ?_ | refine Vc.CondH.lit_f ?_ | refine Vc.SplitH.lit_t ?_ | refine Vc.SplitH.lit_f ?_ | refine Vc.CondH.pos (by first | (rw [decide_eq_true_eq]; omega) | (rw [beq_iff_eq]; omega) | (rw [bne_iff_ne]; omega)) ?_ | refine Vc.CondH.neg (by first | (rw [decide_eq_false_iff_not]; omega) | (rw [beq_eq_false_iff_ne]; omega) | (rw [bne_eq_false_iff_eq]; omega)) ?_); (conv => whnf)))))
  refine DoH.put_all hb4 rfl rfl rfl rfl ?_
  intro H5 hs5 hb5 hx5
  ((conv => whnf); repeat (any_goals (first | ((refine SemH.load_blk hb5 rfl rfl rfl ?_); (conv => whnf)) | ((refine (hnew _).mono ?_; rintro _ H6 ⟨⟨g0, rfl, hf6⟩, hx6⟩); (conv => whnf)) | ((with_reducible first | refine Vc.SeqH.go ?_ | refine Vc.StillsH.nil ?_ | refine Vc.CallX.of ?_ | refine Vc.NextX.of ?_ | refine Vc.DrawH.text mixed (by decide +kernel) ?_ | refine Vc.ArithH.i64 (by omega) ?_ | refine Vc.ArithH.u8 (by omega) ?_ | refine Vc.ArithH.u64 (by omega) ?_ | refine Vc.ArithH.u32 (by omega) ?_ | refine Vc.NeedH.mk ⟨by omega, ?_⟩ | refine Vc.QuoH.i64 (by omega) ?_ | refine Vc.RemH.pos (by omega) ?_ | refine Vc.CondH.bnot ?_ | refine Vc.CondH.lit_t ?_ | refine Vc.CondH.lit_f ?_ | refine Vc.SplitH.lit_t ?_ | refine Vc.SplitH.lit_f ?_ | refine Vc.CondH.pos (by first | (rw [decide_eq_true_eq]; omega) | (rw [beq_iff_eq]; omega) | (rw [bne_iff_ne]; omega)) ?_ | refine Vc.CondH.neg (by first | (rw [decide_eq_false_iff_not]; omega) | (rw [beq_eq_false_iff_ne]; omega) | (rw [bne_eq_false_iff_eq]; omega)) ?_); (conv => whnf)))))
  have hNb : N ≤ 499 := by omega
  have hx5' : Ext H H5 := ((((hx1.trans hx2).trans hx3).trans hx4).but hx5 (by have := hx1.size; have := hx2.size; have := hx3.size; omega))
  have hrB5 : Row H5 (some ⟨H1.size, 0, none⟩) (strV B) := ((ho2.row.ext hx3).ext hx4).keep hx5 fun p hp e => by cases hp; have := ho2.block _ rfl; have := hx3.size; dsimp only at *; omega
  have hrB6 := hrB5.ext hx6
  have hrF6 := (hfr.ext hx5').ext hx6
  have hrA6 := (har.ext hx5').ext hx6
  have hz12 := ho2.block _ rfl
  have hz5 := hx5'.size
  have hzz : H2.size ≤ H5.size := by have := hx3.size; have := hx4.size; have := hx5.size; omega
  have hlt5 := hb5.lt
  refine LoopH.intro (fun (s : Ct) => [(9, .pointer (some ⟨s.g, 0, none⟩)), (10, .int .i64 s.k)])
    (fun s H' => CtI N s ∧ FetO H' H5.size s.g (St B s.m s.ff) s.a s.cap ∧ Only (fun x => H5.size ≤ x) H6 H') (fun s => N - s.m) ⟨0, 0, 0, g0, none, 0⟩ ⟨rfl, rfl, trivial⟩ ⟨⟨Nat.zero_le _, Nat.zero_le _, Nat.zero_le _⟩, hf6, Only.refl _ _⟩ ?_
  rintro ⟨k, m, ff, g, a, cap⟩ H7 ⟨hI, hf7, hx7⟩
  obtain ⟨hm, hff, hkm⟩ := hI
  dsimp only at hm hff hkm hf7 hx7 ⊢
  have hz6 := hx6.size
  have hz7 := hx7.size
  have keepB : ∀ {H' : Heap}, Only (fun x => H5.size ≤ x) H6 H' → Row H' (some ⟨H1.size, 0, none⟩) (strV B) := fun {H'} hx => hrB6.keep hx fun p hp hq => by cases hp; dsimp only at *; omega
  have keepR : ∀ {H' : Heap}, Only (fun x => H5.size ≤ x) H6 H' → Blk H' H3.size (rowC (rowOf B)) 33 := fun {H'} hx => (Blk.ext hb5 hx6).keep hx fun hq => by omega
  have keepF : ∀ {H' : Heap}, Only (fun x => H5.size ≤ x) H6 H' → Row H' fa (strV fl) := fun {H'} hx => by
    refine hrF6.keep' hx fun h0 p hp hq => ?_
    obtain ⟨b, o, hb1, hb2, _⟩ := hfr.at (by cases fl with | nil => exact absurd rfl h0 | cons x t => simp [strV])
    rw [hb1] at hp; cases hp; dsimp only at *; omega
  have keepA : ∀ {H' : Heap}, Only (fun x => H5.size ≤ x) H6 H' → Row H' aa al := fun {H'} hx => by
    refine hrA6.keep' hx fun h0 p hp hq => ?_
    obtain ⟨b, o, hb1, hb2, _⟩ := har.at (by cases al with | nil => exact absurd rfl h0 | cons x t => simp)
    rw [hb1] at hp; cases hp; dsimp only at *; omega
  by_cases hmN : m < N
  · have hmB : m < B.length := by omega
    have haskv := st_ask hf7 hmB (by omega)
    rw [hlen] at haskv
    have hw0 : 0 < min 64 (N - m) := by omega
    obtain ⟨w, hw⟩ : ∃ w, w = min 64 (N - m) := ⟨_, rfl⟩
    rw [← hw] at haskv hw0
    ((conv => whnf); repeat (any_goals (first | ((refine haskv.mono ?_; rintro _ H8 ⟨rfl, hx8⟩); (conv => whnf)) | ((with_reducible first | refine Vc.StillsH.nil ?_ | refine Vc.CallX.of ?_ | refine Vc.NextX.of ?_ | refine Vc.DrawH.text mixed (by decide +kernel) ?_ | refine Vc.ArithH.i64 (by omega) ?_ | refine Vc.ArithH.u8 (by omega) ?_ | refine Vc.ArithH.u64 (by omega) ?_ | refine Vc.ArithH.u32 (by omega) ?_ | refine Vc.NeedH.mk ⟨by omega, ?_⟩ | refine Vc.QuoH.i64 (by omega) ?_ | refine Vc.RemH.pos (by omega) ?_ | refine Vc.CondH.bnot ?_ | refine Vc.CondH.lit_t ?_ | refine Vc.CondH.lit_f ?_ | refine Vc.SplitH.lit_t ?_ | refine Vc.SplitH.lit_f ?_ | refine Vc.CondH.pos (by first | (rw [decide_eq_true_eq]; omega) | (rw [beq_iff_eq]; omega) | (rw [bne_iff_ne]; omega)) ?_ | refine Vc.CondH.neg (by first | (rw [decide_eq_false_iff_not]; omega) | (rw [beq_eq_false_iff_ne]; omega) | (rw [bne_eq_false_iff_eq]; omega)) ?_); (conv => whnf)))))
    refine SeqH.go ?_
    ((conv => whnf); repeat (any_goals (first | ((refine haskv.mono ?_; rintro _ H8 ⟨rfl, hx8⟩); (conv => whnf)) | ((with_reducible first | refine Vc.StillsH.nil ?_ | refine Vc.CallX.of ?_ | refine Vc.NextX.of ?_ | refine Vc.DrawH.text mixed (by decide +kernel) ?_ | refine Vc.ArithH.i64 (by omega) ?_ | refine Vc.ArithH.u8 (by omega) ?_ | refine Vc.ArithH.u64 (by omega) ?_ | refine Vc.ArithH.u32 (by omega) ?_ | refine Vc.NeedH.mk ⟨by omega, ?_⟩ | refine Vc.QuoH.i64 (by omega) ?_ | refine Vc.RemH.pos (by omega) ?_ | refine Vc.CondH.bnot ?_ | refine Vc.CondH.lit_t ?_ | refine Vc.CondH.lit_f ?_ | refine Vc.SplitH.lit_t ?_ | refine Vc.SplitH.lit_f ?_ | refine Vc.CondH.pos (by first | (rw [decide_eq_true_eq]; omega) | (rw [beq_iff_eq]; omega) | (rw [bne_iff_ne]; omega)) ?_ | refine Vc.CondH.neg (by first | (rw [decide_eq_false_iff_not]; omega) | (rw [beq_eq_false_iff_ne]; omega) | (rw [bne_eq_false_iff_eq]; omega)) ?_); (conv => whnf)))))
    refine SemH.alloc rfl rfl ?_
    intro H9 hs9 hb9 hx9
    ((conv => whnf); repeat (any_goals (first | ((with_reducible first | refine Vc.StillsH.nil ?_ | refine Vc.CallX.of ?_ | refine Vc.NextX.of ?_ | refine Vc.DrawH.text mixed (by decide +kernel) ?_ | refine Vc.ArithH.i64 (by omega) ?_ | refine Vc.ArithH.u8 (by omega) ?_ | refine Vc.ArithH.u64 (by omega) ?_ | refine Vc.ArithH.u32 (by omega) ?_ | refine Vc.NeedH.mk ⟨by omega, ?_⟩ | refine Vc.QuoH.i64 (by omega) ?_ | refine Vc.RemH.pos (by omega) ?_ | refine Vc.CondH.bnot ?_ | refine Vc.CondH.lit_t ?_ | refine Vc.CondH.lit_f ?_ | refine Vc.SplitH.lit_t ?_ | refine Vc.SplitH.lit_f ?_ | refine Vc.CondH.pos (by first | (rw [decide_eq_true_eq]; omega) | (rw [beq_iff_eq]; omega) | (rw [bne_iff_ne]; omega)) ?_ | refine Vc.CondH.neg (by first | (rw [decide_eq_false_iff_not]; omega) | (rw [beq_eq_false_iff_ne]; omega) | (rw [bne_eq_false_iff_eq]; omega)) ?_); (conv => whnf)))))
    refine DoH.put_all hb9 rfl rfl rfl rfl ?_
    intro H10 hs10 hb10 hx10
    have hz8 := hx8.size
    have e710 : Ext H7 H10 := (hx8.trans hx9).but hx10 hz8
    ((conv => whnf); repeat (any_goals (first | ((with_reducible first | refine Vc.StillsH.nil ?_ | refine Vc.CallX.of ?_ | refine Vc.NextX.of ?_ | refine Vc.DrawH.text mixed (by decide +kernel) ?_ | refine Vc.ArithH.i64 (by omega) ?_ | refine Vc.ArithH.u8 (by omega) ?_ | refine Vc.ArithH.u64 (by omega) ?_ | refine Vc.ArithH.u32 (by omega) ?_ | refine Vc.NeedH.mk ⟨by omega, ?_⟩ | refine Vc.QuoH.i64 (by omega) ?_ | refine Vc.RemH.pos (by omega) ?_ | refine Vc.CondH.bnot ?_ | refine Vc.CondH.lit_t ?_ | refine Vc.CondH.lit_f ?_ | refine Vc.SplitH.lit_t ?_ | refine Vc.SplitH.lit_f ?_ | refine Vc.CondH.pos (by first | (rw [decide_eq_true_eq]; omega) | (rw [beq_iff_eq]; omega) | (rw [bne_iff_ne]; omega)) ?_ | refine Vc.CondH.neg (by first | (rw [decide_eq_false_iff_not]; omega) | (rw [beq_eq_false_iff_ne]; omega) | (rw [bne_eq_false_iff_eq]; omega)) ?_); (conv => whnf)))))
    refine SeqH.go ?_
    ((conv => whnf); repeat (any_goals (first | (((with_reducible apply SemH.load_at hb10); (focus (rfl)); (focus (rfl))); (conv => whnf)) | ((with_reducible first | refine Vc.StillsH.nil ?_ | refine Vc.CallX.of ?_ | refine Vc.NextX.of ?_ | refine Vc.DrawH.text mixed (by decide +kernel) ?_ | refine Vc.ArithH.i64 (by omega) ?_ | refine Vc.ArithH.u8 (by omega) ?_ | refine Vc.ArithH.u64 (by omega) ?_ | refine Vc.ArithH.u32 (by omega) ?_ | refine Vc.NeedH.mk ⟨by omega, ?_⟩ | refine Vc.QuoH.i64 (by omega) ?_ | refine Vc.RemH.pos (by omega) ?_ | refine Vc.CondH.bnot ?_ | refine Vc.CondH.lit_t ?_ | refine Vc.CondH.lit_f ?_ | refine Vc.SplitH.lit_t ?_ | refine Vc.SplitH.lit_f ?_ | refine Vc.CondH.pos (by first | (rw [decide_eq_true_eq]; omega) | (rw [beq_iff_eq]; omega) | (rw [bne_iff_ne]; omega)) ?_ | refine Vc.CondH.neg (by first | (rw [decide_eq_false_iff_not]; omega) | (rw [beq_eq_false_iff_ne]; omega) | (rw [bne_eq_false_iff_eq]; omega)) ?_); (conv => whnf)))))
    have hk3 : k % 3 < 3 := Nat.mod_lt _ (by decide)
    refine SeqH.cut (fun (sz : Nat) => [(13, .int .i64 sz)]) (fun sz H' => H10 = H' ∧ 0 < sz ∧ sz ≤ w ∧ (sz = w ∨ k % 3 < 2)) ?_ ?_
    · by_cases hkf : k < nf
      · have hrF10 := (keepF hx7).ext e710
        obtain ⟨f, hf⟩ : ∃ f : Nat, (fl.getD k 0).toNat = f := ⟨_, rfl⟩
        have hf255 : f ≤ 255 := by rw [← hf]; have := (fl.getD k 0).toNat_lt; omega
        by_cases hf3 : k % 3 < 2
        · ((conv => whnf); repeat (any_goals (first | ((refine SplitH.pos (by rw [decide_eq_true_eq]; omega) ?_); (conv => whnf)) | ((refine CondH.pos (by rw [decide_eq_true_eq]; omega) ?_); (conv => whnf)) | ((refine IdxA.bytes hrF10 hfl (by omega) (by omega) ?_; intro _ _ _ hcl; rw [Int.toNat_natCast, hf] at hcl); (conv => whnf)) | (((with_reducible apply SemH.load); (focus (rfl)); (focus (exact hcl))); (conv => whnf)) | ((refine ArithH.i64 (by omega) ?_); (conv => whnf)) | ((with_reducible first | refine Vc.SeqH.go ?_ | refine Vc.StillsH.nil ?_ | refine Vc.CallX.of ?_ | refine Vc.NextX.of ?_ | refine Vc.DrawH.text mixed (by decide +kernel) ?_ | refine Vc.ArithH.i64 (by omega) ?_ | refine Vc.ArithH.u8 (by omega) ?_ | refine Vc.ArithH.u64 (by omega) ?_ | refine Vc.ArithH.u32 (by omega) ?_ | refine Vc.NeedH.mk ⟨by omega, ?_⟩ | refine Vc.QuoH.i64 (by omega) ?_ | refine Vc.RemH.pos (by omega) ?_ | refine Vc.CondH.bnot ?_ | refine Vc.CondH.lit_t ?_ | refine Vc.CondH.lit_f ?_ | refine Vc.SplitH.lit_t ?_ | refine Vc.SplitH.lit_f ?_ | refine Vc.CondH.pos (by first | (rw [decide_eq_true_eq]; omega) | (rw [beq_iff_eq]; omega) | (rw [bne_iff_ne]; omega)) ?_ | refine Vc.CondH.neg (by first | (rw [decide_eq_false_iff_not]; omega) | (rw [beq_eq_false_iff_ne]; omega) | (rw [bne_eq_false_iff_eq]; omega)) ?_); (conv => whnf)))))
          exact ⟨min w (f + 1), ⟨by show Value.int .i64 (min (w : Int) ((f : Int) + 1)) = Value.int .i64 ((min w (f + 1) : Nat) : Int); congr 1; omega, trivial⟩, rfl, by omega, by omega, .inr hf3⟩
        · ((conv => whnf); repeat (any_goals (first | ((refine SplitH.pos (by rw [decide_eq_true_eq]; omega) ?_); (conv => whnf)) | ((refine CondH.neg (by rw [decide_eq_false_iff_not]; omega) ?_); (conv => whnf)) | ((with_reducible first | refine Vc.SeqH.go ?_ | refine Vc.StillsH.nil ?_ | refine Vc.CallX.of ?_ | refine Vc.NextX.of ?_ | refine Vc.DrawH.text mixed (by decide +kernel) ?_ | refine Vc.ArithH.i64 (by omega) ?_ | refine Vc.ArithH.u8 (by omega) ?_ | refine Vc.ArithH.u64 (by omega) ?_ | refine Vc.ArithH.u32 (by omega) ?_ | refine Vc.NeedH.mk ⟨by omega, ?_⟩ | refine Vc.QuoH.i64 (by omega) ?_ | refine Vc.RemH.pos (by omega) ?_ | refine Vc.CondH.bnot ?_ | refine Vc.CondH.lit_t ?_ | refine Vc.CondH.lit_f ?_ | refine Vc.SplitH.lit_t ?_ | refine Vc.SplitH.lit_f ?_ | refine Vc.CondH.pos (by first | (rw [decide_eq_true_eq]; omega) | (rw [beq_iff_eq]; omega) | (rw [bne_iff_ne]; omega)) ?_ | refine Vc.CondH.neg (by first | (rw [decide_eq_false_iff_not]; omega) | (rw [beq_eq_false_iff_ne]; omega) | (rw [bne_eq_false_iff_eq]; omega)) ?_); (conv => whnf)))))
          exact ⟨w, ⟨rfl, trivial⟩, rfl, hw0, Nat.le_refl _, .inl rfl⟩
      · ((conv => whnf); repeat (any_goals (first | ((refine SplitH.neg (by rw [decide_eq_false_iff_not]; omega) ?_); (conv => whnf)) | ((with_reducible first | refine Vc.SeqH.go ?_ | refine Vc.StillsH.nil ?_ | refine Vc.CallX.of ?_ | refine Vc.NextX.of ?_ | refine Vc.DrawH.text mixed (by decide +kernel) ?_ | refine Vc.ArithH.i64 (by omega) ?_ | refine Vc.ArithH.u8 (by omega) ?_ | refine Vc.ArithH.u64 (by omega) ?_ | refine Vc.ArithH.u32 (by omega) ?_ | refine Vc.NeedH.mk ⟨by omega, ?_⟩ | refine Vc.QuoH.i64 (by omega) ?_ | refine Vc.RemH.pos (by omega) ?_ | refine Vc.CondH.bnot ?_ | refine Vc.CondH.lit_t ?_ | refine Vc.CondH.lit_f ?_ | refine Vc.SplitH.lit_t ?_ | refine Vc.SplitH.lit_f ?_ | refine Vc.CondH.pos (by first | (rw [decide_eq_true_eq]; omega) | (rw [beq_iff_eq]; omega) | (rw [bne_iff_ne]; omega)) ?_ | refine Vc.CondH.neg (by first | (rw [decide_eq_false_iff_not]; omega) | (rw [beq_eq_false_iff_ne]; omega) | (rw [bne_eq_false_iff_eq]; omega)) ?_); (conv => whnf)))))
        exact ⟨w, ⟨rfl, trivial⟩, rfl, hw0, Nat.le_refl _, .inl rfl⟩
    · rintro sz _ ⟨rfl, hs0, hsw, hsk⟩
      have hdl : ((B.drop m).take sz).length = sz := by rw [List.length_take, List.length_drop]; omega
      obtain ⟨ff', ht, hff'⟩ : ∃ ff', (St B m ff).takeF 0 ((B.drop m).take sz) = (St B (m + sz) ff', 0) ∧ ff' ≤ (k + 1) % 3 := by
        by_cases hsz : sz = w
        · refine ⟨0, ?_, Nat.zero_le _⟩
          have ht := St.takeAll (fa := ff) hmB (l := (B.drop m).take w) (by rw [hlen, hw, List.take_take, Nat.min_self]) (by rw [← hsz, hdl, hlen, hsz, hw]; exact Nat.le_refl _)
          rw [hlen, ← hw] at ht
          rw [hsz]; exact ht
        · have h2 : k % 3 < 2 := hsk.resolve_left hsz
          exact ⟨ff + 1, St.takeShort (fa := ff) hmB (j := sz) (by rw [hlen, ← hw]; omega) (by omega), by omega⟩
      have hf10 := hf7.ext e710
      have hrB10 := (keepB hx7).ext e710
      have hrs : Row H10 (sliceBase (some ⟨H1.size, 0, none⟩) N m 1) (strV ((B.drop m).take sz)) := by
        have := hrB10.drop N m 1 (by rw [strV_length]; omega)
        rw [Nat.mul_one, strV_drop] at this
        have := this.take sz
        rwa [strV_take] at this
      have hbase10 : H5.size ≤ H10.size := by have := e710.size; omega
      have htk := st_take (n2 := m + sz - m) (cap2 := N - m) hf10 hmB (by omega) (by omega) hrs (by omega) (by omega) (by omega) hbase10 ht
      ((conv => whnf); repeat (any_goals (first | (((with_reducible apply SemH.load_at hb10); (focus (rfl)); (focus (rfl))); (conv => whnf)) | ((refine ArithH.i64 (by omega) ?_); (conv => whnf)) | ((refine BndH.nat (m + sz) (by omega) (by omega) ?_); (conv => whnf)) | ((refine BndH.nat m rfl (by omega) ?_); (conv => whnf)) | ((with_reducible first | refine Vc.SeqH.go ?_ | refine Vc.StillsH.nil ?_ | refine Vc.CallX.of ?_ | refine Vc.NextX.of ?_ | refine Vc.DrawH.text mixed (by decide +kernel) ?_ | refine Vc.ArithH.i64 (by omega) ?_ | refine Vc.ArithH.u8 (by omega) ?_ | refine Vc.ArithH.u64 (by omega) ?_ | refine Vc.ArithH.u32 (by omega) ?_ | refine Vc.NeedH.mk ⟨by omega, ?_⟩ | refine Vc.QuoH.i64 (by omega) ?_ | refine Vc.RemH.pos (by omega) ?_ | refine Vc.CondH.bnot ?_ | refine Vc.CondH.lit_t ?_ | refine Vc.CondH.lit_f ?_ | refine Vc.SplitH.lit_t ?_ | refine Vc.SplitH.lit_f ?_ | refine Vc.CondH.pos (by first | (rw [decide_eq_true_eq]; omega) | (rw [beq_iff_eq]; omega) | (rw [bne_iff_ne]; omega)) ?_ | refine Vc.CondH.neg (by first | (rw [decide_eq_false_iff_not]; omega) | (rw [beq_eq_false_iff_ne]; omega) | (rw [bne_eq_false_iff_eq]; omega)) ?_); (conv => whnf)))))
      refine PureH.build #[.int .i64 0, .slice (sliceBase (some ⟨H1.size, 0, none⟩) N m 1) (m + sz - m) (N - m)] (by kernel_rfl) ?_
      ((conv => whnf); repeat (any_goals (first | ((refine htk.mono ?_; rintro _ H11 ⟨rfl, ⟨a11, c11, hf11, hn11⟩, hx11⟩); (conv => whnf)) | ((with_reducible first | refine Vc.SeqH.go ?_ | refine Vc.StillsH.nil ?_ | refine Vc.CallX.of ?_ | refine Vc.NextX.of ?_ | refine Vc.DrawH.text mixed (by decide +kernel) ?_ | refine Vc.ArithH.i64 (by omega) ?_ | refine Vc.ArithH.u8 (by omega) ?_ | refine Vc.ArithH.u64 (by omega) ?_ | refine Vc.ArithH.u32 (by omega) ?_ | refine Vc.NeedH.mk ⟨by omega, ?_⟩ | refine Vc.QuoH.i64 (by omega) ?_ | refine Vc.RemH.pos (by omega) ?_ | refine Vc.CondH.bnot ?_ | refine Vc.CondH.lit_t ?_ | refine Vc.CondH.lit_f ?_ | refine Vc.SplitH.lit_t ?_ | refine Vc.SplitH.lit_f ?_ | refine Vc.CondH.pos (by first | (rw [decide_eq_true_eq]; omega) | (rw [beq_iff_eq]; omega) | (rw [bne_iff_ne]; omega)) ?_ | refine Vc.CondH.neg (by first | (rw [decide_eq_false_iff_not]; omega) | (rw [beq_eq_false_iff_ne]; omega) | (rw [bne_eq_false_iff_eq]; omega)) ?_); (conv => whnf)))))
      have hfoot : ∀ x, foot g a x → H5.size ≤ x := fun x h => by
        rcases h with rfl | ⟨p, hp, rfl⟩
        · exact hf7.low
        · exact (hf7.own.block p hp).1
      have hx711 : Only (fun x => H5.size ≤ x) H6 H11 := (hx7.trans e710.only fun _ _ => id).trans hx11 fun x _ h => hfoot x h
      have hdn := done_any hf11 (by rw [St.len (by omega)]; omega)
      rw [show (St B (m + sz) ff').dn = decide (m + sz = B.length) from rfl] at hdn
      have hx712 : ∀ {H' : Heap}, Ext H11 H' → Only (fun x => H5.size ≤ x) H6 H' := fun {H'} hx => hx711.trans hx.only fun _ _ => id
      have hbnd : CtI N ⟨k + 1, m + sz, ff', g, a11, c11⟩ := ⟨by show m + sz ≤ N; omega, hff', by show k + 1 ≤ m + sz; omega⟩
      by_cases hend : m + sz = B.length
      · rw [decide_eq_true hend] at hdn
        ((conv => whnf); repeat (any_goals (first | ((refine hdn.mono ?_; rintro _ H12 ⟨⟨a12, c12, rfl, ho12⟩, hx12⟩); (conv => whnf)) | ((refine SplitH.neg (b := !true) rfl ?_); (conv => whnf)) | ((with_reducible first | refine Vc.SeqH.go ?_ | refine Vc.StillsH.nil ?_ | refine Vc.CallX.of ?_ | refine Vc.NextX.of ?_ | refine Vc.DrawH.text mixed (by decide +kernel) ?_ | refine Vc.ArithH.i64 (by omega) ?_ | refine Vc.ArithH.u8 (by omega) ?_ | refine Vc.ArithH.u64 (by omega) ?_ | refine Vc.ArithH.u32 (by omega) ?_ | refine Vc.NeedH.mk ⟨by omega, ?_⟩ | refine Vc.QuoH.i64 (by omega) ?_ | refine Vc.RemH.pos (by omega) ?_ | refine Vc.CondH.bnot ?_ | refine Vc.CondH.lit_t ?_ | refine Vc.CondH.lit_f ?_ | refine Vc.SplitH.lit_t ?_ | refine Vc.SplitH.lit_f ?_ | refine Vc.CondH.pos (by first | (rw [decide_eq_true_eq]; omega) | (rw [beq_iff_eq]; omega) | (rw [bne_iff_ne]; omega)) ?_ | refine Vc.CondH.neg (by first | (rw [decide_eq_false_iff_not]; omega) | (rw [beq_eq_false_iff_ne]; omega) | (rw [bne_eq_false_iff_eq]; omega)) ?_); (conv => whnf)))))
        exact ⟨⟨k + 1, m + sz, ff', g, a11, c11⟩, ⟨rfl, rfl, trivial⟩, ⟨hbnd, hf11.ext hx12, hx712 hx12⟩, by show N - (m + sz) < N - m; omega⟩
      · rw [decide_eq_false hend] at hdn
        by_cases hka : k < na
        · obtain ⟨v, hv⟩ : ∃ v, al[k]? = some v := ⟨al[k], List.getElem?_eq_getElem (by omega)⟩
          obtain ⟨bv, rfl⟩ := hbool v (List.mem_of_getElem? hv)
          have hrA12 := fun {H' : Heap} (hx : Ext H11 H') => keepA (hx712 hx)
          cases bv with
          | false =>
            ((conv => whnf); repeat (any_goals (first | ((refine hdn.mono ?_; rintro _ H12 ⟨⟨a12, c12, rfl, ho12⟩, hx12⟩); (conv => whnf)) | ((refine SplitH.pos (b := !false) rfl ?_); (conv => whnf)) | ((refine SplitH.pos (by rw [decide_eq_true_eq]; omega) ?_); (conv => whnf)) | ((refine IdxA.row (size := 1) (hrA12 hx12) (by rw [Nat.mul_one]; exact hal) (by decide) k rfl hka ?_; intro b o _ _ hc; have hcl := hc 0 _ (by rw [Nat.mul_one, Nat.add_zero]; exact hv)); (conv => whnf)) | (((with_reducible apply SemH.load); (focus (rfl)); (focus (exact hcl))); (conv => whnf)) | ((with_reducible first | refine Vc.SeqH.go ?_ | refine Vc.StillsH.nil ?_ | refine Vc.CallX.of ?_ | refine Vc.NextX.of ?_ | refine Vc.DrawH.text mixed (by decide +kernel) ?_ | refine Vc.ArithH.i64 (by omega) ?_ | refine Vc.ArithH.u8 (by omega) ?_ | refine Vc.ArithH.u64 (by omega) ?_ | refine Vc.ArithH.u32 (by omega) ?_ | refine Vc.NeedH.mk ⟨by omega, ?_⟩ | refine Vc.QuoH.i64 (by omega) ?_ | refine Vc.RemH.pos (by omega) ?_ | refine Vc.CondH.bnot ?_ | refine Vc.CondH.lit_t ?_ | refine Vc.CondH.lit_f ?_ | refine Vc.SplitH.lit_t ?_ | refine Vc.SplitH.lit_f ?_ | refine Vc.CondH.pos (by first | (rw [decide_eq_true_eq]; omega) | (rw [beq_iff_eq]; omega) | (rw [bne_iff_ne]; omega)) ?_ | refine Vc.CondH.neg (by first | (rw [decide_eq_false_iff_not]; omega) | (rw [beq_eq_false_iff_ne]; omega) | (rw [bne_eq_false_iff_eq]; omega)) ?_); (conv => whnf)))))
            exact ⟨⟨k + 1, m + sz, ff', g, a11, c11⟩, ⟨rfl, rfl, trivial⟩, ⟨hbnd, hf11.ext hx12, hx712 hx12⟩, by show N - (m + sz) < N - m; omega⟩
          | true =>
            ((conv => whnf); repeat (any_goals (first | ((refine hdn.mono ?_; rintro _ H12 ⟨⟨a12, c12, rfl, ho12⟩, hx12⟩); (conv => whnf)) | ((refine SplitH.pos (b := !false) rfl ?_); (conv => whnf)) | ((refine SplitH.pos (by rw [decide_eq_true_eq]; omega) ?_); (conv => whnf)) | ((refine IdxA.row (size := 1) (hrA12 hx12) (by rw [Nat.mul_one]; exact hal) (by decide) k rfl hka ?_; intro b o _ _ hc; have hcl := hc 0 _ (by rw [Nat.mul_one, Nat.add_zero]; exact hv)); (conv => whnf)) | (((with_reducible apply SemH.load); (focus (rfl)); (focus (exact hcl))); (conv => whnf)) | ((with_reducible first | refine Vc.SeqH.go ?_ | refine Vc.StillsH.nil ?_ | refine Vc.CallX.of ?_ | refine Vc.NextX.of ?_ | refine Vc.DrawH.text mixed (by decide +kernel) ?_ | refine Vc.ArithH.i64 (by omega) ?_ | refine Vc.ArithH.u8 (by omega) ?_ | refine Vc.ArithH.u64 (by omega) ?_ | refine Vc.ArithH.u32 (by omega) ?_ | refine Vc.NeedH.mk ⟨by omega, ?_⟩ | refine Vc.QuoH.i64 (by omega) ?_ | refine Vc.RemH.pos (by omega) ?_ | refine Vc.CondH.bnot ?_ | refine Vc.CondH.lit_t ?_ | refine Vc.CondH.lit_f ?_ | refine Vc.SplitH.lit_t ?_ | refine Vc.SplitH.lit_f ?_ | refine Vc.CondH.pos (by first | (rw [decide_eq_true_eq]; omega) | (rw [beq_iff_eq]; omega) | (rw [bne_iff_ne]; omega)) ?_ | refine Vc.CondH.neg (by first | (rw [decide_eq_false_iff_not]; omega) | (rw [beq_eq_false_iff_ne]; omega) | (rw [bne_eq_false_iff_eq]; omega)) ?_); (conv => whnf)))))
            have hf12 := hf11.ext hx12
            have hmB' : m + sz < B.length := by omega
            have hk3' : ff' < 4 := by omega
            have hfb := fbytes_any hf12 (by rw [St.len (by omega)]; omega) (by show ff' ≤ 1000; omega) (by show 0 ≤ 1000; omega)
            have hlb : (encF (St B (m + sz) ff')).length ≤ 1000000000 := by
              have h1 : (St B (m + sz) ff').b.length = m + sz := St.len (by omega)
              have := encN_len 9 (m + sz) (by omega)
              have := encN_len 9 ff' (by omega)
              have := encN_len 9 0 (by omega)
              unfold encF encT
              rw [List.length_append, List.length_append, List.length_append, h1]
              show _ + _ + ((encN ff').length + (encN 0).length) ≤ _
              omega
            have hop := fun H => fopen_any (rowOf B) hkey _ hlb H
            rw [open_st hmB' (by omega) hk3'] at hop
            have hR := fun {H' : Heap} (hx : Ext H11 H') => keepR (hx712 hx)
            have hR12 := hR hx12
            ((conv => whnf); repeat (any_goals (first | (((with_reducible refine Vc.DrawH.held [0, 1, 2, 3, 4] [(2, [0])] mixed (by decide +kernel) ?_)); (conv => whnf)) | ((refine SemH.load_blk hR12 rfl rfl rfl ?_); (conv => whnf)) | ((refine hfb.mono ?_; rintro _ H13 ⟨rfl, hx13⟩); (conv => whnf)) | ((refine (hop _).mono ?_; rintro _ H14 ⟨⟨g14, a14, c14, rfl, hf14⟩, hx14⟩); (conv => whnf)) | ((refine StillsH.load rfl rfl rfl rfl rfl rfl (SemH.load_blk (hR12.ext hx13) rfl rfl rfl rfl) ?_); (conv => whnf)) | ((with_reducible first | refine Vc.SeqH.go ?_ | refine Vc.StillsH.nil ?_ | refine Vc.CallX.of ?_ | refine Vc.NextX.of ?_ | refine Vc.DrawH.text mixed (by decide +kernel) ?_ | refine Vc.ArithH.i64 (by omega) ?_ | refine Vc.ArithH.u8 (by omega) ?_ | refine Vc.ArithH.u64 (by omega) ?_ | refine Vc.ArithH.u32 (by omega) ?_ | refine Vc.NeedH.mk ⟨by omega, ?_⟩ | refine Vc.QuoH.i64 (by omega) ?_ | refine Vc.RemH.pos (by omega) ?_ | refine Vc.CondH.bnot ?_ | refine Vc.CondH.lit_t ?_ | refine Vc.CondH.lit_f ?_ | refine Vc.SplitH.lit_t ?_ | refine Vc.SplitH.lit_f ?_ | refine Vc.CondH.pos (by first | (rw [decide_eq_true_eq]; omega) | (rw [beq_iff_eq]; omega) | (rw [bne_iff_ne]; omega)) ?_ | refine Vc.CondH.neg (by first | (rw [decide_eq_false_iff_not]; omega) | (rw [beq_eq_false_iff_ne]; omega) | (rw [bne_eq_false_iff_eq]; omega)) ?_); (conv => whnf)))))
            have e1214 := hx13.trans hx14
            have hz12' : H5.size ≤ H13.size := by have := (hx712 hx12).size; have := hx13.size; omega
            exact ⟨⟨k + 1, m + sz, ff', g14, a14, c14⟩, ⟨rfl, rfl, trivial⟩, ⟨⟨by show m + sz ≤ N; omega, hff', by show k + 1 ≤ m + sz; omega⟩, ⟨hf14.blk, hf14.own.base hz12', hf14.apart, Nat.le_trans hz12' hf14.low, hf14.key⟩, hx712 (hx12.trans e1214)⟩, by show N - (m + sz) < N - m; omega⟩
        · ((conv => whnf); repeat (any_goals (first | ((refine hdn.mono ?_; rintro _ H12 ⟨⟨a12, c12, rfl, ho12⟩, hx12⟩); (conv => whnf)) | ((refine SplitH.pos (b := !false) rfl ?_); (conv => whnf)) | ((refine SplitH.neg (by rw [decide_eq_false_iff_not]; omega) ?_); (conv => whnf)) | ((with_reducible first | refine Vc.SeqH.go ?_ | refine Vc.StillsH.nil ?_ | refine Vc.CallX.of ?_ | refine Vc.NextX.of ?_ | refine Vc.DrawH.text mixed (by decide +kernel) ?_ | refine Vc.ArithH.i64 (by omega) ?_ | refine Vc.ArithH.u8 (by omega) ?_ | refine Vc.ArithH.u64 (by omega) ?_ | refine Vc.ArithH.u32 (by omega) ?_ | refine Vc.NeedH.mk ⟨by omega, ?_⟩ | refine Vc.QuoH.i64 (by omega) ?_ | refine Vc.RemH.pos (by omega) ?_ | refine Vc.CondH.bnot ?_ | refine Vc.CondH.lit_t ?_ | refine Vc.CondH.lit_f ?_ | refine Vc.SplitH.lit_t ?_ | refine Vc.SplitH.lit_f ?_ | refine Vc.CondH.pos (by first | (rw [decide_eq_true_eq]; omega) | (rw [beq_iff_eq]; omega) | (rw [bne_iff_ne]; omega)) ?_ | refine Vc.CondH.neg (by first | (rw [decide_eq_false_iff_not]; omega) | (rw [beq_eq_false_iff_ne]; omega) | (rw [bne_eq_false_iff_eq]; omega)) ?_); (conv => whnf)))))
          exact ⟨⟨k + 1, m + sz, ff', g, a11, c11⟩, ⟨rfl, rfl, trivial⟩, ⟨hbnd, hf11.ext hx12, hx712 hx12⟩, by show N - (m + sz) < N - m; omega⟩
  · obtain rfl : N = m := by omega
    have hmB : N = B.length := hlen.symm
    rw [hmB] at hf7
    have hov := st_over hf7 (by omega)
    ((conv => whnf); repeat (any_goals (first | ((refine hov.mono ?_; rintro _ H8 ⟨rfl, hx8⟩); (conv => whnf)) | ((with_reducible first | refine Vc.SeqH.go ?_ | refine Vc.StillsH.nil ?_ | refine Vc.CallX.of ?_ | refine Vc.NextX.of ?_ | refine Vc.DrawH.text mixed (by decide +kernel) ?_ | refine Vc.ArithH.i64 (by omega) ?_ | refine Vc.ArithH.u8 (by omega) ?_ | refine Vc.ArithH.u64 (by omega) ?_ | refine Vc.ArithH.u32 (by omega) ?_ | refine Vc.NeedH.mk ⟨by omega, ?_⟩ | refine Vc.QuoH.i64 (by omega) ?_ | refine Vc.RemH.pos (by omega) ?_ | refine Vc.CondH.bnot ?_ | refine Vc.CondH.lit_t ?_ | refine Vc.CondH.lit_f ?_ | refine Vc.SplitH.lit_t ?_ | refine Vc.SplitH.lit_f ?_ | refine Vc.CondH.pos (by first | (rw [decide_eq_true_eq]; omega) | (rw [beq_iff_eq]; omega) | (rw [bne_iff_ne]; omega)) ?_ | refine Vc.CondH.neg (by first | (rw [decide_eq_false_iff_not]; omega) | (rw [beq_eq_false_iff_ne]; omega) | (rw [bne_eq_false_iff_eq]; omega)) ?_); (conv => whnf)))))
    refine SemH.alloc rfl rfl ?_
    intro H9 hs9 hb9 hx9
    ((conv => whnf); repeat (any_goals (first | ((with_reducible first | refine Vc.SeqH.go ?_ | refine Vc.StillsH.nil ?_ | refine Vc.CallX.of ?_ | refine Vc.NextX.of ?_ | refine Vc.DrawH.text mixed (by decide +kernel) ?_ | refine Vc.ArithH.i64 (by omega) ?_ | refine Vc.ArithH.u8 (by omega) ?_ | refine Vc.ArithH.u64 (by omega) ?_ | refine Vc.ArithH.u32 (by omega) ?_ | refine Vc.NeedH.mk ⟨by omega, ?_⟩ | refine Vc.QuoH.i64 (by omega) ?_ | refine Vc.RemH.pos (by omega) ?_ | refine Vc.CondH.bnot ?_ | refine Vc.CondH.lit_t ?_ | refine Vc.CondH.lit_f ?_ | refine Vc.SplitH.lit_t ?_ | refine Vc.SplitH.lit_f ?_ | refine Vc.CondH.pos (by first | (rw [decide_eq_true_eq]; omega) | (rw [beq_iff_eq]; omega) | (rw [bne_iff_ne]; omega)) ?_ | refine Vc.CondH.neg (by first | (rw [decide_eq_false_iff_not]; omega) | (rw [beq_eq_false_iff_ne]; omega) | (rw [bne_eq_false_iff_eq]; omega)) ?_); (conv => whnf)))))
    refine DoH.put_all hb9 rfl rfl rfl rfl ?_
    intro H10 hs10 hb10 hx10
    have e710 : Ext H7 H10 := (hx8.trans hx9).but hx10 hx8.size
    have hdn := st_done (hf7.ext e710) (by omega)
    ((conv => whnf); repeat (any_goals (first | ((refine hdn.mono ?_; rintro _ H11 ⟨⟨a11, c11, rfl, hr11⟩, hx11⟩); (conv => whnf)) | ((with_reducible first | refine Vc.SeqH.go ?_ | refine Vc.StillsH.nil ?_ | refine Vc.CallX.of ?_ | refine Vc.NextX.of ?_ | refine Vc.DrawH.text mixed (by decide +kernel) ?_ | refine Vc.ArithH.i64 (by omega) ?_ | refine Vc.ArithH.u8 (by omega) ?_ | refine Vc.ArithH.u64 (by omega) ?_ | refine Vc.ArithH.u32 (by omega) ?_ | refine Vc.NeedH.mk ⟨by omega, ?_⟩ | refine Vc.QuoH.i64 (by omega) ?_ | refine Vc.RemH.pos (by omega) ?_ | refine Vc.CondH.bnot ?_ | refine Vc.CondH.lit_t ?_ | refine Vc.CondH.lit_f ?_ | refine Vc.SplitH.lit_t ?_ | refine Vc.SplitH.lit_f ?_ | refine Vc.CondH.pos (by first | (rw [decide_eq_true_eq]; omega) | (rw [beq_iff_eq]; omega) | (rw [bne_iff_ne]; omega)) ?_ | refine Vc.CondH.neg (by first | (rw [decide_eq_false_iff_not]; omega) | (rw [beq_eq_false_iff_ne]; omega) | (rw [bne_eq_false_iff_eq]; omega)) ?_); (conv => whnf)))))
    have hrB11 := ((keepB hx7).ext e710).ext hx11
    have hq : ((⟨B.toArray⟩ : ByteArray).toList == (⟨B.toArray⟩ : ByteArray).toList) = true := beq_self_eq_true _
    ((conv => whnf); repeat (any_goals (first | ((refine to_string' rfl rfl rfl hr11 rfl ?_); (conv => whnf)) | ((refine to_string' rfl rfl rfl hrB11 hlen ?_); (conv => whnf)) | ((refine SplitH.pos rfl ?_); (conv => whnf)) | ((with_reducible first | refine Vc.SeqH.go ?_ | refine Vc.StillsH.nil ?_ | refine Vc.CallX.of ?_ | refine Vc.NextX.of ?_ | refine Vc.DrawH.text mixed (by decide +kernel) ?_ | refine Vc.ArithH.i64 (by omega) ?_ | refine Vc.ArithH.u8 (by omega) ?_ | refine Vc.ArithH.u64 (by omega) ?_ | refine Vc.ArithH.u32 (by omega) ?_ | refine Vc.NeedH.mk ⟨by omega, ?_⟩ | refine Vc.QuoH.i64 (by omega) ?_ | refine Vc.RemH.pos (by omega) ?_ | refine Vc.CondH.bnot ?_ | refine Vc.CondH.lit_t ?_ | refine Vc.CondH.lit_f ?_ | refine Vc.SplitH.lit_t ?_ | refine Vc.SplitH.lit_f ?_ | refine Vc.CondH.pos (by first | (rw [decide_eq_true_eq]; omega) | (rw [beq_iff_eq]; omega) | (rw [bne_iff_ne]; omega)) ?_ | refine Vc.CondH.neg (by first | (rw [decide_eq_false_iff_not]; omega) | (rw [beq_eq_false_iff_ne]; omega) | (rw [bne_eq_false_iff_eq]; omega)) ?_); (conv => whnf)))))
    refine ⟨by show Value.bool _ = _; rw [hq], ?_⟩
    have e6 : Ext H H6 := hx5'.trans hx6
    have e7 : Ext H H7 := Only.trans e6 hx7 fun b hb h => by omega
    exact e7.trans (e710.trans hx11)
end Go.Proofs.Ytipebbbgpkplaaa
