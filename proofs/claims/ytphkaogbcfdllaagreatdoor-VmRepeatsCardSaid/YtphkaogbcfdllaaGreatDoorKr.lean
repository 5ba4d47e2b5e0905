import Derived.Test.YtphkaogbcfdllaaGreatDoorKi
import Derived.Test.YtphkaogbcfdllaaGreatDoorKj
set_option linter.unusedVariables false
set_option linter.unusedSimpArgs false
set_option maxRecDepth 100000
/- VmRepeats. -/
namespace Go.Run
open Go.Scr Go.Pth Go.Tre Go.Blk
open Go.Vc (mget mput)
theorem itoa_dc : ∀ j, j < 12 → Lib.itoa ((j : Nat) : Int) = dcF j := by decide +kernel
theorem dc_len : ∀ j, j < 12 → (dcF j).length ≤ 2 := by decide +kernel
theorem rpT_len {a b c : Nat} (ha : a < 12) (hb : b < 12) (hc : c < 4) : (rpT a b c).length ≤ 200 := by
  have h1 := dc_len a ha
  have h2 := dc_len b hb
  have h3 : ((List.replicate c rpD).flatten).length ≤ 60 := by
    rcases (by omega : c = 0 ∨ c = 1 ∨ c = 2 ∨ c = 3) with rfl | rfl | rfl | rfl <;> decide
  unfold rpT
  simp only [List.length_append]
  have e1 : rpA.length = 7 := rfl
  have e2 : rpB.length = 21 := rfl
  have e3 : rpC.length = 22 := rfl
  omega
theorem rpT_snoc (a b c : Nat) : rpT a b (c + 1) = rpT a b c ++ rpD := by
  unfold rpT
  rw [List.replicate_succ', List.flatten_append]
  simp
theorem cl_x : cleanF [120] = ([120], 0) ∧ cleanF [121] = ([121], 0) ∧ cleanF [122] = ([122], 0) ∧ pars [120] = [] ∧ pars [121] = [] ∧ pars [122] = [] := by decide +kernel
theorem read_one {A : Tr} {c d : UInt8} {n : Nat} (hc : cleanF [c] = ([c], 0)) (hp : pars [c] = []) (hg : mget A [c] = if n = 0 then none else some (false, List.replicate n d)) : (readF A [c]).1.length = n := by
  have hdir : dirF A [c] = false := by
    unfold dirF
    rw [hg]
    by_cases h : n = 0 <;> simp [h]
  have hfile : fileF A [c] = false := by
    unfold fileF
    rw [hp]; rfl
  unfold readF
  rw [hc]
  dsimp only
  rw [if_pos rfl, if_neg (by rw [hdir, hfile]; decide), hg]
  by_cases h : n = 0
  · subst h; simp
  · simp [h]
end Go.Run
namespace Go.Proofs.YtphkaogbcfdllaaGreatDoor
open Go Go.Vc Go.Scr Go.Pth Go.Tre Go.Blk Go.Run
theorem sz_lit2 (l : List UInt8) : ByteArray.size ⟨l.toArray⟩ = l.length := rfl
theorem sz_mk (l : List UInt8) : (mkS l).size = l.length := rfl
theorem dec_small {j : Nat} (hj : j < 12) {z : Int} (hz : z = j) (H : Heap) : CallH Tryz.prog 15 [.int .i64 z] H fun v H' => v = .string (mkS (dcF j)) ∧ H = H' := by
  subst hz
  have := rdec_any j (by omega) H
  rw [itoa_dc j hj] at this
  exact this
set_option maxHeartbeats 4000000 in
theorem repeats_any {H : Heap} (hg : Glb H) (hH : 2 ≤ H.size) (n m k : Nat) (hn : n < 256) (hm : m < 256) (hk : k < 256) : CallH Tryz.prog 3 [.int .u8 n, .int .u8 m, .int .u8 k] H fun v H' => v = .bool true ∧ Ext H H' := by
  obtain ⟨a, ha⟩ : ∃ a, a = n % 12 := ⟨_, rfl⟩
  obtain ⟨b, hb⟩ : ∃ b, b = m % 12 := ⟨_, rfl⟩
  obtain ⟨c, hc⟩ : ∃ c, c = k % 4 := ⟨_, rfl⟩
  have ha' : ((n : Int) % 12) = (a : Int) := by omega
  have hb' : ((m : Int) % 12) = (b : Int) := by omega
  have hc' : ((k : Int) % 4) = (c : Int) := by omega
  have ha12 : a < 12 := by omega
  have hb12 : b < 12 := by omega
  have hc4 : c < 4 := by omega
  have hda := dc_len a ha12
  have hdb := dc_len b hb12
  refine Vc.CallH.body Tryz.func3 Tryz.call3 rfl (by decide +kernel) rfl ?_
  ((conv => whnf); repeat (any_goals (first | ((refine (known18_any hg hH).mono ?_; rintro _ H1 ⟨rfl, hx1⟩; have hz1 := hx1.size); (conv => whnf)) | ((refine RemH.pos (by omega) ?_); (conv => whnf)) | ((refine (dec_small ha12 ha' _).mono ?_; rintro _ _ ⟨rfl, rfl⟩); (conv => whnf)) | ((refine (dec_small hb12 hb' _).mono ?_; rintro _ _ ⟨rfl, rfl⟩); (conv => whnf)) | ((refine NeedH.mk ⟨by (simp only [ByteArray.size_append, sz_lit2, sz_mk, List.length_cons, List.length_nil]; omega), ?_⟩); (conv => whnf)) | (refine Vc.stp ?_; intros; (conv => whnf)))))
  refine LoopH.intro (fun (i : Nat) => [(11, .int .i64 i), (10, .string (mkS (rpT a b i)))]) (fun i H' => H1 = H' ∧ i ≤ c) (fun i => c - i) 0 ⟨rfl, by show Value.string _ = Value.string _; congr 1; apply ByteArray.ext; apply Array.ext'; simp [mkS, rpT, rpA, rpB, rpC], trivial⟩ ⟨rfl, Nat.zero_le _⟩ ?_
  rintro i _ ⟨rfl, hi⟩
  by_cases hlt : i < c
  · have hil := rpT_len ha12 hb12 (by omega : i < 4)
    ((conv => whnf); repeat (any_goals (first | ((refine NeedH.mk ⟨by (simp only [ByteArray.size_append, sz_lit2, sz_mk, List.length_cons, List.length_nil]; omega), ?_⟩); (conv => whnf)) | (refine Vc.stp ?_; intros; (conv => whnf)))))
    exact ⟨i + 1, ⟨rfl, by show Value.string _ = Value.string _; rw [rpT_snoc]; rfl, trivial⟩, ⟨rfl, by omega⟩, by omega⟩
  · obtain rfl : i = c := by omega
    have hil := rpT_len ha12 hb12 hc4
    have hpr := fun H => rparse_any (rpT a b i) (by omega) H
    rw [rp_parse ha12 hb12 hc4] at hpr
    have hll : (repL a b i).length = 6 + i := rep_len a b i
    obtain ⟨B, hrun, htri⟩ := rep_run a b i ha12 hb12 hc4
    ((conv => whnf); repeat (any_goals (first | ((refine (hpr _).mono ?_; rintro _ H2 ⟨⟨a2, c2, rfl, ho2⟩, hx2⟩; have hz2 := hx2.size); (conv => whnf)) | ((refine (new_any _).mono ?_; rintro _ H3 ⟨⟨tb, mb, rfl, ht3, hb3, hm3⟩, hx3⟩; have hz3 := hx3.size); (conv => whnf)) | (refine Vc.stp ?_; intros; (conv => whnf)))))
    have hx23 : Ext H H3 := hx1.trans (hx2.trans hx3)
    have hne : Nested (kindsL (repL a b i)) := nested_of (rp_parse ha12 hb12 hc4)
    have hlens : ∀ x ∈ repL a b i, x.a.length ≤ 1000000 ∧ x.b.length ≤ 1000000 ∧ x.tx.length ≤ 1000000 ∧ x.n ≤ 1000000 := by
      intro x hx
      have hb := (parse_len (rp_parse ha12 hb12 hc4)).1 x hx
      exact ⟨Nat.le_trans hb.a (by omega), Nat.le_trans hb.b (by omega), Nat.le_trans hb.tx (by omega), Nat.le_trans hb.n (by omega)⟩
    have q := run_any (cl := c2) (vm := none) (V := none) (A := []) (fuel := 65536) (F := 65536) (ho2.row.ext hx3) rfl (by omega) hne hlens ht3 trivial Okay.nil (fun v hv => by cases hv) (hg.ext hx23) ⟨by omega, by omega, fun v hv => by cases hv⟩ (by omega) rfl
    rw [hrun] at q
    dsimp only at q
    refine q.mono ?_
    rintro _ H4 ⟨er, rfl, her, ht4, _, ho4⟩
    rw [if_pos rfl] at her
    subst her
    have hx4 : Ext H H4 := Only.trans hx23 ho4 fun y hy e => (by rcases e with e | e | e; omega; omega; cases e)
    have hB : Okay B := by have := run_okay (repL a b i) 65536 0 ⟨0, [], none, []⟩ Okay.nil; rw [hrun] at this; exact this
    obtain ⟨cx, cy, cz, px, py, pz⟩ := cl_x
    have ex := read_one cx px htri.x
    have ey := read_one cy py htri.y
    have ez := read_one cz pz htri.z
    have hrd : ∀ {H' : Heap} (t : Bs), Ext H4 H' → CallH Tryz.prog 19 [.pointer (some ⟨tb, 0, none⟩), .string (mkS t)] H' fun v H'' => (∃ a cap, v = .tuple #[.slice a (readF B t).1.length cap, .int .i64 (readF B t).2]) ∧ Ext H' H'' := fun {H'} t k => (read_any (ht4.ext k) hB t).mono fun v H'' ⟨⟨a, cap, e, _⟩, h⟩ => ⟨⟨a, cap, e⟩, h⟩
    obtain ⟨ab, hab⟩ : ∃ ab, ab = a * b := ⟨_, rfl⟩
    obtain ⟨w, hw⟩ : ∃ w, w = a * (3 + 2 * b) := ⟨_, rfl⟩
    have habl : ab ≤ 11 * 11 := by rw [hab]; exact Nat.mul_le_mul (by omega) (by omega)
    have hwl : w ≤ 11 * 25 := by rw [hw]; exact Nat.mul_le_mul (by omega) (by omega)
    have hm1 : ((n : Int) % 12) * ((m : Int) % 12) = (ab : Int) := by rw [ha', hb', hab]; simp
    have hm2 : ((n : Int) % 12) * (1 + (1 + 2 * ((m : Int) % 12)) + 1) = (w : Int) := by rw [ha', hb', hw, show (1 + (1 + 2 * (b : Int)) + 1) = ((3 + 2 * b : Nat) : Int) by omega]; simp
    rw [← hab] at ey
    rw [← hw]
    ((conv => whnf); repeat (any_goals (first | ((refine (hrd [120] (by exact Vc.xt)).mono ?_; rintro _ H5 ⟨⟨a5, c5, rfl⟩, hx5⟩; rw [ex]; have hz5 := hx5.size); (conv => whnf)) | ((refine (hrd [121] (by exact Vc.xt)).mono ?_; rintro _ H6 ⟨⟨a6, c6, rfl⟩, hx6⟩; rw [ey]; have hz6 := hx6.size); (conv => whnf)) | ((refine (hrd [122] (by exact Vc.xt)).mono ?_; rintro _ H7 ⟨⟨a7, c7, rfl⟩, hx7⟩; rw [ez]; have hz7 := hx7.size); (conv => whnf)) | (refine Vc.stp ?_; intros; (conv => whnf)))))
    rw [hm2, hc', show (((1 + w + i : Nat) : Int) == 1 + (w : Int) + (i : Int)) = true by rw [beq_iff_eq]; omega]
    exact ⟨rfl, hx4.trans (hx5.trans (hx6.trans hx7))⟩
end Go.Proofs.YtphkaogbcfdllaaGreatDoor
/- How often lines within repeats within one another are done, and what fuel that takes. The package variables that the card lists hold what the program's text lays. -/
namespace Go.Proofs.YtphkaogbcfdllaaGreatDoor
open Go Go.Vc Go.Scr Go.Pth Go.Tre Go.ChangeShapes Go.WideShapes Go.ChangeAt Go.RowKit
theorem glb_two {H : Heap} (h : Glb H) : 2 ≤ H.size := by
  obtain ⟨t, fr, e⟩ := h.tab
  have := (Array.getElem?_eq_some_iff.1 e).1
  omega
theorem u8_nat {n : Int} (h : (Lit.int .u8 n).wf = true) : ∃ m : Nat, n = m ∧ m < 256 := by
  have h2 : 0 ≤ n ∧ n ≤ 255 := by
    simp [Lit.wf, IntKind.min, IntKind.max, IntKind.signed, IntKind.bits] at h
    omega
  exact ⟨n.toNat, by omega, by omega⟩
namespace repeats
set_option maxRecDepth 100000 in
theorem lifted (os : Os) (started : os.Started) (H : Type) (enc : TypeId × Value → H) :
    ReturnsInHanded {} Tryz.checked os 3 .any (fun w args => (Rows.vmRepeatsSpec.pre enc Tryz.prog Tryz.f3 Rows.vmRepeatsRow.domain false w args ∧ laidMetH Tryz.prog Rows.vmRepeatsRow.laid w) ∧ sizedMet enc Tryz.prog Tryz.f3 (OpenSpec.ofChange Rows.vmRepeatsSpec) false w args)
      (Rows.vmRepeatsSpec.post enc Tryz.prog Tryz.f3 false true false false) := by
  refine returnsInHanded_of_change_and (C := Tryz.checked) (X := fun w _ => laidMetH Tryz.prog Rows.vmRepeatsRow.laid w) (fun _ _ _ hh h => h.of_heap hh) own started (by kernel_rfl) Tryz.func3
    (ChangeSpec.witness_shaped (enc := enc) (C := Tryz.checked) (os := os) (X := fun w _ => laidMetH Tryz.prog Rows.vmRepeatsRow.laid w) false (witW os) #[.int .u8 0, .int .u8 0, .int .u8 0] 8 (witW_os os)
      (World.shaped_of_ZipB (by kernel_rfl) (by kernel_rfl)) (by kernel_rfl) (by kernel_rfl) (by kernel_rfl)
      (witW_met os _)) ?_
  intro W base args ds gs before hval0 hW hc _ hL _
  have hval : ∀ (j : Nat) t v, Tryz.f3.params[j]? = some t → args[j]? = some v → Value.okWide Tryz.prog W .any base t v := hval0
  have hW' := hW
  obtain ⟨p, q, hA, hV, _, _, _⟩ := hW
  rw [Tryz.params3] at hA hval
  obtain ⟨v0, v1, v2, d0, d1, d2, p0, p1, p2, rfl, rfl, rfl, h0, h1, h2⟩ := trodAll_three hA
  obtain ⟨x0, rfl, rfl, rfl, w0⟩ := open_int rfl (hval 0 _ v0 rfl rfl) h0
  obtain ⟨x1, rfl, rfl, rfl, w1⟩ := open_int rfl (hval 1 _ v1 rfl rfl) h1
  obtain ⟨x2, rfl, rfl, rfl, w2⟩ := open_int rfl (hval 2 _ v2 rfl rfl) h2
  obtain ⟨x0, rfl, l0⟩ := u8_nat w0
  obtain ⟨x1, rfl, l1⟩ := u8_nat w1
  obtain ⟨x2, rfl, l2⟩ := u8_nat w2
  exact law_calls (tb := 4) rfl (repeats_any (glb_of_laid hL) (glb_two (glb_of_laid hL)) x0 x1 x2 l0 l1 l2) hW' rfl (by obtain ⟨rfl, rfl⟩ := trodVars_none hV; rfl) rfl rfl laid_out (by kernel_rfl)
end repeats

end Go.Proofs.YtphkaogbcfdllaaGreatDoor
