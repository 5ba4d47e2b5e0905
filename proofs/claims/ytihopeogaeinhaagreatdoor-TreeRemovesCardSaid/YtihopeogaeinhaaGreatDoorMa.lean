import Derived.Test.YtihopeogaeinhaaGreatDoorPg
import Derived.Test.YtihopeogaeinhaaGreatDoorNa
import Derived.Test.YtihopeogaeinhaaGreatDoorQb
import Derived.Test.YtihopeogaeinhaaGreatDoorHq
import Derived.Carry
import Derived.ProofKit
import Derived.OpenShut
import Derived.ChangeMaps5
set_option linter.unusedVariables false
set_option linter.unusedSimpArgs false
set_option maxRecDepth 100000
/- Paths, the reference: parts, what a path is cleaned to, what stands above and below it. -/
namespace Go.Pth
open Go.Scr
def glueF (cur : Txt) : List Txt → List Txt
  | [] => [cur]
  | w :: l => (cur ++ w) :: l
theorem glueF_nil (l : List Txt) (h : l ≠ []) : glueF [] l = l := by cases l with | nil => exact absurd rfl h | cons w l => rfl
theorem glueF_step {c x : UInt8} (h : x ≠ c) (cur t : Txt) : glueF cur (splitF c (x :: t)) = glueF (cur ++ [x]) (splitF c t) := by
  rw [splitF, if_neg h]
  cases splitF c t with
  | nil => rfl
  | cons w l => simp [glueF]
theorem glueF_cut (c : UInt8) (cur t : Txt) : glueF cur (splitF c (c :: t)) = cur :: splitF c t := by
  rw [splitF, if_pos rfl]; simp [glueF]
/-- what stands from a to b -/
def mid (l : Txt) (a b : Nat) : Txt := (l.drop a).take (b - a)
theorem mid_self (l : Txt) (a : Nat) : mid l a a = [] := by simp [mid]
theorem mid_snoc {l : Txt} {a b : Nat} {c : UInt8} {t : Txt} (hab : a ≤ b) (h : l.drop b = c :: t) : mid l a (b + 1) = mid l a b ++ [c] := by
  unfold mid
  have e : b + 1 - a = (b - a) + 1 := by omega
  have h2 : (l.drop a).drop (b - a) = c :: t := by rw [List.drop_drop, show a + (b - a) = b by omega]; exact h
  rw [e, List.take_add_one]
  congr 1
  have := congrArg (·[0]?) h2
  simp only [List.getElem?_drop, List.getElem?_cons_zero] at this
  simp only [List.getElem?_drop]
  have h3 : (0 : Nat) + (a + (b - a)) = a + (b - a) := by omega
  simp at this
  simp [this]
theorem mid_len (l : Txt) (a b : Nat) : (mid l a b).length ≤ l.length := by unfold mid; rw [List.length_take, List.length_drop]; omega
def rcleanF (base : List Txt) (s : Txt) : Txt × Nat :=
  if 200 < s.length then ([], 50) else if s.head? = some 47 then ([], 51) else (glue (walkF base.length base (splitF 47 s)).1, (walkF base.length base (splitF 47 s)).2)
theorem rclean_nil (s : Txt) : rcleanF [] s = cleanF s := by
  unfold rcleanF cleanF joinP
  rw [if_pos (rfl : ([] : Txt) = []), Nat.zero_add]; rfl
end Go.Pth
namespace Go.Vc
theorem NextH.dup {P : Program} {H : Heap} {t u e ty : TypeId} {i : TypeInfo} {z : Value} {a : Option Addr} {m c : Nat} {xs : List Value} {cb : Array Bool} {K : Value → Heap → Prop}
    (hr : Row H a xs) (hl : xs.length = m) (hp : ∀ u ∈ xs, plainV u = true) (hm : m ≤ 4000000000000) (ht : P.underlying t = some (.slice e)) (hu : ∃ d, P.underlying u = some d ∧ (∀ k, d ≠ .int k)) (hi : P.info? e = some i) (hz : i.zero = some z) (hzs : z.cells.size = i.size) (h1 : i.size = 1)
    (hby : Nat.ble i.bytes 16 = true) (hk : ∀ a' cap' H', Own H' H.size e 1 a' m cap' xs → Ext H H' → K (.slice a' m cap') H') :
    NextH P (builtin .append #[t, u] ty cb #[.slice none 0 0, .slice a m c]) H K := by
  have hby := Nat.le_of_ble_eq_true hby
  refine NextH.append (m := m) (news := xs) ht hu hi hz hzs (Own.nil _ H.size _ _) (Src.row hr (by rw [h1, hl]; omega) hp) (by unfold maxLen; omega) ?_ (Nat.le_refl _) fun a' cap' H' g1 g2 _ => ?_
  · calc (0 + m) * i.bytes ≤ (0 + m) * 16 := Nat.mul_le_mul_left _ hby
      _ ≤ _ := by omega
  · rw [h1, List.nil_append, Nat.zero_add] at g1
    rw [Nat.zero_add]
    exact hk a' cap' H' g1 (g2.mono fun b ⟨p, hp, _⟩ => by cases hp)
end Go.Vc
namespace Go.Proofs.YtihopeogaeinhaaGreatDoor
open Go Go.Vc Go.Scr Go.Pth
structure SSt where
  i : Nat
  fr : Nat
  out : List Bs
  a : Option Addr
  cap : Nat
def splitI (s : Bs) (x : SSt) : List Bs := if x.i ≤ s.length then x.out ++ glueF (mid s x.fr x.i) (splitF 47 (s.drop x.i)) else x.out
set_option maxHeartbeats 4000000 in
theorem rsplit7_any (s : Bs) (hl : s.length ≤ 100000000) (H : Heap) : CallH Tryz.prog 80 [.string (mkS s)] H fun v H' => (∃ a cap, v = .slice a (splitF 47 s).length cap ∧ Own H' H.size 9 1 a (splitF 47 s).length cap (strs (splitF 47 s))) ∧ Ext H H' := by
  obtain ⟨S, hS⟩ : ∃ S, splitF 47 s = S := ⟨_, rfl⟩
  rw [hS]
  have hsz : (mkS s).size = s.length := rfl
  refine Vc.CallH.body Tryz.func80 Tryz.call80 rfl (by decide +kernel) rfl ?_
  ((conv => whnf); repeat (any_goals (first | (refine Vc.sts ?_; (conv => whnf)))))
  refine LoopH.intro (fun (x : SSt) => [(5, .int .i64 x.i), (4, .int .i64 x.fr), (3, .slice x.a x.out.length x.cap)]) (fun x H' => x.i ≤ s.length + 1 ∧ x.fr ≤ x.i ∧ x.out.length ≤ x.i ∧ S = splitI s x ∧ Own H' H.size 9 1 x.a x.out.length x.cap (strs x.out) ∧ Ext H H') (fun x => s.length + 1 - x.i) ⟨0, 0, [], none, 0⟩ ⟨rfl, rfl, rfl, trivial⟩ ⟨Nat.zero_le _, Nat.le_refl _, Nat.le_refl _, ?_, Own.nil _ _ _ _, Ext.refl _⟩ ?_
  · unfold splitI
    rw [if_pos (Nat.zero_le _)]
    show S = glueF [] (splitF 47 s)
    rw [glueF_nil _ (split_ne 47 s), hS]
  rintro ⟨i, fr, out, a, cap⟩ H2 ⟨hi, hfr, hol, hinv, ho2, hx2⟩
  dsimp only at hi hfr hol hinv ho2 ⊢
  unfold splitI at hinv
  dsimp only at hinv
  have hxe : (mkS s).extract fr i = mkS (mid s fr i) := mkS_ext _ _ _
  by_cases hle : i ≤ s.length
  · rw [if_pos hle] at hinv
    by_cases hlt : i < s.length
    · obtain ⟨d, hd, hdr⟩ := drop_get hlt
      rw [hdr] at hinv
      by_cases hdc : d = 47
      · subst hdc
        rw [glueF_cut] at hinv
        ((conv => whnf); repeat (any_goals (first | ((refine IdxH.nat i rfl (by omega) ?_; (conv => whnf); rw [hd]); (conv => whnf)) | ((refine BndH.nat fr rfl (by omega) ?_); (conv => whnf)) | ((refine BndH.nat i rfl (by omega) ?_); (conv => whnf)) | (refine Vc.stp ?_; intros; (conv => whnf)) | (refine Vc.spl ?_ ?_ <;> (intro _; (conv => whnf))))))
        rename_i H5 hs5 hb5 hx5 a6 c6 H6 ho6 hx6
        refine ⟨⟨i + 1, i + 1, out ++ [mid s fr i], a6, c6⟩, ⟨rfl, rfl, sl_snocS _ _ _ _, trivial⟩, ⟨by show i + 1 ≤ _; omega, Nat.le_refl _, by show (out ++ [_]).length ≤ i + 1; simp; omega, ?_, own_snocS hxe ho6, hx6⟩, by show s.length + 1 - (i + 1) < s.length + 1 - i; omega⟩
        unfold splitI
        rw [if_pos (show i + 1 ≤ s.length by omega), hinv]
        show _ = (out ++ [mid s fr i]) ++ glueF (mid s (i + 1) (i + 1)) (splitF 47 (s.drop (i + 1)))
        rw [mid_self, glueF_nil _ (split_ne _ _)]; simp
      · have hne : d.toNat ≠ 47 := ne_nat 47 (by decide) hdc
        rw [glueF_step hdc, ← mid_snoc hfr hdr] at hinv
        ((conv => whnf); repeat (any_goals (first | ((refine IdxH.nat i rfl (by omega) ?_; (conv => whnf); rw [hd]); (conv => whnf)) | (refine Vc.stp ?_; intros; (conv => whnf)) | (refine Vc.spl ?_ ?_ <;> (intro _; (conv => whnf))))))
        refine ⟨⟨i + 1, fr, out, a, cap⟩, ⟨rfl, rfl, rfl, trivial⟩, ⟨by show i + 1 ≤ _; omega, by show fr ≤ i + 1; omega, by show out.length ≤ i + 1; omega, ?_, ho2, hx2⟩, by show s.length + 1 - (i + 1) < s.length + 1 - i; omega⟩
        unfold splitI
        rw [if_pos (show i + 1 ≤ s.length by omega), hinv]
    · have hil : i = s.length := by omega
      subst hil
      rw [List.drop_of_length_le (by omega)] at hinv
      ((conv => whnf); repeat (any_goals (first | ((refine BndH.nat fr rfl (by omega) ?_); (conv => whnf)) | ((refine BndH.nat s.length rfl (by omega) ?_); (conv => whnf)) | (refine Vc.stp ?_; intros; (conv => whnf)) | (refine Vc.spl ?_ ?_ <;> (intro _; (conv => whnf))))))
      rename_i H5 hs5 hb5 hx5 a6 c6 H6 ho6 hx6
      refine ⟨⟨s.length + 1, s.length + 1, out ++ [mid s fr s.length], a6, c6⟩, ⟨rfl, rfl, sl_snocS _ _ _ _, trivial⟩, ⟨Nat.le_refl _, Nat.le_refl _, by show (out ++ [_]).length ≤ s.length + 1; simp; omega, ?_, own_snocS hxe ho6, hx6⟩, by show s.length + 1 - (s.length + 1) < s.length + 1 - s.length; omega⟩
      unfold splitI
      rw [if_neg (show ¬ s.length + 1 ≤ s.length by omega), hinv]
      show _ = out ++ [mid s fr s.length]
      unfold splitF glueF; simp
  · rw [if_neg hle] at hinv
    ((conv => whnf); repeat (any_goals (first | (refine Vc.stp ?_; intros; (conv => whnf)) | (refine Vc.spl ?_ ?_ <;> (intro _; (conv => whnf))))))
    rw [hinv]
    exact ⟨⟨a, cap, rfl, ho2⟩, hx2⟩

theorem rbad_any (s : Bs) (hl : s.length ≤ 1000000000) (H : Heap) : CallH Tryz.prog 95 [.string (mkS s)] H fun v H' => v = .bool (badP s) ∧ H = H' := by
  have hsz : (mkS s).size = s.length := rfl
  refine Vc.CallH.body Tryz.func95 Tryz.call95 rfl (by decide +kernel) rfl ?_
  by_cases h32 : 32 < s.length
  · ((conv => whnf); repeat (any_goals (first | (refine Vc.stp ?_; intros; (conv => whnf)) | (refine Vc.spl ?_ ?_ <;> (intro _; (conv => whnf))))))
    exact ⟨by rw [show badP s = true by unfold badP; simp [h32]]; rfl, rfl⟩
  ((conv => whnf); repeat (any_goals (first | (refine Vc.stp ?_; intros; (conv => whnf)) | (refine Vc.spl ?_ ?_ <;> (intro _; (conv => whnf))))))
  refine LoopH.intro (fun (i : Nat) => [(3, .int .i64 i)]) (fun i H' => H = H' ∧ i ≤ s.length ∧ badP s = (s.drop i).any badC) (fun i => s.length - i) 0 ⟨rfl, trivial⟩ ⟨rfl, Nat.zero_le _, by unfold badP; simp [h32]⟩ ?_
  rintro i _ ⟨rfl, hi, hb⟩
  dsimp only
  by_cases hlt : i < s.length
  · obtain ⟨c, hc, hd⟩ := drop_get hlt
    have hcn := c.toNat_lt
    rw [hd, List.any_cons] at hb
    have key : badC c = decide (c.toNat < 33 ∨ 126 < c.toNat ∨ c.toNat = 34 ∨ c.toNat = 92 ∨ c.toNat = 42 ∨ c.toNat = 63 ∨ c.toNat = 58) := by
      unfold badC; rw [Bool.eq_iff_iff]; simp only [Bool.or_eq_true, decide_eq_true_eq, beq_iff_eq, or_assoc]
    cases hbc : badC c
    · rw [hbc] at hb
      rw [hbc] at key
      have key := of_decide_eq_false key.symm
      simp only [not_or] at key
      obtain ⟨c1, c2, c3, c4, c5, c6, c7⟩ := key
      ((conv => whnf); repeat (any_goals (first | ((refine IdxH.nat i rfl (by omega) ?_; (conv => whnf); rw [hc]); (conv => whnf)) | (refine Vc.stp ?_; intros; (conv => whnf)) | (refine Vc.spl ?_ ?_ <;> (intro _; (conv => whnf))))))
      exact ⟨i + 1, ⟨rfl, trivial⟩, ⟨rfl, by omega, by simpa using hb⟩, by omega⟩
    · rw [hbc] at hb
      rw [hbc] at key
      have key := of_decide_eq_true key.symm
      have hbt : badP s = true := by simpa using hb
      ((conv => whnf); repeat (any_goals (first | ((refine IdxH.nat i rfl (by omega) ?_; (conv => whnf); rw [hc]); (conv => whnf)) | (refine Vc.stp ?_; intros; (conv => whnf)) | (refine Vc.spl ?_ ?_ <;> (intro _; (conv => whnf))))))
      all_goals first | exact ⟨by rw [hbt]; rfl, rfl⟩ | (exfalso; omega)
  · rw [List.drop_of_length_le (by omega)] at hb
    ((conv => whnf); repeat (any_goals (first | (refine Vc.stp ?_; intros; (conv => whnf)) | (refine Vc.spl ?_ ?_ <;> (intro _; (conv => whnf))))))
    exact ⟨by rw [hb]; rfl, rfl⟩
theorem glue_take {l : List Bs} {i : Nat} {x : Bs} (h : l[i]? = some x) : glue (l.take (i + 1)) = if i = 0 then x else glue (l.take i) ++ 47 :: x := by
  have hlt : i < l.length := (List.getElem?_eq_some_iff.1 h).1
  rw [List.take_add_one, h]
  split
  · rename_i h0; subst h0; rfl
  · rename_i h0
    exact glue_app (b := [x]) (fun e => by have := congrArg List.length e; rw [List.length_take, List.length_nil] at this; omega) (by simp)
theorem rglue_any (l : List Bs) (a : Option Addr) (n cap : Nat) (H : Heap) (hr : Row H a (strs l)) (hn : l.length = n) (hg : glen l ≤ 1000000000) : CallH Tryz.prog 83 [.slice a n cap] H fun v H' => v = .string (mkS (glue l)) ∧ H = H' := by
  have h1 : ∀ m : List Bs, m.length ≤ glen m := fun m => by
    induction m with
    | nil => exact Nat.zero_le _
    | cons y m ih => rw [show glen (y :: m) = y.length + 1 + glen m by simp [glen], List.length_cons]; omega
  have hlg := h1 l
  refine Vc.CallH.body Tryz.func83 Tryz.call83 rfl (by decide +kernel) rfl ?_
  ((conv => whnf); repeat (any_goals (first | (refine Vc.stp ?_; intros; (conv => whnf)) | (refine Vc.spl ?_ ?_ <;> (intro _; (conv => whnf))))))
  refine LoopH.intro (fun (i : Nat) => [(4, .int .i64 i), (3, .string (mkS (glue (l.take i))))]) (fun i H' => H = H' ∧ i ≤ n) (fun i => n - i) 0 ⟨rfl, rfl, trivial⟩ ⟨rfl, Nat.zero_le _⟩ ?_
  rintro i _ ⟨rfl, hi⟩
  dsimp only
  have hsz : (mkS (glue (l.take i))).size = (glue (l.take i)).length := rfl
  have h47 : (⟨#[47]⟩ : ByteArray).size = 1 := rfl
  have hgt := glue_le (l.take i)
  have htg := take_glen l i
  by_cases hlt : i < n
  · obtain ⟨x, hx⟩ : ∃ x, l[i]? = some x := ⟨_, List.getElem?_eq_getElem (by omega)⟩
    have hst := glue_take hx
    have hxs : (mkS x).size = x.length := rfl
    have hxg : x.length + 1 ≤ glen l := by
      have := congrArg glen (List.take_append_drop (i + 1) l)
      rw [glen_append, List.take_add_one, hx, glen_append] at this
      have e : glen (some x).toList = x.length + 1 := by simp [glen]
      omega
    have hgt2 : (glue (l.take i)).length + x.length + 2 ≤ 3000000000 := by omega
    by_cases h0 : i = 0
    · subst h0
      ((conv => whnf); repeat (any_goals (first | ((refine NeedH.mk ⟨by (simp only [ByteArray.size_append]; omega), ?_⟩); (conv => whnf)) | ((refine IdxA.strv hr hn 0 x (by omega) hx ?_; intro _ _ _ _ _); (conv => whnf)) | (refine Vc.stp ?_; intros; (conv => whnf)) | (refine Vc.spl ?_ ?_ <;> (intro _; (conv => whnf))))))
      exact ⟨1, ⟨rfl, by (show Value.string (mkS [] ++ mkS x) = _; rw [hst, mkS_app]; rfl), trivial⟩, ⟨rfl, by omega⟩, by omega⟩
    · ((conv => whnf); repeat (any_goals (first | ((refine NeedH.mk ⟨by (simp only [ByteArray.size_append]; omega), ?_⟩); (conv => whnf)) | ((refine IdxA.strv hr hn i x (by omega) hx ?_; intro _ _ _ _ _); (conv => whnf)) | (refine Vc.stp ?_; intros; (conv => whnf)) | (refine Vc.spl ?_ ?_ <;> (intro _; (conv => whnf))))))
      exact ⟨i + 1, ⟨rfl, by (show Value.string ((mkS (glue (l.take i)) ++ mkS [47]) ++ mkS x) = _; rw [hst, if_neg h0, mkS_app, mkS_app]; simp), trivial⟩, ⟨rfl, by omega⟩, by omega⟩
  · obtain rfl : i = n := by omega
    ((conv => whnf); repeat (any_goals (first | (refine Vc.stp ?_; intros; (conv => whnf)) | (refine Vc.spl ?_ ?_ <;> (intro _; (conv => whnf))))))
    exact ⟨by rw [← hn, List.take_length]; rfl, rfl⟩
end Go.Proofs.YtihopeogaeinhaaGreatDoor
/- Paths and trees, the reference: paths cleaned, parts, parents; what stands at a path and above it. -/
namespace Go.Vc
/-- nothing behind nothing -/
theorem NextH.none0 {P : Program} {H : Heap} {t u e ty : TypeId} {i : TypeInfo} {a : Option Addr} {c : Nat} {cb : Array Bool} {K : Value → Heap → Prop}
    (ht : P.underlying t = some (.slice e)) (hu : ∃ d, P.underlying u = some d ∧ (∀ k, d ≠ .int k)) (hi : P.info? e = some i) (hk : K (.slice none 0 0) H) :
    NextH P (builtin .append #[t, u] ty cb #[.slice none 0 0, .slice a 0 c]) H K := by
  refine ⟨fun w hw => ?_⟩
  obtain ⟨d, hu, hd⟩ := hu
  have hzero : (match d with | .int _ => true | _ => false) = false := by cases d <;> first | rfl | exact absurd rfl (hd _)
  have hsrc : Src P H (.slice a 0 c) i.size 0 [] := Src.row (Row.nil _ _) (by simp) (by simp)
  have hr : (Builtin.append_ #[t, u] ty #[.slice none 0 0, .slice a 0 c]).run P w = .ok (.slice none 0 0) w := by
    simp [Builtin.append_, underlying_of ht, underlying_of hu, sizeOf_of hi, hzero, hsrc.lenOf, hsrc.first w hw]
  simp only [builtin, Sem.run_bind, hr, Result.andThen_ok]
  exact ⟨Same.refl w, by rw [hw]; exact hk⟩
end Go.Vc
namespace Go.Proofs.YtihopeogaeinhaaGreatDoor
open Go Go.Vc Go.Scr Go.Pth Go.Tre
structure WcS where
  i : Nat
  out : List Bs
  a : Option Addr
  cap : Nat
theorem glen_le_len (m : List Bs) : m.length ≤ glen m := by
  induction m with
  | nil => exact Nat.zero_le _
  | cons y m ih => rw [show glen (y :: m) = y.length + 1 + glen m by simp [glen], List.length_cons]; omega
set_option maxHeartbeats 4000000 in
theorem rclean0_any (s : Bs) (hl : s.length ≤ 100000000) (H : Heap) : CallH Tryz.prog 64 [.string (mkS s), .slice none 0 0] H fun v H' => v = .tuple #[.string (mkS (cleanF s).1), .int .i64 (cleanF s).2] ∧ Ext H H' := by
  have hsz : (mkS s).size = s.length := rfl
  rw [← rclean_nil]
  unfold rcleanF
  by_cases h1 : 200 < s.length
  · rw [if_pos h1]
    refine Vc.CallH.body Tryz.func64 Tryz.call64 rfl (by decide +kernel) rfl ?_
    ((conv => whnf); repeat (any_goals (first | (refine Vc.stp ?_; intros; (conv => whnf)) | (refine Vc.spl ?_ ?_ <;> (intro _; (conv => whnf))))))
    exact ⟨rfl, Ext.refl _⟩
  rw [if_neg h1]
  by_cases h2 : s.head? = some 47
  · rw [if_pos h2]
    obtain ⟨t, rfl⟩ : ∃ t, s = 47 :: t := by
      cases s with
      | nil => cases h2
      | cons c t => exact ⟨t, by have : c = 47 := by simpa using h2
                                 rw [this]⟩
    refine Vc.CallH.body Tryz.func64 Tryz.call64 rfl (by decide +kernel) rfl ?_
    have hpos : 0 < (47 :: t).length := by simp
    ((conv => whnf); repeat (any_goals (first | ((refine IdxH.nat 0 rfl hpos ?_; (conv => whnf); rw [show (mkS (47 :: t)).data.toList.getD 0 0 = 47 from rfl]); (conv => whnf)) | (refine Vc.stp ?_; intros; (conv => whnf)) | (refine Vc.spl ?_ ?_ <;> (intro _; (conv => whnf))))))
    exact ⟨rfl, Ext.refl _⟩
  rw [if_neg h2]
  obtain ⟨S, hS⟩ : ∃ S, splitF 47 s = S := ⟨_, rfl⟩
  have hsp := fun H => rsplit7_any s hl H
  have hg := glen_split s
  have hno := split_no 47 s
  rw [hS] at hsp hg hno ⊢
  have hSl := glen_le_len S
  by_cases hs0 : s = []
  · subst hs0
    have hS1 : S = [[]] := hS.symm
    subst hS1
    have e : walkF ([] : List Txt).length [] [([] : Bs)] = ([], 0) := rfl
    rw [e]
    have hz0 : (mkS []).size = 0 := rfl
    have l1 : [([] : Bs)].length = 1 := rfl
    have hgl := fun H => rglue_any [] none 0 0 H (Row.nil _ _) rfl (by decide)
    refine Vc.CallH.body Tryz.func64 Tryz.call64 rfl (by decide +kernel) rfl ?_
    ((conv => whnf); repeat (any_goals (first | (((with_reducible apply NextH.none0); (focus (rfl)); (focus ((exact ⟨_, rfl, fun _ h => by cases h⟩))); (focus (rfl)); (focus ((conv => whnf)))); (conv => whnf)) | ((refine (hsp _).mono ?_; rintro _ H2 ⟨⟨a2, c2, rfl, ho2⟩, hx2⟩; have hz2 := hx2.size; have hr2 := ho2.row); (conv => whnf)) | (refine Vc.stp ?_; intros; (conv => whnf)) | (refine Vc.spl ?_ ?_ <;> (intro _; (conv => whnf))))))
    refine LoopH.intro (fun (i : Nat) => [(8, .int .i64 i), (6, .slice none 0 0)]) (fun i H' => i ≤ 1 ∧ H2 = H') (fun i => 1 - i) 0 ⟨rfl, rfl, trivial⟩ ⟨Nat.zero_le _, rfl⟩ ?_
    rintro i _ ⟨hi, rfl⟩
    have q0 := eq_empty ([] : Bs)
    by_cases h0 : i = 0
    · subst h0
      rw [decide_eq_true rfl] at q0
      ((conv => whnf); repeat (any_goals (first | ((refine IdxA.strv hr2 rfl 0 [] (by omega) rfl ?_; intro _ _ _ _ _); (conv => whnf)) | (refine Vc.stp ?_; intros; (conv => whnf)) | (refine Vc.spl ?_ ?_ <;> (intro _; (conv => whnf))))))
      exact ⟨1, ⟨rfl, rfl, trivial⟩, ⟨by omega, rfl⟩, by omega⟩
    · obtain rfl : i = 1 := by omega
      ((conv => whnf); repeat (any_goals (first | ((refine (hgl _).mono ?_; rintro _ _ ⟨rfl, rfl⟩); (conv => whnf)) | (refine Vc.stp ?_; intros; (conv => whnf)) | (refine Vc.spl ?_ ?_ <;> (intro _; (conv => whnf))))))
      exact ⟨rfl, hx2⟩
  have hpos : 0 < s.length := List.length_pos_iff.2 hs0
  have hrest : CallH Tryz.prog 64 [.string (mkS s), .slice none 0 0] H fun v H' => v = .tuple #[.string (mkS (glue (walkF 0 [] S).1)), .int .i64 (walkF 0 [] S).2] ∧ Ext H H' := by
    have hc47 : 0 < s.length → ¬ (s.getD 0 0).toNat = 47 := fun hp e => by
      cases s with
      | nil => simp at hp
      | cons c t =>
        apply h2
        have : c.toNat = 47 := e
        rw [show c = 47 from UInt8.toNat_inj.1 this]; rfl
    refine Vc.CallH.body Tryz.func64 Tryz.call64 rfl (by decide +kernel) rfl ?_
    ((conv => whnf); repeat (any_goals (first | ((refine IdxH.nat 0 rfl (by omega) ?_; (conv => whnf); (have hc48 := hc47 (by omega)); (rw [show (mkS s).data.toList.getD 0 0 = s.getD 0 0 from rfl])); (conv => whnf)) | (((with_reducible apply NextH.none0); (focus (rfl)); (focus ((exact ⟨_, rfl, fun _ h => by cases h⟩))); (focus (rfl)); (focus ((conv => whnf)))); (conv => whnf)) | ((refine (hsp _).mono ?_; rintro _ H2 ⟨⟨a2, c2, rfl, ho2⟩, hx2⟩; have hz2 := hx2.size; have hr2 := ho2.row); (conv => whnf)) | (refine Vc.stp ?_; intros; (conv => whnf)) | (refine Vc.spl ?_ ?_ <;> (intro _; (conv => whnf))))))
    · skip
      refine LoopH.intro (fun (x : WcS) => [(8, .int .i64 x.i), (6, .slice x.a x.out.length x.cap)]) (fun x H' => x.i ≤ S.length ∧ x.out.length ≤ x.i ∧ glen x.out ≤ glen (S.take x.i) ∧ walkF 0 [] S = walkF 0 x.out (S.drop x.i) ∧ Own H' H2.size 9 1 x.a x.out.length x.cap (strs x.out) ∧ Ext H2 H') (fun x => S.length - x.i) ⟨0, [], none, 0⟩ ⟨rfl, rfl, trivial⟩ ⟨Nat.zero_le _, Nat.le_refl _, Nat.zero_le _, rfl, Own.nil _ _ _ _, Ext.refl _⟩ ?_
      rintro ⟨i, out, a, cap⟩ H3 ⟨hi, hol, hgo, hw, ho3, hx3⟩
      dsimp only at hi hol hgo hw ho3 ⊢
      have hz3 := hx3.size
      have hr3 := hr2.ext hx3
      by_cases hlt : i < S.length
      · obtain ⟨x, hx⟩ : ∃ x, S[i]? = some x := ⟨_, List.getElem?_eq_getElem (by omega)⟩
        have hdr : S.drop i = x :: S.drop (i + 1) := by
          rw [List.drop_eq_getElem_cons (by omega)]
          rw [List.getElem?_eq_getElem (by omega)] at hx
          rw [Option.some.inj hx]
        have htk : S.take (i + 1) = S.take i ++ [x] := by rw [List.take_add_one, hx]; rfl
        have hgt : glen (S.take (i + 1)) = glen (S.take i) + (x.length + 1) := by rw [htk, glen_append]; simp [glen]
        have hgS := take_glen S (i + 1)
        rw [hdr, walkF] at hw
        have q0 := eq_empty x
        have q1 : ((mkS x).toList == (⟨#[46]⟩ : ByteArray).toList) = decide (x = [46]) := by rw [show (⟨#[46]⟩ : ByteArray) = mkS [46] from rfl, str_beq]; simp [mkS_inj]
        have q2 : ((mkS x).toList == (⟨#[46, 46]⟩ : ByteArray).toList) = decide (x = [46, 46]) := by rw [show (⟨#[46, 46]⟩ : ByteArray) = mkS [46, 46] from rfl, str_beq]; simp [mkS_inj]
        have hbd := fun H => rbad_any x (by omega) H
        by_cases h0 : x = []
        · rw [if_pos (.inl h0)] at hw
          rw [decide_eq_true h0] at q0
          ((conv => whnf); repeat (any_goals (first | ((refine IdxA.strv hr3 rfl i x (by omega) hx ?_; intro _ _ _ _ _); (conv => whnf)) | (refine Vc.stp ?_; intros; (conv => whnf)) | (refine Vc.spl ?_ ?_ <;> (intro _; (conv => whnf))))))
          exact ⟨⟨i + 1, out, a, cap⟩, ⟨rfl, rfl, trivial⟩, ⟨by show i + 1 ≤ _; omega, by show out.length ≤ i + 1; omega, by show glen out ≤ glen (S.take (i + 1)); omega, hw, ho3, hx3⟩, by show S.length - (i + 1) < S.length - i; omega⟩
        rw [decide_eq_false h0] at q0
        by_cases h1' : x = [46]
        · rw [if_pos (.inr h1')] at hw
          rw [decide_eq_true h1'] at q1
          ((conv => whnf); repeat (any_goals (first | ((refine IdxA.strv hr3 rfl i x (by omega) hx ?_; intro _ _ _ _ _); (conv => whnf)) | (refine Vc.stp ?_; intros; (conv => whnf)) | (refine Vc.spl ?_ ?_ <;> (intro _; (conv => whnf))))))
          exact ⟨⟨i + 1, out, a, cap⟩, ⟨rfl, rfl, trivial⟩, ⟨by show i + 1 ≤ _; omega, by show out.length ≤ i + 1; omega, by show glen out ≤ glen (S.take (i + 1)); omega, hw, ho3, hx3⟩, by show S.length - (i + 1) < S.length - i; omega⟩
        rw [decide_eq_false h1'] at q1
        rw [if_neg (fun e => e.elim h0 h1')] at hw
        by_cases h2' : x = [46, 46]
        · rw [decide_eq_true h2'] at q2
          rw [if_pos h2'] at hw
          by_cases hl0 : out.length ≤ 0
          · rw [if_pos hl0] at hw
            rw [hw]
            ((conv => whnf); repeat (any_goals (first | ((refine IdxA.strv hr3 rfl i x (by omega) hx ?_; intro _ _ _ _ _); (conv => whnf)) | (refine Vc.stp ?_; intros; (conv => whnf)) | (refine Vc.spl ?_ ?_ <;> (intro _; (conv => whnf))))))
            exact ⟨rfl, by (repeat (first | assumption | exact Vc.Ext.refl _ | ((with_reducible apply Vc.Ext.trans); (case k => assumption)) | ((with_reducible apply Vc.Ext.but); (case k => assumption); (case hb => omega))))⟩
          · rw [if_neg hl0] at hw
            have hcl3 := ho3.cap_le
            ((conv => whnf); repeat (any_goals (first | ((refine IdxA.strv hr3 rfl i x (by omega) hx ?_; intro _ _ _ _ _); (conv => whnf)) | ((refine BndH.nat (out.length - 1) (by omega) (by omega) ?_); (conv => whnf)) | (refine Vc.stp ?_; intros; (conv => whnf)) | (refine Vc.spl ?_ ?_ <;> (intro _; (conv => whnf))))))
            have hdl : out.dropLast.length = out.length - 1 := List.length_dropLast
            have hcut := ho3.cut (out.length - 1) (by omega)
            have ecut : (strs out).take ((out.length - 1) * 1) = strs out.dropLast := by rw [Nat.mul_one, List.dropLast_eq_take]; simp [strs, List.map_take]
            rw [ecut, ← hdl] at hcut
            have hgd := glen_dropLast out
            exact ⟨⟨i + 1, out.dropLast, a, cap⟩, ⟨rfl, by dsimp only; rw [hdl]; rfl, trivial⟩, ⟨by show i + 1 ≤ _; omega, by show out.dropLast.length ≤ i + 1; omega, by show glen out.dropLast ≤ glen (S.take (i + 1)); omega, hw, hcut, hx3⟩, by show S.length - (i + 1) < S.length - i; omega⟩
        rw [decide_eq_false h2'] at q2
        rw [if_neg h2'] at hw
        by_cases hb : badP x = true
        · rw [if_pos hb] at hw
          rw [hb] at hbd
          rw [hw]
          ((conv => whnf); repeat (any_goals (first | ((refine IdxA.strv hr3 rfl i x (by omega) hx ?_; intro _ _ _ _ _); (conv => whnf)) | ((refine (hbd _).mono ?_; rintro _ _ ⟨rfl, rfl⟩); (conv => whnf)) | (refine Vc.stp ?_; intros; (conv => whnf)) | (refine Vc.spl ?_ ?_ <;> (intro _; (conv => whnf))))))
          exact ⟨rfl, by (repeat (first | assumption | exact Vc.Ext.refl _ | ((with_reducible apply Vc.Ext.trans); (case k => assumption)) | ((with_reducible apply Vc.Ext.but); (case k => assumption); (case hb => omega))))⟩
        · rw [if_neg hb] at hw
          have hb : badP x = false := by simpa using hb
          rw [hb] at hbd
          ((conv => whnf); repeat (any_goals (first | ((refine IdxA.strv hr3 rfl i x (by omega) hx ?_; intro _ _ _ _ _); (conv => whnf)) | ((refine (hbd _).mono ?_; rintro _ _ ⟨rfl, rfl⟩); (conv => whnf)) | (refine Vc.stp ?_; intros; (conv => whnf)) | (refine Vc.spl ?_ ?_ <;> (intro _; (conv => whnf))))))
          rename_i H5 hs5 hb5 hx5 a6 c6 H6 ho6 hx6
          exact ⟨⟨i + 1, out ++ [x], a6, c6⟩, ⟨rfl, sl_snocS _ _ _ _, trivial⟩, ⟨by show i + 1 ≤ _; omega, by show (out ++ [x]).length ≤ i + 1; rw [List.length_append]; simp; omega, by show glen (out ++ [x]) ≤ glen (S.take (i + 1)); rw [glen_append, hgt, show glen [x] = x.length + 1 by simp [glen]]; omega, hw, own_snocS rfl ho6, hx6⟩, by show S.length - (i + 1) < S.length - i; omega⟩
      · obtain rfl : i = S.length := by omega
        rw [List.drop_of_length_le (by omega), walkF] at hw
        rw [hw]
        have hgo' : glen out ≤ s.length + 1 := by rw [List.take_length] at hgo; omega
        have hgl := fun H' (k : Ext H3 H') => rglue_any out a out.length cap H' (ho3.row.ext k) rfl (by omega)
        by_cases hd : 12 < out.length
        · rw [if_pos hd]
          ((conv => whnf); repeat (any_goals (first | (refine Vc.stp ?_; intros; (conv => whnf)) | (refine Vc.spl ?_ ?_ <;> (intro _; (conv => whnf))))))
          exact ⟨rfl, by (repeat (first | assumption | exact Vc.Ext.refl _ | ((with_reducible apply Vc.Ext.trans); (case k => assumption)) | ((with_reducible apply Vc.Ext.but); (case k => assumption); (case hb => omega))))⟩
        · rw [if_neg hd]
          ((conv => whnf); repeat (any_goals (first | ((refine (hgl _ (by (repeat (first | assumption | exact Vc.Ext.refl _ | ((with_reducible apply Vc.Ext.trans); (case k => assumption)) | ((with_reducible apply Vc.Ext.but); (case k => assumption); (case hb => omega)))))).mono ?_; rintro _ _ ⟨rfl, rfl⟩); (conv => whnf)) | (refine Vc.stp ?_; intros; (conv => whnf)) | (refine Vc.spl ?_ ?_ <;> (intro _; (conv => whnf))))))
          exact ⟨rfl, by (repeat (first | assumption | exact Vc.Ext.refl _ | ((with_reducible apply Vc.Ext.trans); (case k => assumption)) | ((with_reducible apply Vc.Ext.but); (case k => assumption); (case hb => omega))))⟩
  exact hrest
theorem rclean_any (s : Bs) (hl : s.length ≤ 100000000) (H : Heap) : CallH Tryz.prog 26 [.string (mkS s)] H fun v H' => v = .tuple #[.string (mkS (cleanF s).1), .int .i64 (cleanF s).2] ∧ Ext H H' := by
  refine Vc.CallH.body Tryz.func26 Tryz.call26 rfl (by decide +kernel) rfl ?_
  ((conv => whnf); repeat (any_goals (first | ((refine (rclean0_any s hl _).mono ?_; rintro _ H2 ⟨rfl, hx2⟩); (conv => whnf)) | (refine Vc.stp ?_; intros; (conv => whnf)) | (refine Vc.spl ?_ ?_ <;> (intro _; (conv => whnf))))))
  exact ⟨rfl, hx2⟩
end Go.Proofs.YtihopeogaeinhaaGreatDoor
/- The reference's trees: parts, parents, what stands at a path and above it. -/
namespace Go.Proofs.YtihopeogaeinhaaGreatDoor
open Go Go.Vc Go.Scr Go.Pth Go.Tre
theorem rparts_any (p : Bs) (hl : p.length ≤ 100000000) (H : Heap) : CallH Tryz.prog 42 [.string (mkS p)] H fun v H' => (∃ a cap, v = .slice a (partsF p).length cap ∧ Own H' H.size 9 1 a (partsF p).length cap (strs (partsF p))) ∧ Ext H H' := by
  have e0 := eq_empty p
  have hsp := fun H => rsplit7_any p hl H
  refine Vc.CallH.body Tryz.func42 Tryz.call42 rfl (by decide +kernel) rfl ?_
  unfold partsF
  by_cases hp : p = []
  · rw [decide_eq_true hp] at e0
    rw [if_pos hp]
    ((conv => whnf); repeat (any_goals (first | (refine Vc.stp ?_; intros; (conv => whnf)) | (refine Vc.spl ?_ ?_ <;> (intro _; (conv => whnf))))))
    exact ⟨⟨none, 0, rfl, Own.nil _ _ _ _⟩, Ext.refl _⟩
  · rw [decide_eq_false hp] at e0
    rw [if_neg hp]
    ((conv => whnf); repeat (any_goals (first | ((refine (hsp _).mono ?_; rintro _ H2 ⟨⟨a2, c2, rfl, ho2⟩, hx2⟩); (conv => whnf)) | (refine Vc.stp ?_; intros; (conv => whnf)) | (refine Vc.spl ?_ ?_ <;> (intro _; (conv => whnf))))))
    exact ⟨⟨a2, c2, rfl, ho2⟩, hx2⟩
theorem glen_parts (p : Bs) : glen (partsF p) ≤ p.length + 1 := by
  unfold partsF
  split
  · exact Nat.zero_le _
  · rw [glen_split]; exact Nat.le_refl _
theorem rparent_any (p : Bs) (hl : p.length ≤ 100000000) (H : Heap) : CallH Tryz.prog 44 [.string (mkS p)] H fun v H' => v = .string (mkS (parentF p)) ∧ Ext H H' := by
  have hpa := fun H => rparts_any p hl H
  have hgl := glen_parts p
  unfold parentF
  obtain ⟨S, hS⟩ : ∃ S, partsF p = S := ⟨_, rfl⟩
  rw [hS] at hpa hgl ⊢
  have hSl := glen_le_len S
  refine Vc.CallH.body Tryz.func44 Tryz.call44 rfl (by decide +kernel) rfl ?_
  by_cases h0 : S.length = 0
  · have : S = [] := List.eq_nil_of_length_eq_zero h0
    subst this
    ((conv => whnf); repeat (any_goals (first | ((refine (hpa _).mono ?_; rintro _ H2 ⟨⟨a2, c2, rfl, ho2⟩, hx2⟩; have hz2 := hx2.size); (conv => whnf)) | (refine Vc.stp ?_; intros; (conv => whnf)) | (refine Vc.spl ?_ ?_ <;> (intro _; (conv => whnf))))))
    exact ⟨rfl, hx2⟩
  · have hgd := glen_dropLast S
    have hdl : S.dropLast.length = S.length - 1 := List.length_dropLast
    have ecut : (strs S).take ((S.length - 1) * 1) = strs S.dropLast := by rw [Nat.mul_one, List.dropLast_eq_take]; simp [strs, List.map_take]
    ((conv => whnf); repeat (any_goals (first | ((refine (hpa _).mono ?_; rintro _ H2 ⟨⟨a2, c2, rfl, ho2⟩, hx2⟩; have hz2 := hx2.size; have hcl := ho2.cap_le; have hcut := ho2.cut (S.length - 1) (by omega)); (conv => whnf)) | ((refine BndH.nat (S.length - 1) (by omega) (by omega) ?_); (conv => whnf)) | ((refine (rglue_any S.dropLast a2 (S.length - 1) c2 _ (by (have := hcut.row); rw [ecut] at this; exact this) hdl (by omega)).mono ?_; rintro _ _ ⟨rfl, rfl⟩); (conv => whnf)) | (refine Vc.stp ?_; intros; (conv => whnf)) | (refine Vc.spl ?_ ?_ <;> (intro _; (conv => whnf))))))
    exact ⟨rfl, hx2⟩
theorem rwithin_any (p d : Bs) (hl : p.length ≤ 100000000) (hd : d.length ≤ 100000000) (H : Heap) : CallH Tryz.prog 35 [.string (mkS p), .string (mkS d)] H fun v H' => v = .bool (withinF p d) ∧ H = H' := by
  have hsz : (mkS p).size = p.length := rfl
  have hsd : (mkS d).size = d.length := rfl
  have e0 := eq_empty d
  have e1 : ((mkS p).toList == (mkS d).toList) = decide (p = d) := by rw [str_beq]; simp [mkS_inj]
  unfold withinF
  by_cases h0 : d = []
  · rw [decide_eq_true h0] at e0
    refine Vc.CallH.body Tryz.func35 Tryz.call35 rfl (by decide +kernel) rfl ?_
    ((conv => whnf); repeat (any_goals (first | (refine Vc.stp ?_; intros; (conv => whnf)) | (refine Vc.spl ?_ ?_ <;> (intro _; (conv => whnf))))))
    exact ⟨by rw [h0]; rfl, rfl⟩
  rw [decide_eq_false h0] at e0
  by_cases h1 : p = d
  · rw [decide_eq_true h1] at e1
    refine Vc.CallH.body Tryz.func35 Tryz.call35 rfl (by decide +kernel) rfl ?_
    ((conv => whnf); repeat (any_goals (first | (refine Vc.stp ?_; intros; (conv => whnf)) | (refine Vc.spl ?_ ?_ <;> (intro _; (conv => whnf))))))
    exact ⟨by rw [h1]; simp; rfl, rfl⟩
  rw [decide_eq_false h1] at e1
  have er : (d == [] || p == d || (d ++ [47]).isPrefixOf p) = (d ++ [47]).isPrefixOf p := by simp [h0, h1]
  rw [er]
  by_cases h2 : d.length < p.length
  · have ex : (mkS p).extract 0 d.length = mkS (p.take d.length) := mkS_take _ _
    have e2 : ((mkS (p.take d.length)).toList == (mkS d).toList) = decide (p.take d.length = d) := by rw [str_beq]; simp [mkS_inj]
    by_cases h3 : p.take d.length = d
    · rw [decide_eq_true h3] at e2
      obtain ⟨c, hc, hdr⟩ := drop_get h2
      have hpd : p = d ++ c :: p.drop (d.length + 1) := by
        rw [← hdr]; conv => lhs; rw [← List.take_append_drop d.length p, h3]
      by_cases h4 : c = 47
      · have ep : (d ++ [47]).isPrefixOf p = true := by rw [List.isPrefixOf_iff_prefix]; exact ⟨p.drop (d.length + 1), by rw [List.append_assoc, ← h4]; exact hpd.symm⟩
        have h4' : c.toNat = 47 := by rw [h4]; rfl
        rw [ep]
        refine Vc.CallH.body Tryz.func35 Tryz.call35 rfl (by decide +kernel) rfl ?_
        ((conv => whnf); repeat (any_goals (first | ((refine BndH.nat d.length rfl (by omega) ?_; (conv => whnf); rw [ex, e2]); (conv => whnf)) | ((refine IdxH.nat d.length rfl (by omega) ?_; (conv => whnf); rw [hc]); (conv => whnf)) | (refine Vc.stp ?_; intros; (conv => whnf)) | (refine Vc.spl ?_ ?_ <;> (intro _; (conv => whnf))))))
        exact ⟨by rw [h4']; rfl, rfl⟩
      · have ep : (d ++ [47]).isPrefixOf p = false := by
          rw [Bool.eq_false_iff, Ne, List.isPrefixOf_iff_prefix]
          rintro ⟨t, e⟩
          rw [List.append_assoc] at e
          have := List.append_cancel_left (e.trans hpd)
          simp at this
          exact h4 this.1.symm
        have h4' : c.toNat ≠ 47 := ne_nat 47 (by decide) h4
        rw [ep]
        refine Vc.CallH.body Tryz.func35 Tryz.call35 rfl (by decide +kernel) rfl ?_
        ((conv => whnf); repeat (any_goals (first | ((refine BndH.nat d.length rfl (by omega) ?_; (conv => whnf); rw [ex, e2]); (conv => whnf)) | ((refine IdxH.nat d.length rfl (by omega) ?_; (conv => whnf); rw [hc]); (conv => whnf)) | (refine Vc.stp ?_; intros; (conv => whnf)) | (refine Vc.spl ?_ ?_ <;> (intro _; (conv => whnf))))))
        exact ⟨by (show Value.bool (decide _) = _); rw [decide_eq_false (by omega)], rfl⟩
    · rw [decide_eq_false h3] at e2
      have ep : (d ++ [47]).isPrefixOf p = false := by
        rw [Bool.eq_false_iff, Ne, List.isPrefixOf_iff_prefix]
        rintro ⟨t, e⟩
        exact h3 (by rw [← e]; simp)
      rw [ep]
      refine Vc.CallH.body Tryz.func35 Tryz.call35 rfl (by decide +kernel) rfl ?_
      ((conv => whnf); repeat (any_goals (first | ((refine BndH.nat d.length rfl (by omega) ?_; (conv => whnf); rw [ex, e2]); (conv => whnf)) | (refine Vc.stp ?_; intros; (conv => whnf)) | (refine Vc.spl ?_ ?_ <;> (intro _; (conv => whnf))))))
      exact ⟨rfl, rfl⟩
  · have ep : (d ++ [47]).isPrefixOf p = false := by
      rw [Bool.eq_false_iff, Ne, List.isPrefixOf_iff_prefix]
      intro h; have := h.length_le; rw [List.length_append] at this; simp at this; omega
    rw [ep]
    refine Vc.CallH.body Tryz.func35 Tryz.call35 rfl (by decide +kernel) rfl ?_
    ((conv => whnf); repeat (any_goals (first | (refine Vc.stp ?_; intros; (conv => whnf)) | (refine Vc.spl ?_ ?_ <;> (intro _; (conv => whnf))))))
    exact ⟨rfl, rfl⟩
/-- what at answers -/
def RatV (v : Value) (A : Tr) (p : Txt) : Prop := (mget A p = none ∧ v = .int .i64 (-1)) ∨ ∃ (i : Nat) (n : Tre.Node), A[i]? = some (p, n) ∧ mget A p = some n ∧ v = .int .i64 i
theorem rat_any {b : Nat} {A : Tr} {H : Heap} (h : RTree H b A) (p : Bs) (hAl : A.length ≤ 1000000000) : CallH Tryz.prog 77 [.pointer (some ⟨b, 0, none⟩), .string (mkS p)] H fun v H' => RatV v A p ∧ H = H' := by
  obtain ⟨a, cap, hb, hr⟩ := h.out
  refine Vc.CallH.body Tryz.func77 Tryz.call77 rfl (by decide +kernel) rfl ?_
  ((conv => whnf); repeat (any_goals (first | (refine Vc.stp ?_; intros; (conv => whnf)) | (refine Vc.spl ?_ ?_ <;> (intro _; (conv => whnf))))))
  refine LoopH.intro (fun (i : Nat) => [(5, .int .i64 i)]) (fun i H' => H = H' ∧ i ≤ A.length ∧ mget A p = mget (A.drop i) p) (fun i => A.length - i) 0 ⟨rfl, trivial⟩ ⟨rfl, Nat.zero_le _, rfl⟩ ?_
  rintro i _ ⟨rfl, hi, hm⟩
  by_cases hlt : i < A.length
  · obtain ⟨x, hx⟩ : ∃ x, A[i]? = some x := ⟨_, List.getElem?_eq_getElem (by omega)⟩
    have hdr : A.drop i = x :: A.drop (i + 1) := by
      rw [List.drop_eq_getElem_cons (by omega)]
      rw [List.getElem?_eq_getElem (by omega)] at hx
      rw [Option.some.inj hx]
    rw [hdr] at hm
    simp only [mget] at hm
    have e1 : ((mkS x.1).toList == (mkS p).toList) = decide (x.1 = p) := by rw [str_beq]; simp [mkS_inj]
    by_cases hp : x.1 = p
    · rw [decide_eq_true hp] at e1
      rw [if_pos hp.symm] at hm
      ((conv => whnf); repeat (any_goals (first | ((refine IdxA.file hr rfl i x (by omega) hx ?_; intro bi oi ai ci hri hci; have hc0 := hci 0 _ rfl; have hc1 := hci 1 _ rfl; have hc2 := hci 2 _ rfl); (conv => whnf)) | (refine Vc.stp ?_; intros; (conv => whnf)) | (refine Vc.spl ?_ ?_ <;> (intro _; (conv => whnf))))))
      exact ⟨.inr ⟨i, x.2, by rw [hx, ← hp], hm, rfl⟩, rfl⟩
    · rw [decide_eq_false hp] at e1
      rw [if_neg (fun e => hp e.symm)] at hm
      ((conv => whnf); repeat (any_goals (first | ((refine IdxA.file hr rfl i x (by omega) hx ?_; intro bi oi ai ci hri hci; have hc0 := hci 0 _ rfl; have hc1 := hci 1 _ rfl; have hc2 := hci 2 _ rfl); (conv => whnf)) | (refine Vc.stp ?_; intros; (conv => whnf)) | (refine Vc.spl ?_ ?_ <;> (intro _; (conv => whnf))))))
      exact ⟨i + 1, ⟨rfl, trivial⟩, ⟨rfl, by omega, hm⟩, by omega⟩
  · rw [List.drop_of_length_le (by omega)] at hm
    ((conv => whnf); repeat (any_goals (first | (refine Vc.stp ?_; intros; (conv => whnf)) | (refine Vc.spl ?_ ?_ <;> (intro _; (conv => whnf))))))
    exact ⟨.inl ⟨hm, rfl⟩, rfl⟩
def RaheadV (H' : Heap) (base : Nat) (v : Value) (A : Tr) (p : Txt) : Prop :=
  if fileF A p = true then v = .tuple #[.bool true, .slice none 0 0]
  else ∃ a cap, v = .tuple #[.bool false, .slice a (lackF A p).length cap] ∧ Own H' base 9 1 a (lackF A p).length cap (strs (lackF A p))
structure RaS where
  m : Nat
  out : List Bs
  a : Option Addr
  cap : Nat
set_option maxHeartbeats 1000000 in
theorem rahead_any {b : Nat} {A : Tr} {H : Heap} (h : RTree H b A) {p : Bs} (hl : p.length ≤ 100000000) (hAl : A.length ≤ 1000000000) : CallH Tryz.prog 78 [.pointer (some ⟨b, 0, none⟩), .string (mkS p)] H fun v H' => RaheadV H' H.size v A p ∧ Ext H H' := by
  have hpa := fun H => rparts_any p hl H
  have hglp := glen_parts p
  obtain ⟨S, hS⟩ : ∃ S, partsF p = S := ⟨_, rfl⟩
  obtain ⟨ps, hps⟩ : ∃ ps, pars p = ps := ⟨_, rfl⟩
  have hpl : ps.length = S.length - 1 := by rw [← hps, pars_len, hS]
  have hpg : ∀ m, m < S.length - 1 → ps[m]? = some (glue (S.take (m + 1))) := fun m hm => by rw [← hps, pars_get _ (by rw [hS]; exact hm), hS]
  rw [hS] at hpa hglp
  have hSl := glen_le_len S
  refine Vc.CallH.body Tryz.func78 Tryz.call78 rfl (by decide +kernel) rfl ?_
  ((conv => whnf); repeat (any_goals (first | ((refine (hpa _).mono ?_; rintro _ H1 ⟨⟨a1, c1, rfl, ho1⟩, hx1⟩; have hz1 := hx1.size; have hcl1 := ho1.cap_le); (conv => whnf)) | (refine Vc.stp ?_; intros; (conv => whnf)) | (refine Vc.spl ?_ ?_ <;> (intro _; (conv => whnf))))))
  refine LoopH.intro (fun (x : RaS) => [(8, .int .i64 ((x.m : Int) + 1)), (6, .slice x.a x.out.length x.cap)])
    (fun x H' => x.m ≤ S.length ∧ x.out.length ≤ x.m ∧ (x.m ≤ S.length - 1 ∨ S.length = 0 ∧ x.m = 0) ∧ x.out = ((ps.take x.m).filter fun d => (mget A d).isNone) ∧ (∀ d ∈ ps.take x.m, ∀ n, mget A d = some n → n.1 = true) ∧ Own H' H1.size 9 1 x.a x.out.length x.cap (strs x.out) ∧ Ext H1 H') (fun x => S.length - x.m) ⟨0, [], none, 0⟩ ⟨rfl, rfl, trivial⟩
    ⟨Nat.zero_le _, Nat.le_refl _, by (show 0 ≤ S.length - 1 ∨ _; exact .inl (Nat.zero_le _)), rfl, by (intro d hd; cases hd), Own.nil _ _ _ _, Ext.refl _⟩ ?_
  rintro ⟨m, out, a, cap⟩ H2 ⟨hm, hol, hm2, hout, hdir, ho2, hx2⟩
  dsimp only at hm hol hm2 hout hdir ho2 ⊢
  have hz2 := hx2.size
  have hx02 : Ext H H2 := hx1.trans hx2
  have hr1 := ho1.row.ext hx2
  obtain ⟨ta, tcap, htb, htr⟩ := (h.ext hx02).out
  by_cases hlt : m + 1 < S.length
  · have hget := hpg m (by omega)
    have htk : ps.take (m + 1) = ps.take m ++ [glue (S.take (m + 1))] := by rw [List.take_add_one, hget]; rfl
    have hcut := hr1.take (m + 1)
    have ecut : (strs S).take (m + 1) = strs (S.take (m + 1)) := by simp [strs, List.map_take]
    rw [ecut] at hcut
    have htl : (S.take (m + 1)).length = m + 1 := by rw [List.length_take]; omega
    have htg := take_glen S (m + 1)
    have hgl := fun H' (k : Ext H2 H') => rglue_any (S.take (m + 1)) a1 (m + 1) c1 H' (hcut.ext k) htl (by omega)
    have hat := fun H' (k : Ext H2 H') => rat_any ((h.ext hx02).ext k) (glue (S.take (m + 1))) hAl
    cases hg : mget A (glue (S.take (m + 1))) with
    | none =>
      unfold RatV at hat
      rw [hg] at hat
      ((conv => whnf); repeat (any_goals (first | ((refine BndH.nat (m + 1) (by omega) (by omega) ?_); (conv => whnf)) | ((refine (hgl _ (by (repeat (first | assumption | exact Vc.Ext.refl _ | ((with_reducible apply Vc.Ext.trans); (case k => assumption)) | ((with_reducible apply Vc.Ext.but); (case k => assumption); (case hb => omega)))))).mono ?_; rintro _ _ ⟨rfl, rfl⟩); (conv => whnf)) | ((refine (hat _ (by (repeat (first | assumption | exact Vc.Ext.refl _ | ((with_reducible apply Vc.Ext.trans); (case k => assumption)) | ((with_reducible apply Vc.Ext.but); (case k => assumption); (case hb => omega)))))).mono ?_; rintro _ _ ⟨(⟨_, rfl⟩ | ⟨_, _, _, hcon, _⟩), rfl⟩; rotate_left; exact absurd hcon (by simp)); (conv => whnf)) | (refine Vc.stp ?_; intros; (conv => whnf)) | (refine Vc.spl ?_ ?_ <;> (intro _; (conv => whnf))))))
      rename_i H5 hs5 hb5 hx5 a6 c6 H6 ho6 hx6
      refine ⟨⟨m + 1, out ++ [glue (S.take (m + 1))], a6, c6⟩, ⟨rfl, sl_snocS _ _ _ _, trivial⟩, ⟨by show m + 1 ≤ S.length; omega, by show (out ++ [_]).length ≤ m + 1; rw [List.length_append, List.length_singleton]; omega, .inl (by show m + 1 ≤ S.length - 1; omega), ?_, ?_, own_snocS rfl ho6, hx6⟩, by show S.length - (m + 1) < S.length - m; omega⟩
      · show out ++ _ = _
        rw [htk, List.filter_append, ← hout, List.filter_cons, if_pos (by rw [hg]; rfl)]; rfl
      · show ∀ d ∈ ps.take (m + 1), _
        rw [htk]
        intro d hd n hn
        rcases List.mem_append.1 hd with hd | hd
        · exact hdir d hd n hn
        · rw [List.mem_singleton] at hd; subst hd; rw [hg] at hn; cases hn
    | some n =>
      unfold RatV at hat
      rw [hg] at hat
      obtain ⟨dir, t⟩ := n
      cases dir with
      | true =>
        ((conv => whnf); repeat (any_goals (first | ((refine BndH.nat (m + 1) (by omega) (by omega) ?_); (conv => whnf)) | ((refine (hgl _ (by (repeat (first | assumption | exact Vc.Ext.refl _ | ((with_reducible apply Vc.Ext.trans); (case k => assumption)) | ((with_reducible apply Vc.Ext.but); (case k => assumption); (case hb => omega)))))).mono ?_; rintro _ _ ⟨rfl, rfl⟩); (conv => whnf)) | ((refine (hat _ (by (repeat (first | assumption | exact Vc.Ext.refl _ | ((with_reducible apply Vc.Ext.trans); (case k => assumption)) | ((with_reducible apply Vc.Ext.but); (case k => assumption); (case hb => omega)))))).mono ?_; rintro _ _ ⟨(⟨hcon, _⟩ | ⟨k, nn, hk, hnn, rfl⟩), rfl⟩; cases hcon; (obtain rfl := Option.some.inj hnn); (have hkl := (List.getElem?_eq_some_iff.1 hk).1)); (conv => whnf)) | ((refine IdxA.file htr rfl k _ (by omega) hk ?_; intro bi oi ai ci hri hci; have hc1 := hci 1 _ rfl); (conv => whnf)) | (refine Vc.stp ?_; intros; (conv => whnf)) | (refine Vc.spl ?_ ?_ <;> (intro _; (conv => whnf))))))
        refine ⟨⟨m + 1, out, a, cap⟩, ⟨rfl, rfl, trivial⟩, ⟨by show m + 1 ≤ S.length; omega, by show out.length ≤ m + 1; omega, .inl (by show m + 1 ≤ S.length - 1; omega), ?_, ?_, ho2, hx2⟩, by show S.length - (m + 1) < S.length - m; omega⟩
        · show out = _
          rw [htk, List.filter_append, ← hout, List.filter_cons, if_neg (by rw [hg]; simp)]; simp
        · show ∀ d ∈ ps.take (m + 1), _
          rw [htk]
          intro d hd n hn
          rcases List.mem_append.1 hd with hd | hd
          · exact hdir d hd n hn
          · rw [List.mem_singleton] at hd; subst hd; rw [hg] at hn; cases hn; rfl
      | false =>
        ((conv => whnf); repeat (any_goals (first | ((refine BndH.nat (m + 1) (by omega) (by omega) ?_); (conv => whnf)) | ((refine (hgl _ (by (repeat (first | assumption | exact Vc.Ext.refl _ | ((with_reducible apply Vc.Ext.trans); (case k => assumption)) | ((with_reducible apply Vc.Ext.but); (case k => assumption); (case hb => omega)))))).mono ?_; rintro _ _ ⟨rfl, rfl⟩); (conv => whnf)) | ((refine (hat _ (by (repeat (first | assumption | exact Vc.Ext.refl _ | ((with_reducible apply Vc.Ext.trans); (case k => assumption)) | ((with_reducible apply Vc.Ext.but); (case k => assumption); (case hb => omega)))))).mono ?_; rintro _ _ ⟨(⟨hcon, _⟩ | ⟨k, nn, hk, hnn, rfl⟩), rfl⟩; cases hcon; (obtain rfl := Option.some.inj hnn); (have hkl := (List.getElem?_eq_some_iff.1 hk).1)); (conv => whnf)) | ((refine IdxA.file htr rfl k _ (by omega) hk ?_; intro bi oi ai ci hri hci; have hc1 := hci 1 _ rfl); (conv => whnf)) | (refine Vc.stp ?_; intros; (conv => whnf)) | (refine Vc.spl ?_ ?_ <;> (intro _; (conv => whnf))))))
        have hff : fileF A p = true := by
          unfold fileF
          rw [List.any_eq_true, hps]
          exact ⟨_, List.mem_of_getElem? hget, by rw [hg]; rfl⟩
        refine ⟨?_, hx02⟩
        unfold RaheadV
        rw [if_pos hff]; rfl
  · have hall : ps.take m = ps := List.take_of_length_le (by omega)
    rw [hall] at hout hdir
    have hff : fileF A p = false := by
      unfold fileF
      rw [List.any_eq_false, hps]
      intro d hd
      have := hdir d hd
      cases hg : mget A d with
      | none => simp
      | some n => simp [this n hg]
    have hlk : out = lackF A p := by rw [hout]; unfold lackF; rw [hps]
    ((conv => whnf); repeat (any_goals (first | (refine Vc.stp ?_; intros; (conv => whnf)) | (refine Vc.spl ?_ ?_ <;> (intro _; (conv => whnf))))))
    refine ⟨?_, hx02⟩
    unfold RaheadV
    rw [hff, if_neg (by simp), ← hlk]
    exact ⟨a, cap, rfl, ho2.base (by omega)⟩
end Go.Proofs.YtihopeogaeinhaaGreatDoor
/- The reference's trees: a file or directory is put in its place; sizes. -/
namespace Go.Vc
/-- behind a slice that is full: new cells -/
theorem NextH.appendFull {P : Program} {H : Heap} {t u e ty : TypeId} {i : TypeInfo} {z : Value} {a : Option Addr} {n : Nat} {xs : List Value} {x : Value} {m : Nat} {news : List Value} {cb : Array Bool} {K : Value → Heap → Prop}
    (hr : Row H a xs) (hl : xs.length = n * i.size) (hsrc : Src P H x i.size m news) (hm : 0 < m)
    (ht : P.underlying t = some (.slice e)) (hu : ∃ d, P.underlying u = some d ∧ (∀ k, d ≠ .int k)) (hi : P.info? e = some i) (hz : i.zero = some z) (hzs : z.cells.size = i.size)
    (h63 : n + m ≤ maxLen) (hbytes : (n + m) * i.bytes ≤ 140737488355328)
    (hk : ∀ cap' H', Own H' H.size e i.size (some ⟨H.size, 0, none⟩) (n + m) cap' (xs ++ news) → Ext H H' → K (.slice (some ⟨H.size, 0, none⟩) (n + m) cap') H') :
    NextH P (builtin .append #[t, u] ty cb #[.slice a n n, x]) H K := by
  refine ⟨fun w hw => ?_⟩
  obtain ⟨d, hu, hd⟩ := hu
  have hzero : (match d with | .int _ => true | _ => false) = false := by cases d <;> first | rfl | exact absurd rfl (hd _)
  have hsmall : n + m ≤ 9223372036854775807 := by have := h63; simp only [maxLen] at this; omega
  have hlen : (xs ++ news).length = (n + m) * i.size := by rw [List.length_append, hl, hsrc.len, Nat.add_mul]
  have hroom : ¬ n + m ≤ n := by omega
  have hroom' : ¬ m = 0 := by omega
  have goal : ∀ {v w'}, (Builtin.append_ #[t, u] ty #[.slice a n n, x]).run P w = .ok v w' → Same w w' → K v w'.heap → Nexts P w K ((builtin .append #[t, u] ty cb #[.slice a n n, x]).run P w) := by
    intro v w' hr hs hk
    simp only [builtin, Sem.run_bind, hr, Result.andThen_ok]
    exact ⟨hs, hk⟩
  have hgrow : n < n + m := by omega
  have h63' : ¬ (9223372036854775807 < ((n : Int) + (m : Int))) := by omega
  have hfit := growslice_fits hgrow hbytes
  have h48 : ¬ (281474976710656 < Builtin.nextslicecap (n + m) n * i.bytes) := by omega
  have hold : ∀ w' : World, w'.heap = H → (Builtin.firstCells i.size n (.slice a n n)).run P w' = .ok xs.toArray w' := fun w' hw' => run_firstRow hr hl w' hw'
  have hge : n + m ≤ grownCap w (n + m) n e := grownCap_ge w (n + m) n e
  have hcm : grownCap w (n + m) n e ≤ maxLen := grownCap_le_maxLen w (n + m) n e h63
  refine goal (v := .slice (some ⟨w.heap.size, 0, none⟩) (n + m) (grownCap w (n + m) n e))
    (w' := w.drew.alloc (.cells (xs.toArray ++ news.toArray ++ Builtin.zeroCells z.cells (grownCap w (n + m) n e - (n + m))) e)) ?_ ⟨rfl, rfl, rfl⟩ ?_
  · have e1 := hold w.drew hw
    have e2 := hsrc.first w.drew hw
    simp [Builtin.append_, underlying_of ht, underlying_of hu, sizeOf_of hi, typeInfo_of hi, hzero, hsrc.lenOf, hroom, hroom', h63', h48, Question.forced, e1, e2, zeroValue, hz, newRow, grownCap]
    congr 2
    apply Array.ext'
    simp [List.append_assoc]
  · subst hw
    refine hk _ _ ⟨hlen, .inr ⟨w.heap.size, _, rfl, Nat.le_refl _, Blk.new (push_last _ _), hge, hcm, ?_, ?_⟩⟩ (Only.push _ _ _)
    · simp only [Array.size_append, List.size_toArray, size_zeroCells, hzs, hl, hsrc.len, ← Nat.add_mul]
      congr 1
      omega
    · simp only [Array.toList_append, List.append_assoc]
      rw [← List.append_assoc, ← hlen]
      exact List.take_left
end Go.Vc
namespace Go.Tre
open Go.Pth Go.Scr
open Go.Vc (mget mput mdel mget_put mget_mem mget_of_mem mget_none)
theorem putF_at : ∀ (A : Tr) (p : Txt) (n : Node) (i : Nat), (∀ j x, j < i → A[j]? = some x → Op.bytesLess x.1 p = true) → i ≤ A.length → (∀ x, A[i]? = some x → Op.bytesLess x.1 p = false) →
    putF A p n = A.take i ++ (p, n) :: A.drop (if A[i]?.map (·.1) = some p then i + 1 else i)
  | [], p, n, i, _, hi, _ => by
    obtain rfl : i = 0 := by simpa using hi
    rfl
  | x :: l, p, n, 0, _, _, h => by
    have := h x rfl
    simp only [putF]
    rw [if_neg (by rw [this]; simp)]
    by_cases e : x.1 = p
    · rw [if_pos e]; simp [e]
    · rw [if_neg e]; simp [e]
  | x :: l, p, n, i + 1, h1, hi, h => by
    have hx := h1 0 x (by omega) rfl
    simp only [putF]
    rw [if_pos hx, putF_at l p n i (fun j y hj hy => h1 (j + 1) y (by omega) (by simpa using hy)) (by simpa using hi) (fun y hy => h y (by simpa using hy))]
    simp only [List.getElem?_cons_succ, List.take_succ_cons, List.cons_append]
    congr 2
    by_cases e : l[i]?.map (·.1) = some p
    · rw [if_pos e, if_pos e]; rfl
    · rw [if_neg e, if_neg e]; rfl
end Go.Tre
namespace Go.Proofs.YtihopeogaeinhaaGreatDoor
open Go Go.Vc Go.Scr Go.Pth Go.Tre
/-- files behind files -/
theorem NextH.fullF {H : Heap} {u ty : TypeId} {a a2 : Option Addr} {n m c2 : Nat} {xs news : List Value} {cb : Array Bool} {K : Value → Heap → Prop}
    (hr : Row H a xs) (hl : xs.length = n * 3) (hr2 : Row H a2 news) (hl2 : news.length = m * 3) (hp : ∀ u ∈ news, plainV u = true) (hm : 0 < m) (hn : n + m ≤ 4000000) (hu : ∃ d, Tryz.prog.underlying u = some d ∧ (∀ k, d ≠ .int k))
    (hk : ∀ cap' H', Own H' H.size 45 3 (some ⟨H.size, 0, none⟩) (n + m) cap' (xs ++ news) → Ext H H' → K (.slice (some ⟨H.size, 0, none⟩) (n + m) cap') H') :
    NextH Tryz.prog (builtin .append #[22, u] ty cb #[.slice a n n, .slice a2 m c2]) H K := by
  refine Go.Vc.NextH.appendFull (i := Tryz.t45) (z := .agg #[.string ⟨#[]⟩, .bool false, .slice none 0 0]) hr hl (Src.row hr2 hl2 hp) hm rfl hu rfl rfl rfl (by unfold maxLen; omega) ?_ hk
  exact Nat.le_trans (Nat.mul_le_mul_left (n + m) (show _ ≤ 64 from by decide)) (by omega)
theorem NextH.appF {H : Heap} {u ty : TypeId} {a a2 : Option Addr} {n m cap c2 base : Nat} {xs news : List Value} {cb : Array Bool} {K : Value → Heap → Prop}
    (ho : Own H base 45 3 a n cap xs) (hr2 : Row H a2 news) (hl2 : news.length = m * 3) (hp : ∀ u ∈ news, plainV u = true) (hb : base ≤ H.size) (hn : n + m ≤ 4000000) (hu : ∃ d, Tryz.prog.underlying u = some d ∧ (∀ k, d ≠ .int k))
    (hk : ∀ a' cap' H', Own H' base 45 3 a' (n + m) cap' (xs ++ news) → Wr a H H' → K (.slice a' (n + m) cap') H') :
    NextH Tryz.prog (builtin .append #[22, u] ty cb #[.slice a n cap, .slice a2 m c2]) H K := by
  refine Go.Vc.NextH.append (i := Tryz.t45) (z := .agg #[.string ⟨#[]⟩, .bool false, .slice none 0 0]) rfl hu rfl rfl rfl ho (Src.row hr2 hl2 hp) (by unfold maxLen; omega) ?_ hb fun a' cap' H' h1 h2 _ => hk a' cap' H' h1 h2
  exact Nat.le_trans (Nat.mul_le_mul_left (n + m) (show _ ≤ 64 from by decide)) (by omega)
theorem toList_mkS (l : Bs) : (mkS l).toList = l := by rw [ByteArray.toList_eq]
theorem fileC_plain (x : Bs × Tre.Node) (a : Option Addr) (c : Nat) : ∀ u ∈ fileC x a c, plainV u = true := by simp [fileC, plainV]
theorem own_litK {H : Heap} {g base : Nat} {e : TypeId} {xs : List Value} (h : Blk H g xs.toArray e) (hb : base ≤ g) : Own H base e xs.length (some ⟨g, 0, none⟩) 1 1 xs := ⟨by simp, .inr ⟨g, xs.toArray, rfl, hb, h, Nat.le_refl _, by unfold maxLen; omega, by simp, by simp⟩⟩
set_option maxHeartbeats 4000000 in
theorem rput_any {b : Nat} {A : Tr} {H : Heap} (h : RTree H b A) (p : Bs) (n : Tre.Node) (fa : Option Addr) (fc : Nat) (hf : Row H fa (strV n.2)) (hAl : A.length ≤ 1000000) :
    CallH Tryz.prog 84 [.pointer (some ⟨b, 0, none⟩), .agg #[.string (mkS p), .bool n.1, .slice fa n.2.length fc]] H fun v H' => v = .tuple #[] ∧ RTree H' b (putF A p n) ∧ But b H H' := by
  obtain ⟨a, cap, hb, hr⟩ := h.out
  obtain ⟨vs, hrv, hfv⟩ := hr.out
  have hbl := hb.lt
  have hvl := hfv.len
  have hvd : ∀ k, (vs.drop (k * 3)).length = (A.length - k) * 3 := fun k => by rw [List.length_drop, hvl, Nat.sub_mul]
  have hby : ∀ m : Nat, m ≤ 4000000 → m * (Tryz.t45).bytes ≤ 140737488355328 := fun m hm => Nat.le_trans (Nat.mul_le_mul_left m (show _ ≤ 64 from by decide)) (by omega)
  refine Vc.CallH.body Tryz.func84 Tryz.call84 rfl (by decide +kernel) rfl ?_
  ((conv => whnf); repeat (any_goals (first | (refine Vc.stp ?_; intros; (conv => whnf)) | (refine Vc.spl ?_ ?_ <;> (intro _; (conv => whnf))))))
  rename_i H1 z1 b1 x1
  have b1 : Blk H1 H.size #[.string (mkS p), .bool n.1, .slice fa n.2.length fc] 45 := b1
  have hr1 := hr.ext x1
  have hb1 := hb.ext x1
  refine LoopH.intro (fun (i : Nat) => [(4, .int .i64 i)]) (fun i H' => H1 = H' ∧ i ≤ A.length ∧ ∀ j x, j < i → A[j]? = some x → Op.bytesLess x.1 p = true) (fun i => A.length - i) 0 ⟨rfl, trivial⟩ ⟨rfl, Nat.zero_le _, fun j x hj => absurd hj (by omega)⟩ ?_
  rintro i _ ⟨rfl, hi, hlo⟩
  have hvt : (vs.take (i * 3)).length = i * 3 := by rw [List.length_take, hvl]; have := Nat.mul_le_mul_right 3 hi; omega
  by_cases hlt : i < A.length
  · obtain ⟨x, hx⟩ : ∃ x, A[i]? = some x := ⟨_, List.getElem?_eq_getElem (by omega)⟩
    have e1 : Op.bytesLess (mkS x.1).toList (mkS p).toList = Op.bytesLess x.1 p := by rw [toList_mkS, toList_mkS]
    by_cases hls : Op.bytesLess x.1 p = true
    · rw [hls] at e1
      ((conv => whnf); repeat (any_goals (first | ((refine IdxA.file hr1 rfl i x (by omega) hx ?_; intro bi oi ai ci hri hci; have hc0 := hci 0 _ rfl; have hc1 := hci 1 _ rfl; have hc2 := hci 2 _ rfl); (conv => whnf)) | (((with_reducible refine Vc.DrawH.held [0, 1, 2, 3, 4, 5, 6, 7, 8, 11, 12, 13, 14, 15, 16, 17, 9, 10, 18, 19, 20, 21] [(9, [4, 14]), (10, [14])] mixed (by decide +kernel) ?_)); (conv => whnf)) | (((with_reducible refine Vc.DrawH.held [0, 1, 2, 3, 4, 5, 6, 7, 8, 10, 11, 12, 13, 14, 15, 9, 16, 17, 18, 19, 20] [(9, [4, 13]), (16, [4])] mixed (by decide +kernel) ?_)); (conv => whnf)) | (refine Vc.stp ?_; intros; (conv => whnf)) | (refine Vc.spl ?_ ?_ <;> (intro _; (conv => whnf))))))
      exact ⟨i + 1, ⟨rfl, trivial⟩, ⟨rfl, by omega, fun j y hj hy => by
        by_cases hji : j = i
        · subst hji; rw [hx] at hy; cases hy; exact hls
        · exact hlo j y (by omega) hy⟩, by omega⟩
    · have hls : Op.bytesLess x.1 p = false := by simpa using hls
      rw [hls] at e1
      have e2 : ((mkS x.1).toList == (mkS p).toList) = decide (x.1 = p) := by rw [str_beq]; simp [mkS_inj]
      have hput := putF_at A p n i hlo hi (fun y hy => by rw [hx] at hy; cases hy; exact hls)
      rw [hx] at hput
      by_cases hp : x.1 = p
      · rw [decide_eq_true hp] at e2
        rw [Option.map_some, if_pos (by rw [hp])] at hput
        have hA1 : A.drop i = x :: A.drop (i + 1) := by
          rw [List.drop_eq_getElem_cons (by omega)]
          rw [List.getElem?_eq_getElem (by omega)] at hx
          rw [Option.some.inj hx]
        ((conv => whnf); repeat (any_goals (first | ((refine IdxA.file hr1 rfl i x (by omega) hx ?_; intro bi oi ai ci hri hci; have hc0 := hci 0 _ rfl; have hc1 := hci 1 _ rfl; have hc2 := hci 2 _ rfl); (conv => whnf)) | ((refine BndH.nat (i + 1) (by omega) (by omega) ?_); (conv => whnf)) | ((refine BndH.nat i (by omega) (by omega) ?_); (conv => whnf)) | (((with_reducible refine Vc.DrawH.held [0, 1, 2, 3, 4, 5, 6, 7, 8, 11, 12, 13, 14, 15, 16, 17, 9, 10, 18, 19, 20, 21] [(9, [4, 14]), (10, [14])] mixed (by decide +kernel) ?_)); (conv => whnf)) | (((with_reducible refine Vc.DrawH.held [0, 1, 2, 3, 4, 5, 6, 7, 8, 10, 11, 12, 13, 14, 15, 9, 16, 17, 18, 19, 20] [(9, [4, 13]), (16, [4])] mixed (by decide +kernel) ?_)); (conv => whnf)) | (refine Vc.stp ?_; intros; (conv => whnf)))))
        (refine NextH.fullF (n := i) (m := 1) (news := fileC (p, n) fa fc) (xs := vs.take (i * 3)) ((hrv.take (i * 3)).ext (by (repeat (first | assumption | exact Vc.Ext.refl _ | ((with_reducible apply Vc.Ext.trans); (case k => assumption)) | ((with_reducible apply Vc.Ext.but); (case k => assumption); (case hb => omega)))))) hvt (Blk.row (c := fileC (p, n) fa fc) (by assumption)) rfl (by simp [fileC, plainV]) (by omega) (by omega) ⟨_, rfl, fun _ h => by cases h⟩ ?_; intro c5 H5 ho5 hx5; have hz5 := hx5.size)
        ((conv => whnf); repeat (any_goals (first | (refine Vc.stp ?_; intros; (conv => whnf)))))
        (refine NextH.appF (news := vs.drop ((i + 1) * 3)) (base := H.size) (ho5.base (by omega)) ((hrv.drop (A.length + cap) (i + 1) 3 (by omega)).ext (by (repeat (first | assumption | exact Vc.Ext.refl _ | ((with_reducible apply Vc.Ext.trans); (case k => assumption)) | ((with_reducible apply Vc.Ext.but); (case k => assumption); (case hb => omega)))))) (hvd _) (fun u hu => hfv.plain u (List.mem_of_mem_drop hu)) (by omega) (by omega) ⟨_, rfl, fun _ h => by cases h⟩ ?_; intro a6 c6 H6 ho6 hw6; have hx6 := And.intro trivial ((show Ext H1 H5 by (repeat (first | assumption | exact Vc.Ext.refl _ | ((with_reducible apply Vc.Ext.trans); (case k => assumption)) | ((with_reducible apply Vc.Ext.but); (case k => assumption); (case hb => omega))))).but hw6.toBut (by omega)); have hb6 := hb1.ext hx6.2)
        ((conv => whnf); repeat (any_goals (first | (refine Vc.stp ?_; intros; (conv => whnf)))))
        rename_i H7 z7 b7 x7
        have e0 : i + 1 + (A.length - (i + 1)) = A.length := by omega
        have hA' : (A.take i ++ (p, n) :: A.drop (i + 1)).length = A.length := by rw [List.length_append, List.length_take, List.length_cons, List.length_drop]; omega
        rw [hput]
        have hfil : FilesV H6 (A.take i ++ (p, n) :: A.drop (i + 1)) (vs.take (i * 3) ++ fileC (p, n) fa fc ++ vs.drop ((i + 1) * 3)) := by
          rw [List.append_assoc]
          exact ((hfv.ext (x1.trans hx6.2)).take i).append (.cons ((hf.ext x1).ext hx6.2) ((hfv.ext (x1.trans hx6.2)).drop (i + 1)))
        have hrf : RowF H6 a6 (A.take i ++ (p, n) :: A.drop (i + 1)) := ⟨_, ho6.row, hfil⟩
        have hcl := ho6.cap_le
        have b7 : Blk H7 b #[.slice a6 (i + 1 + (A.length - (i + 1))) c6] 65 := b7
        exact ⟨rfl, .of b7 (by rw [hA', e0]) hcl (hrf.keep x7 fun x e _ => by subst e; exact .blk hb6 (slice_dumb _ _ _)), (x1.trans hx6.2).only.trans x7 fun _ _ e => e⟩
      · rw [decide_eq_false hp] at e2
        rw [Option.map_some, if_neg (by simpa using hp)] at hput
        ((conv => whnf); repeat (any_goals (first | ((refine IdxA.file hr1 rfl i x (by omega) hx ?_; intro bi oi ai ci hri hci; have hc0 := hci 0 _ rfl; have hc1 := hci 1 _ rfl; have hc2 := hci 2 _ rfl); (conv => whnf)) | ((refine BndH.nat i (by omega) (by omega) ?_); (conv => whnf)) | (((with_reducible refine Vc.DrawH.held [0, 1, 2, 3, 4, 5, 6, 7, 8, 11, 12, 13, 14, 15, 16, 17, 9, 10, 18, 19, 20, 21] [(9, [4, 14]), (10, [14])] mixed (by decide +kernel) ?_)); (conv => whnf)) | (((with_reducible refine Vc.DrawH.held [0, 1, 2, 3, 4, 5, 6, 7, 8, 10, 11, 12, 13, 14, 15, 9, 16, 17, 18, 19, 20] [(9, [4, 13]), (16, [4])] mixed (by decide +kernel) ?_)); (conv => whnf)) | (refine Vc.stp ?_; intros; (conv => whnf)))))
        (rename_i Hl zl bl xl; refine NextH.appF (n := 1) (news := vs.drop (i * 3)) (base := H.size) (xs := fileC (p, n) fa fc) (own_litK bl (by omega)) ((hrv.drop (A.length + cap) i 3 (fun e => by rw [hvl]; exact Nat.mul_le_mul_right 3 (by omega))).ext (by (repeat (first | assumption | exact Vc.Ext.refl _ | ((with_reducible apply Vc.Ext.trans); (case k => assumption)) | ((with_reducible apply Vc.Ext.but); (case k => assumption); (case hb => omega)))))) (hvd _) (fun u hu => hfv.plain u (List.mem_of_mem_drop hu)) (by omega) (by omega) ⟨_, rfl, fun _ h => by cases h⟩ ?_; intro a5 c5 H5 ho5 hw5; have hz5 := hw5.size; have hx15 := And.intro trivial (xl.but hw5.toBut (by omega)); have hb5 := hb1.ext hx15.2)
        ((conv => whnf); repeat (any_goals (first | (refine Vc.stp ?_; intros; (conv => whnf)))))
        (refine NextH.fullF (n := i) (xs := vs.take (i * 3)) ((hrv.take (i * 3)).ext (x1.trans hx15.2)) hvt ho5.row ho5.len (fun u hu => (List.mem_append.1 hu).elim (fileC_plain (p, n) fa fc u) fun hu => hfv.plain u (List.mem_of_mem_drop hu)) (by omega) (by omega) ⟨_, rfl, fun _ h => by cases h⟩ ?_; intro c6 H6 ho6 hx6; have hz6 := hx6.size)
        ((conv => whnf); repeat (any_goals (first | (refine Vc.stp ?_; intros; (conv => whnf)))))
        (rename_i H7 z7 b7 x7; have e0 : i + (1 + (A.length - i)) = A.length + 1 := (by omega); have hA' : (A.take i ++ (p, n) :: A.drop i).length = A.length + 1 := (by rw [List.length_append, List.length_take, List.length_cons, List.length_drop]; omega); rw [hput]; have hx16 := hx15.2.trans hx6; have hfil : FilesV H6 (A.take i ++ (p, n) :: A.drop i) (vs.take (i * 3) ++ (fileC (p, n) fa fc ++ vs.drop (i * 3))) := ((hfv.ext (x1.trans hx16)).take i).append (.cons ((hf.ext x1).ext hx16) ((hfv.ext (x1.trans hx16)).drop i)); have hrf : RowF H6 (some ⟨H5.size, 0, none⟩) (A.take i ++ (p, n) :: A.drop i) := ⟨_, ho6.row, hfil⟩; have hcl := ho6.cap_le; have b7 : Blk H7 b #[.slice (some ⟨H5.size, 0, none⟩) (i + (1 + (A.length - i))) c6] 65 := b7; exact ⟨rfl, .of b7 (by rw [hA', e0]) hcl (hrf.keep x7 fun x e _ => by subst e; exact .blk (hb1.ext hx16) (slice_dumb _ _ _)), (x1.trans hx16).only.trans x7 fun _ _ e => e⟩)
  · obtain rfl : i = A.length := by omega
    have hput := putF_at A p n A.length hlo (Nat.le_refl _) (fun y hy => by simp at hy)
    rw [List.getElem?_eq_none (Nat.le_refl _), Option.map_none, if_neg (by simp)] at hput
    obtain ⟨i, hi0⟩ : ∃ i, i = A.length := ⟨_, rfl⟩
    rw [← hi0] at hput hvt
    ((conv => whnf); repeat (any_goals (first | ((refine BndH.nat i (by omega) (by omega) ?_); (conv => whnf)) | (((with_reducible refine Vc.DrawH.held [0, 1, 2, 3, 4, 5, 6, 7, 8, 11, 12, 13, 14, 15, 16, 17, 9, 10, 18, 19, 20, 21] [(9, [4, 14]), (10, [14])] mixed (by decide +kernel) ?_)); (conv => whnf)) | (((with_reducible refine Vc.DrawH.held [0, 1, 2, 3, 4, 5, 6, 7, 8, 10, 11, 12, 13, 14, 15, 9, 16, 17, 18, 19, 20] [(9, [4, 13]), (16, [4])] mixed (by decide +kernel) ?_)); (conv => whnf)) | (refine Vc.stp ?_; intros; (conv => whnf)))))
    (rename_i Hl zl bl xl; refine NextH.appF (n := 1) (news := vs.drop (i * 3)) (base := H.size) (xs := fileC (p, n) fa fc) (own_litK bl (by omega)) ((hrv.drop (A.length + cap) i 3 (fun e => by rw [hvl]; exact Nat.mul_le_mul_right 3 (by omega))).ext (by (repeat (first | assumption | exact Vc.Ext.refl _ | ((with_reducible apply Vc.Ext.trans); (case k => assumption)) | ((with_reducible apply Vc.Ext.but); (case k => assumption); (case hb => omega)))))) (hvd _) (fun u hu => hfv.plain u (List.mem_of_mem_drop hu)) (by omega) (by omega) ⟨_, rfl, fun _ h => by cases h⟩ ?_; intro a5 c5 H5 ho5 hw5; have hz5 := hw5.size; have hx15 := And.intro trivial (xl.but hw5.toBut (by omega)); have hb5 := hb1.ext hx15.2)
    ((conv => whnf); repeat (any_goals (first | (refine Vc.stp ?_; intros; (conv => whnf)))))
    (refine NextH.fullF (n := i) (xs := vs.take (i * 3)) ((hrv.take (i * 3)).ext (x1.trans hx15.2)) hvt ho5.row ho5.len (fun u hu => (List.mem_append.1 hu).elim (fileC_plain (p, n) fa fc u) fun hu => hfv.plain u (List.mem_of_mem_drop hu)) (by omega) (by omega) ⟨_, rfl, fun _ h => by cases h⟩ ?_; intro c6 H6 ho6 hx6; have hz6 := hx6.size)
    ((conv => whnf); repeat (any_goals (first | (refine Vc.stp ?_; intros; (conv => whnf)))))
    (rename_i H7 z7 b7 x7; have e0 : i + (1 + (A.length - i)) = A.length + 1 := (by omega); have hA' : (A.take i ++ (p, n) :: A.drop i).length = A.length + 1 := (by rw [List.length_append, List.length_take, List.length_cons, List.length_drop]; omega); rw [hput]; have hx16 := hx15.2.trans hx6; have hfil : FilesV H6 (A.take i ++ (p, n) :: A.drop i) (vs.take (i * 3) ++ (fileC (p, n) fa fc ++ vs.drop (i * 3))) := ((hfv.ext (x1.trans hx16)).take i).append (.cons ((hf.ext x1).ext hx16) ((hfv.ext (x1.trans hx16)).drop i)); have hrf : RowF H6 (some ⟨H5.size, 0, none⟩) (A.take i ++ (p, n) :: A.drop i) := ⟨_, ho6.row, hfil⟩; have hcl := ho6.cap_le; have b7 : Blk H7 b #[.slice (some ⟨H5.size, 0, none⟩) (i + (1 + (A.length - i))) c6] 65 := b7; exact ⟨rfl, .of b7 (by rw [hA', e0]) hcl (hrf.keep x7 fun x e _ => by subst e; exact .blk (hb1.ext hx16) (slice_dumb _ _ _)), (x1.trans hx16).only.trans x7 fun _ _ e => e⟩)
end Go.Proofs.YtihopeogaeinhaaGreatDoor
/- From a call's contract to a statement: what a call reads from its arguments; what a call that only lays new blocks leaves as it was. -/
namespace Go.Vc
open Go.ChangeShapes Go.WideShapes Go.RowKit

section
variable {H : Type} {enc : TypeId × Value → H} {P : Program}

theorem below_of {W W' : World} (hs : Same W W') (hx : Ext W.heap W'.heap) : Below W.heap.size W W' :=
  ⟨hs.os, hs.tape, hs.output, hx.size, fun k hk => hx.same k hk id⟩

theorem trodAll_stays (hl : laidOutB P = true) {W W' : World} (hb : Below W.heap.size W W') {sp : Nat → Bool} : ∀ {ts : List TypeId} {vs : List Value} {ds : List (DataW H)} {ps : List MemPlace}, (∀ t ∈ ts, P.readableRec t = true ∧ t < P.types.size) →
    DataW.TrodAll enc P W 0 (fun _ => true) true ts vs ds ps → (∀ p ∈ ps, p.block < W.heap.size) → (∀ p ∈ ps, sp p.block = true) → DataW.TrodAll enc P W' 0 sp true ts vs ds ps
  | [], [], [], _, _, h, _, _ => h
  | t :: ts, v :: vs, d :: ds, _, hT, ⟨p, q, h1, h2, e⟩, hlt, hs => by
    subst e
    exact ⟨p, q, WideElems.Trod_stays hl (hT t (by simp)).1 (hT t (by simp)).2 h1 (fun x hx => hb.same (hlt x (by simp [hx]))) (fun x hx => hs x (by simp [hx])),
      trodAll_stays hl hb (fun t ht => hT t (by simp [ht])) h2 (fun x hx => hlt x (by simp [hx])) (fun x hx => hs x (by simp [hx])), rfl⟩

/-- A law's call that answers true and lays at most new blocks: what the row asks. -/
theorem law_post {f : Func} {s : ChangeSpec} {apart fresh handsOn again : Bool} {W W' : World} {args : Array Value} {ds gs : List (DataW H)} {before : List MemPlace} {tb : TypeId}
    (hW : DataW.Whole enc P f.params.toList s.vars apart W args.toList ds gs before) (hv : s.vars = []) (hs : s.fn H (ds ++ gs) = { results := [.lit (.bool true)], args := ds, vars := [] })
    (hr : f.resultTypes = #[tb]) (hb : P.underlying tb = some .bool) (hl : laidOutB P = true) (hread : ∀ t ∈ f.params.toList, P.readableRec t = true ∧ t < P.types.size)
    (hsame : Same W W') (hx : Ext W.heap W'.heap) : s.post enc P f apart fresh handsOn again W args (.bool true) W' := by
  have hlt := hW.lt
  have hW' := hW
  obtain ⟨p, q, hA, hV, rfl, hfz, hnd⟩ := hW
  rw [hv] at hV
  obtain ⟨rfl, rfl⟩ := trodVars_none hV
  have hbel := below_of hsame hx
  have hone : (Value.bool true).resultList f.resultTypes.size = [.bool true] := by rw [hr]; rfl
  have hrt : ∀ (b : Nat) (sp : Nat → Bool) (hd : Bool), DataW.TrodAll enc P W' b sp hd f.resultTypes.toList ((Value.bool true).resultList f.resultTypes.size) (s.fn H (ds ++ [])).results [] := fun b sp hd => by
    rw [hone, hr, hs]
    exact trodAll_cons_mk (shut_bool hb true) trodAll_mk0
  have hlt' : ∀ x ∈ p, x.block < W.heap.size := fun x hx => hlt x (by simp [hx])
  have hat : ∀ sp : Nat → Bool, (∀ x ∈ p, sp x.block = true) → DataW.TrodAll enc P W' 0 sp true f.params.toList args.toList (s.fn H (ds ++ [])).args p := fun sp hsp => by
    rw [hs]; exact trodAll_stays hl hbel hread hA hlt' hsp
  refine ⟨ds, [], p ++ [], [], p, [], hW', hrt _ _ _, hat _ (fun x hx => by simpa using hlt' x hx), ?_, hbel.frame _, fun _ => ⟨?_, _, [], ([] ++ p) ++ [], ⟨[] ++ p, [], trodAll_append (hat _ (fun _ _ => rfl)) (hrt _ _ _), ?_, rfl, ?_, ?_⟩, ?_⟩⟩
  · rw [hv, hs]; exact rfl
  · intro j t r hj hr'
    rw [hone] at hr'
    rw [hr] at hj
    match j, hj, hr' with
    | 0, hj, hr' =>
      simp at hj hr'
      subst hj; subst hr'
      exact okWide_bool_mk hb true
  · rw [hv]; exact rfl
  · intro b off hp
    have hp' : MemPlace.cell b off ∈ p := by simpa using hp
    have hb' := hlt' _ hp'
    rw [hbel.frozen (p := ⟨b, off, none⟩) hb']
    exact hfz b off (by simpa using hp')
  · intro ha
    have := hnd ha
    simpa using this
  · intro x hx _
    simpa using hx

/-- from the contract over heaps to the model's own run -/
theorem calls_of {f : FuncId} {args : Array Value} {W : World} {R : Value → Heap → Prop} (hc : (callFunc f args).run P W = .ok (.enter f args) W) (h : CallH P f args.toList W.heap R) :
    Calls P f args W fun e w => Same W w ∧ ∃ v, e = .returned v ∧ R v w.heap := by
  have := h.out W rfl
  rw [Array.toArray_toList, hc] at this
  exact this.2

theorem law_calls {f : FuncId} {fn : Func} {s : ChangeSpec} {apart fresh handsOn again : Bool} {W : World} {args : Array Value} {ds gs : List (DataW H)} {before : List MemPlace} {tb : TypeId}
    (hc : (callFunc f args).run P W = .ok (.enter f args) W) (h : CallH P f args.toList W.heap fun v H' => v = .bool true ∧ Ext W.heap H')
    (hW : DataW.Whole enc P fn.params.toList s.vars apart W args.toList ds gs before) (hv : s.vars = []) (hs : s.fn H (ds ++ gs) = { results := [.lit (.bool true)], args := ds, vars := [] })
    (hr : fn.resultTypes = #[tb]) (hb : P.underlying tb = some .bool) (hl : laidOutB P = true) (hread : (fn.params.toList.all fun t => P.readableRec t && decide (t < P.types.size)) = true) :
    Calls P f args W fun e W' => ∃ v, e = .returned v ∧ s.post enc P fn apart fresh handsOn again W args v W' :=
  Calls.mono (calls_of hc h) fun e w' ⟨hsame, v, he, hv', hx⟩ => ⟨v, he, hv' ▸ law_post hW hv hs hr hb hl (fun t ht => by simpa using List.all_eq_true.1 hread t ht) hsame hx⟩

/- ---------- what arguments are ---------- -/
variable {w : World} {base : Nat} {sp : Nat → Bool} {held : Bool}

theorem read_bytes {t e : TypeId} {fuel : Nat} {cs : List Value} {x : DataW H × List MemPlace} (ht : P.underlying t = some (.slice e)) (he : P.underlying e = some (.int .u8)) (hc : P.cellsOf e = 1)
    (h : DataW.trod enc P w base sp held fuel t cs = some x) : ∃ (a : Option Addr) (n cap : Nat) (l : List UInt8), cs = [.slice a n cap] ∧ l.length = n ∧ n ≤ cap ∧ cap ≤ maxLen ∧ Row w.heap a (strV l) ∧ (a = none → cap = 0) := by
  rcases open_ints ht he hc h with ⟨rfl, _⟩ | ⟨a, len, cap, zs, rfl, hb, hl, hm, hz, _, hcell, hwf⟩
  · exact ⟨none, 0, 0, [], rfl, rfl, Nat.le_refl _, Nat.zero_le _, Row.nil _ _, fun _ => rfl⟩
  · have hzl : len ≤ zs.length := by rw [hz]; split <;> omega
    refine ⟨some a, len, cap, (zs.take len).map fun z => UInt8.ofNat z.toNat, rfl, by simp; omega, hl, hm, ?_, by simp⟩
    by_cases h0 : len = 0
    · subst h0; simp [strV, Row.nil]
    · obtain ⟨b, off, rfl, hcl⟩ := ints_at hcell (by omega)
      refine ⟨.inr ⟨b, off, rfl, fun j v hv => ?_⟩⟩
      have hj : j < len := by
        have := (List.getElem?_eq_some_iff.1 hv).1
        simp [strV] at this; omega
      have hj' : j < zs.length := by omega
      have hw := bounds_u8 (hwf zs[j] (List.getElem_mem hj'))
      rw [← cell_heap, hcl j hj', ← hv]
      simp only [strV, List.map_map, List.getElem?_map, List.getElem?_take, if_pos hj, List.getElem?_eq_getElem hj', Option.map_some, Function.comp]
      rw [List.getD_eq_getElem?_getD, List.getElem?_eq_getElem hj', Option.getD_some]
      congr 2
      rw [UInt8.toNat_ofNat']
      omega

theorem cell_plain {a : Addr} {v : Value} (h : w.cell? a = some v) : ∃ b o, a = ⟨b, o, none⟩ := by
  obtain ⟨b, o, s⟩ := a
  have hs : s = none := by simpa using World.cell?_spot h
  exact ⟨b, o, by rw [hs]⟩

/-- the elements of a slice, one cell each -/
theorem read_cells {t e : TypeId} {fuel : Nat} {cs : List Value} {x : DataW H × List MemPlace} (ht : P.underlying t = some (.slice e)) (hc : P.cellsOf e = 1)
    (h : DataW.trod enc P w base sp held fuel t cs = some x) : ∃ (a : Option Addr) (n cap : Nat) (l : List Value), cs = [.slice a n cap] ∧ l.length = n ∧ n ≤ cap ∧ cap ≤ maxLen ∧ Row w.heap a l ∧ (a = none → cap = 0) ∧
      ∀ v ∈ l, ∃ m y, DataW.trod enc P w base sp held m e [v] = some y := by
  rcases DataW.trod_slice ht h with ⟨rfl, _⟩ | ⟨a, len, cap, elems, rest, n, _, rfl, rfl, hb, hl, hm, hlen, hel, hsp, hns⟩
  · exact ⟨none, 0, 0, [], rfl, rfl, Nat.le_refl _, Nat.zero_le _, Row.nil _ _, fun _ => rfl, fun v hv => by cases hv⟩
  · have each : ∀ i, i < len → ∃ v y, w.cell? (a.add i) = some v ∧ DataW.trod enc P w base sp held n e [v] = some y := by
      intro i hi
      have := hel i hi
      rw [List.getElem?_eq_getElem (by omega), hc, Nat.mul_one, Option.bind_eq_some_iff] at this
      obtain ⟨vs, hvs, hy⟩ := this
      obtain ⟨_, hl1, hcell⟩ := World.cells?_some hvs
      obtain ⟨v, rfl⟩ := List.length_eq_one_iff.1 hl1
      have := hcell 0 (by omega)
      refine ⟨v, _, by simpa [Addr.add] using this, hy⟩
    let f : Nat → Value := fun i => (w.cell? (a.add i)).getD undef
    have hf : ∀ i, i < len → w.cell? (a.add i) = some (f i) := fun i hi => by obtain ⟨v, y, hv, _⟩ := each i hi; simp [f, hv]
    refine ⟨some a, len, cap, (List.range len).map f, rfl, by simp, hl, hm, ?_, by simp, ?_⟩
    · by_cases h0 : len = 0
      · subst h0; simp [Row.nil]
      · have h00 := hf 0 (by omega)
        have e0 : a.add 0 = a := by simp [Addr.add]
        rw [e0] at h00
        obtain ⟨b, o, rfl⟩ := cell_plain h00
        refine ⟨.inr ⟨b, o, rfl, fun j v hv => ?_⟩⟩
        have hj : j < len := by have := (List.getElem?_eq_some_iff.1 hv).1; simpa using this
        have := hf j hj
        rw [addk] at this
        rw [← cell_heap, this, ← hv]
        simp [hj]
    · intro v hv
      obtain ⟨i, hi, rfl⟩ := List.mem_map.1 hv
      have hi : i < len := by simpa using hi
      obtain ⟨v, y, hv, hy⟩ := each i hi
      rw [hf i hi] at hv; cases hv
      exact ⟨n, y, hy⟩

/-- an array of bytes -/
theorem read_arr8 {t e : TypeId} {n fuel : Nat} {cs : List Value} {x : DataW H × List MemPlace} (ht : P.underlying t = some (.array n e)) (he : P.underlying e = some (.int .u8)) (hc : P.cellsOf e = 1) (hn : P.cellsOf t = n)
    (h : DataW.trod enc P w base sp held fuel t cs = some x) : ∃ l : List UInt8, cs = strV l ∧ l.length = n := by
  obtain ⟨xs, m, _, _, hl, hxl, hx⟩ := DataW.trod_array ht h
  rw [hn] at hl
  refine ⟨cs.map fun v => match v with | .int _ z => UInt8.ofNat z.toNat | _ => 0, ?_, by simpa using hl⟩
  apply List.ext_getElem?
  intro i
  simp only [strV, List.map_map, List.getElem?_map]
  by_cases hi : i < n
  · have := hx i hi
    rw [hc, Nat.mul_one, List.getElem?_eq_getElem (by omega)] at this
    obtain ⟨z, hz, _, hw⟩ := DataW.trod_int he this
    have hi' : i < cs.length := by omega
    have e : cs[i] = .int .u8 z := by
      have h0 := congrArg (fun l => l[0]?) hz
      simp only [List.getElem?_take, List.getElem?_drop, Nat.add_zero, Nat.zero_lt_one, if_true, List.getElem?_cons_zero, List.getElem?_eq_getElem hi', Option.some.injEq] at h0
      exact h0
    have hw := bounds_u8 hw
    rw [List.getElem?_eq_getElem hi', e]
    simp only [Option.map_some, Function.comp]
    congr 2
    rw [UInt8.toNat_ofNat']
    omega
  · rw [List.getElem?_eq_none (by omega)]; rfl
end
end Go.Vc
/- From a call's contract to a statement, more: arguments. -/
namespace Go.Vc
open Go.ChangeShapes Go.WideShapes Go.RowKit
section
variable {H : Type} {enc : TypeId × Value → H} {P : Program} {w : World} {base : Nat} {spare : Nat → Bool} {held : Bool}
theorem arg_slice {P : Program} {w : World} {r : Reach} {b0 : Nat} {t e : TypeId} {v a : Value} (ht : P.underlying t = some (.slice e)) (hval : Value.okWide P w r b0 t v) (h : v.cells.toList = [a]) : v = a := by
  obtain ⟨p, n, c, rfl⟩ := okWide_slice ht hval
  simpa [Value.cells] using h
theorem trodAll_five {t t' t'' t3 t4 : TypeId} {args : Array Value} {ds : List (DataW H)} {ps : List MemPlace} (h : DataW.TrodAll enc P w base spare held [t, t', t'', t3, t4] args.toList ds ps) :
    ∃ v v' v'' v3 v4 d d' d'' d3 d4 p p' p'' p3 p4, args = #[v, v', v'', v3, v4] ∧ ds = [d, d', d'', d3, d4] ∧ ps = p ++ (p' ++ (p'' ++ (p3 ++ (p4 ++ [])))) ∧ DataW.Trod enc P w base spare held t v d p ∧ DataW.Trod enc P w base spare held t' v' d' p' ∧ DataW.Trod enc P w base spare held t'' v'' d'' p'' ∧ DataW.Trod enc P w base spare held t3 v3 d3 p3 ∧ DataW.Trod enc P w base spare held t4 v4 d4 p4 := by
  obtain ⟨v, vs, d, ds', p, q, hargs, rfl, rfl, hd, hrest⟩ := trodAll_cons h
  obtain ⟨v', vs', d', ds'', p', q', rfl, rfl, rfl, hd', hrest'⟩ := trodAll_cons hrest
  obtain ⟨v'', vs'', d'', ds''', p'', q'', rfl, rfl, rfl, hd'', hrest''⟩ := trodAll_cons hrest'
  obtain ⟨v3, vs3, d3, ds3, p3, q3, rfl, rfl, rfl, hd3, hrest3⟩ := trodAll_cons hrest''
  obtain ⟨v4, vs4, d4, ds4, p4, q4, rfl, rfl, rfl, hd4, hrest4⟩ := trodAll_cons hrest3
  obtain ⟨rfl, rfl, rfl⟩ := trodAll_nil hrest4
  exact ⟨v, v', v'', v3, v4, d, d', d'', d3, d4, p, p', p'', p3, p4, by cases args; simp_all, rfl, rfl, hd, hd', hd'', hd3, hd4⟩
theorem trodAll_six {t t' t'' t3 t4 t5 : TypeId} {args : Array Value} {ds : List (DataW H)} {ps : List MemPlace} (h : DataW.TrodAll enc P w base spare held [t, t', t'', t3, t4, t5] args.toList ds ps) :
    ∃ v v' v'' v3 v4 v5 d d' d'' d3 d4 d5 p p' p'' p3 p4 p5, args = #[v, v', v'', v3, v4, v5] ∧ ds = [d, d', d'', d3, d4, d5] ∧ ps = p ++ (p' ++ (p'' ++ (p3 ++ (p4 ++ (p5 ++ []))))) ∧ DataW.Trod enc P w base spare held t v d p ∧ DataW.Trod enc P w base spare held t' v' d' p' ∧ DataW.Trod enc P w base spare held t'' v'' d'' p'' ∧ DataW.Trod enc P w base spare held t3 v3 d3 p3 ∧ DataW.Trod enc P w base spare held t4 v4 d4 p4 ∧ DataW.Trod enc P w base spare held t5 v5 d5 p5 := by
  obtain ⟨v, vs, d, ds', p, q, hargs, rfl, rfl, hd, hrest⟩ := trodAll_cons h
  obtain ⟨v', vs', d', ds'', p', q', rfl, rfl, rfl, hd', hrest'⟩ := trodAll_cons hrest
  obtain ⟨v'', vs'', d'', ds''', p'', q'', rfl, rfl, rfl, hd'', hrest''⟩ := trodAll_cons hrest'
  obtain ⟨v3, vs3, d3, ds3, p3, q3, rfl, rfl, rfl, hd3, hrest3⟩ := trodAll_cons hrest''
  obtain ⟨v4, vs4, d4, ds4, p4, q4, rfl, rfl, rfl, hd4, hrest4⟩ := trodAll_cons hrest3
  obtain ⟨v5, vs5, d5, ds5, p5, q5, rfl, rfl, rfl, hd5, hrest5⟩ := trodAll_cons hrest4
  obtain ⟨rfl, rfl, rfl⟩ := trodAll_nil hrest5
  exact ⟨v, v', v'', v3, v4, v5, d, d', d'', d3, d4, d5, p, p', p'', p3, p4, p5, by cases args; simp_all, rfl, rfl, hd, hd', hd'', hd3, hd4, hd5⟩
end
end Go.Vc
