import Derived.Test.YtjcmcmogbkdjcaaGreatDoorKc
import Derived.Test.YtjcmcmogbkdjcaaGreatDoorKe
import Derived.Test.YtjcmcmogbkdjcaaGreatDoorKd
set_option linter.unusedVariables false
set_option linter.unusedSimpArgs false
set_option maxRecDepth 100000
/- Paths, the reference: parts, what a path is cleaned to, what stands above and below it. -/
namespace Go.Pth
open Go.Scr
def p_glueF (cur : Txt) : List Txt → List Txt
  | [] => [cur]
  | w :: l => (cur ++ w) :: l
theorem p_glueF_nil (l : List Txt) (h : l ≠ []) : p_glueF [] l = l := by cases l with | nil => exact absurd rfl h | cons w l => rfl
theorem p_glueF_step {c x : UInt8} (h : x ≠ c) (cur t : Txt) : p_glueF cur (splitF c (x :: t)) = p_glueF (cur ++ [x]) (splitF c t) := by
  rw [splitF, if_neg h]
  cases splitF c t with
  | nil => rfl
  | cons w l => simp [p_glueF]
theorem p_glueF_cut (c : UInt8) (cur t : Txt) : p_glueF cur (splitF c (c :: t)) = cur :: splitF c t := by
  rw [splitF, if_pos rfl]; simp [p_glueF]
/-- what stands from a to b -/
def p_mid (l : Txt) (a b : Nat) : Txt := (l.drop a).take (b - a)
theorem p_mid_self (l : Txt) (a : Nat) : p_mid l a a = [] := by simp [p_mid]
theorem p_mid_snoc {l : Txt} {a b : Nat} {c : UInt8} {t : Txt} (hab : a ≤ b) (h : l.drop b = c :: t) : p_mid l a (b + 1) = p_mid l a b ++ [c] := by
  unfold p_mid
  have e : b + 1 - a = (b - a) + 1 := by omega
  have h2 : (l.drop a).drop (b - a) = c :: t := by rw [List.drop_drop, show a + (b - a) = b by omega]; exact h
  rw [e, List.take_add_one]
  congr 1
  have := congrArg (·[0]?) h2
  simp only [List.getElem?_drop, List.getElem?_cons_zero] at this
  simp only [List.getElem?_drop]
  have h3 : (0 : Nat) + (a + (b - a)) = a + (b - a) := by omega
  simp at this
  simp [this]
theorem p_mid_len (l : Txt) (a b : Nat) : (p_mid l a b).length ≤ l.length := by unfold p_mid; rw [List.length_take, List.length_drop]; omega
def rcleanF (base : List Txt) (s : Txt) : Txt × Nat :=
  if 200 < s.length then ([], 50) else if s.head? = some 47 then ([], 51) else (glue (walkF base.length base (splitF 47 s)).1, (walkF base.length base (splitF 47 s)).2)
theorem rclean_nil (s : Txt) : rcleanF [] s = cleanF s := by
  unfold rcleanF cleanF joinP
  rw [if_pos (rfl : ([] : Txt) = []), Nat.zero_add]; rfl
end Go.Pth
namespace Go.Vc
theorem NextH.dup {P : Program} {H : Heap} {t u e ty : TypeId} {i : TypeInfo} {z : Value} {a : Option Addr} {m c : Nat} {xs : List Value} {cb : Array Bool} {K : Value → Heap → Prop}
    (hr : Row H a xs) (hl : xs.length = m) (hp : ∀ u ∈ xs, plainV u = true) (hm : m ≤ 4000000000000) (ht : P.underlying t = some (.slice e)) (hu : ∃ d, P.underlying u = some d ∧ (∀ k, d ≠ .int k)) (hi : P.info? e = some i) (hz : i.zero = some z) (hzs : z.cells.size = i.size) (h1 : i.size = 1)
    (hby : Nat.ble i.bytes 16 = true) (hk : ∀ a' cap' H', Own H' H.size e 1 a' m cap' xs → Ext H H' → K (.slice a' m cap') H') :
    NextH P (builtin .append #[t, u] ty cb #[.slice none 0 0, .slice a m c]) H K := by
  have hby := Nat.le_of_ble_eq_true hby
  refine NextH.append (m := m) (news := xs) ht hu hi hz hzs (Own.nil _ H.size _ _) (Src.row hr (by rw [h1, hl]; omega) hp) (by unfold maxLen; omega) ?_ (Nat.le_refl _) fun a' cap' H' g1 g2 _ => ?_
  · calc (0 + m) * i.bytes ≤ (0 + m) * 16 := Nat.mul_le_mul_left _ hby
      _ ≤ _ := by omega
  · rw [h1, List.nil_append, Nat.zero_add] at g1
    rw [Nat.zero_add]
    exact hk a' cap' H' g1 (g2.mono fun b ⟨p, hp, _⟩ => by cases hp)
end Go.Vc
namespace Go.Proofs.YtjcmcmogbkdjcaaGreatDoor
open Go Go.Vc Go.Scr Go.Pth
structure PkSt where
  i : Nat
  fr : Nat
  out : List Bs
  a : Option Addr
  cap : Nat
def p_splitI (s : Bs) (x : PkSt) : List Bs := if x.i ≤ s.length then x.out ++ p_glueF (p_mid s x.fr x.i) (splitF 47 (s.drop x.i)) else x.out
set_option maxHeartbeats 4000000 in
theorem rsplit7_any (s : Bs) (hl : s.length ≤ 100000000) (H : Heap) : CallH Tryz.prog 40 [.string (mkS s)] H fun v H' => (∃ a cap, v = .slice a (splitF 47 s).length cap ∧ Own H' H.size 9 1 a (splitF 47 s).length cap (strs (splitF 47 s))) ∧ Ext H H' := by
  obtain ⟨S, hS⟩ : ∃ S, splitF 47 s = S := ⟨_, rfl⟩
  rw [hS]
  have hsz : (mkS s).size = s.length := rfl
  refine Vc.CallH.body Tryz.func40 Tryz.call40 rfl (by decide +kernel) rfl ?_
  ((conv => whnf); repeat (any_goals (first | (refine Vc.sts ?_; (conv => whnf)))))
  refine LoopH.intro (fun (x : PkSt) => [(5, .int .i64 x.i), (4, .int .i64 x.fr), (3, .slice x.a x.out.length x.cap)]) (fun x H' => x.i ≤ s.length + 1 ∧ x.fr ≤ x.i ∧ x.out.length ≤ x.i ∧ S = p_splitI s x ∧ Own H' H.size 9 1 x.a x.out.length x.cap (strs x.out) ∧ Ext H H') (fun x => s.length + 1 - x.i) ⟨0, 0, [], none, 0⟩ ⟨rfl, rfl, rfl, trivial⟩ ⟨Nat.zero_le _, Nat.le_refl _, Nat.le_refl _, ?_, Own.nil _ _ _ _, Ext.refl _⟩ ?_
  · unfold p_splitI
    rw [if_pos (Nat.zero_le _)]
    show S = p_glueF [] (splitF 47 s)
    rw [p_glueF_nil _ (split_ne 47 s), hS]
  rintro ⟨i, fr, out, a, cap⟩ H2 ⟨hi, hfr, hol, hinv, ho2, hx2⟩
  dsimp only at hi hfr hol hinv ho2 ⊢
  unfold p_splitI at hinv
  dsimp only at hinv
  have hxe : (mkS s).extract fr i = mkS (p_mid s fr i) := mkS_ext _ _ _
  by_cases hle : i ≤ s.length
  · rw [if_pos hle] at hinv
    by_cases hlt : i < s.length
    · obtain ⟨d, hd, hdr⟩ := drop_get hlt
      rw [hdr] at hinv
      by_cases hdc : d = 47
      · subst hdc
        rw [p_glueF_cut] at hinv
        ((conv => whnf); repeat (any_goals (first | ((refine IdxH.nat i rfl (by omega) ?_; (conv => whnf); rw [hd]); (conv => whnf)) | ((refine BndH.nat fr rfl (by omega) ?_); (conv => whnf)) | ((refine BndH.nat i rfl (by omega) ?_); (conv => whnf)) | (refine Vc.stp ?_; intros; (conv => whnf)) | (refine Vc.spl ?_ ?_ <;> (intro _; (conv => whnf))))))
        rename_i H5 hs5 hb5 hx5 a6 c6 H6 ho6 hx6
        refine ⟨⟨i + 1, i + 1, out ++ [p_mid s fr i], a6, c6⟩, ⟨rfl, rfl, sl_snocS _ _ _ _, trivial⟩, ⟨by show i + 1 ≤ _; omega, Nat.le_refl _, by show (out ++ [_]).length ≤ i + 1; simp; omega, ?_, own_snocS hxe ho6, hx6⟩, by show s.length + 1 - (i + 1) < s.length + 1 - i; omega⟩
        unfold p_splitI
        rw [if_pos (show i + 1 ≤ s.length by omega), hinv]
        show _ = (out ++ [p_mid s fr i]) ++ p_glueF (p_mid s (i + 1) (i + 1)) (splitF 47 (s.drop (i + 1)))
        rw [p_mid_self, p_glueF_nil _ (split_ne _ _)]; simp
      · have hne : d.toNat ≠ 47 := ne_nat 47 (by decide) hdc
        rw [p_glueF_step hdc, ← p_mid_snoc hfr hdr] at hinv
        ((conv => whnf); repeat (any_goals (first | ((refine IdxH.nat i rfl (by omega) ?_; (conv => whnf); rw [hd]); (conv => whnf)) | (refine Vc.stp ?_; intros; (conv => whnf)) | (refine Vc.spl ?_ ?_ <;> (intro _; (conv => whnf))))))
        refine ⟨⟨i + 1, fr, out, a, cap⟩, ⟨rfl, rfl, rfl, trivial⟩, ⟨by show i + 1 ≤ _; omega, by show fr ≤ i + 1; omega, by show out.length ≤ i + 1; omega, ?_, ho2, hx2⟩, by show s.length + 1 - (i + 1) < s.length + 1 - i; omega⟩
        unfold p_splitI
        rw [if_pos (show i + 1 ≤ s.length by omega), hinv]
    · have hil : i = s.length := by omega
      subst hil
      rw [List.drop_of_length_le (by omega)] at hinv
      ((conv => whnf); repeat (any_goals (first | ((refine BndH.nat fr rfl (by omega) ?_); (conv => whnf)) | ((refine BndH.nat s.length rfl (by omega) ?_); (conv => whnf)) | (refine Vc.stp ?_; intros; (conv => whnf)) | (refine Vc.spl ?_ ?_ <;> (intro _; (conv => whnf))))))
      rename_i H5 hs5 hb5 hx5 a6 c6 H6 ho6 hx6
      refine ⟨⟨s.length + 1, s.length + 1, out ++ [p_mid s fr s.length], a6, c6⟩, ⟨rfl, rfl, sl_snocS _ _ _ _, trivial⟩, ⟨Nat.le_refl _, Nat.le_refl _, by show (out ++ [_]).length ≤ s.length + 1; simp; omega, ?_, own_snocS hxe ho6, hx6⟩, by show s.length + 1 - (s.length + 1) < s.length + 1 - s.length; omega⟩
      unfold p_splitI
      rw [if_neg (show ¬ s.length + 1 ≤ s.length by omega), hinv]
      show _ = out ++ [p_mid s fr s.length]
      unfold splitF p_glueF; simp
  · rw [if_neg hle] at hinv
    ((conv => whnf); repeat (any_goals (first | (refine Vc.stp ?_; intros; (conv => whnf)) | (refine Vc.spl ?_ ?_ <;> (intro _; (conv => whnf))))))
    rw [hinv]
    exact ⟨⟨a, cap, rfl, ho2⟩, hx2⟩

theorem rbad_any (s : Bs) (hl : s.length ≤ 1000000000) (H : Heap) : CallH Tryz.prog 41 [.string (mkS s)] H fun v H' => v = .bool (badP s) ∧ H = H' := by
  have hsz : (mkS s).size = s.length := rfl
  refine Vc.CallH.body Tryz.func41 Tryz.call41 rfl (by decide +kernel) rfl ?_
  by_cases h32 : 32 < s.length
  · ((conv => whnf); repeat (any_goals (first | (refine Vc.stp ?_; intros; (conv => whnf)) | (refine Vc.spl ?_ ?_ <;> (intro _; (conv => whnf))))))
    exact ⟨by rw [show badP s = true by unfold badP; simp [h32]]; rfl, rfl⟩
  ((conv => whnf); repeat (any_goals (first | (refine Vc.stp ?_; intros; (conv => whnf)) | (refine Vc.spl ?_ ?_ <;> (intro _; (conv => whnf))))))
  refine LoopH.intro (fun (i : Nat) => [(3, .int .i64 i)]) (fun i H' => H = H' ∧ i ≤ s.length ∧ badP s = (s.drop i).any badC) (fun i => s.length - i) 0 ⟨rfl, trivial⟩ ⟨rfl, Nat.zero_le _, by unfold badP; simp [h32]⟩ ?_
  rintro i _ ⟨rfl, hi, hb⟩
  dsimp only
  by_cases hlt : i < s.length
  · obtain ⟨c, hc, hd⟩ := drop_get hlt
    have hcn := c.toNat_lt
    rw [hd, List.any_cons] at hb
    have key : badC c = decide (c.toNat < 33 ∨ 126 < c.toNat ∨ c.toNat = 34 ∨ c.toNat = 92 ∨ c.toNat = 42 ∨ c.toNat = 63 ∨ c.toNat = 58) := by
      unfold badC; rw [Bool.eq_iff_iff]; simp only [Bool.or_eq_true, decide_eq_true_eq, beq_iff_eq, or_assoc]
    cases hbc : badC c
    · rw [hbc] at hb
      rw [hbc] at key
      have key := of_decide_eq_false key.symm
      simp only [not_or] at key
      obtain ⟨c1, c2, c3, c4, c5, c6, c7⟩ := key
      ((conv => whnf); repeat (any_goals (first | ((refine IdxH.nat i rfl (by omega) ?_; (conv => whnf); rw [hc]); (conv => whnf)) | (refine Vc.stp ?_; intros; (conv => whnf)) | (refine Vc.spl ?_ ?_ <;> (intro _; (conv => whnf))))))
      exact ⟨i + 1, ⟨rfl, trivial⟩, ⟨rfl, by omega, by simpa using hb⟩, by omega⟩
    · rw [hbc] at hb
      rw [hbc] at key
      have key := of_decide_eq_true key.symm
      have hbt : badP s = true := by simpa using hb
      ((conv => whnf); repeat (any_goals (first | ((refine IdxH.nat i rfl (by omega) ?_; (conv => whnf); rw [hc]); (conv => whnf)) | (refine Vc.stp ?_; intros; (conv => whnf)) | (refine Vc.spl ?_ ?_ <;> (intro _; (conv => whnf))))))
      all_goals first | exact ⟨by rw [hbt]; rfl, rfl⟩ | (exfalso; omega)
  · rw [List.drop_of_length_le (by omega)] at hb
    ((conv => whnf); repeat (any_goals (first | (refine Vc.stp ?_; intros; (conv => whnf)) | (refine Vc.spl ?_ ?_ <;> (intro _; (conv => whnf))))))
    exact ⟨by rw [hb]; rfl, rfl⟩
theorem glue_take {l : List Bs} {i : Nat} {x : Bs} (h : l[i]? = some x) : glue (l.take (i + 1)) = if i = 0 then x else glue (l.take i) ++ 47 :: x := by
  have hlt : i < l.length := (List.getElem?_eq_some_iff.1 h).1
  rw [List.take_add_one, h]
  split
  · rename_i h0; subst h0; rfl
  · rename_i h0
    exact glue_app (b := [x]) (fun e => by have := congrArg List.length e; rw [List.length_take, List.length_nil] at this; omega) (by simp)
theorem rglue_any (l : List Bs) (a : Option Addr) (n cap : Nat) (H : Heap) (hr : Row H a (strs l)) (hn : l.length = n) (hg : glen l ≤ 1000000000) : CallH Tryz.prog 42 [.slice a n cap] H fun v H' => v = .string (mkS (glue l)) ∧ H = H' := by
  have h1 : ∀ m : List Bs, m.length ≤ glen m := fun m => by
    induction m with
    | nil => exact Nat.zero_le _
    | cons y m ih => rw [show glen (y :: m) = y.length + 1 + glen m by simp [glen], List.length_cons]; omega
  have hlg := h1 l
  refine Vc.CallH.body Tryz.func42 Tryz.call42 rfl (by decide +kernel) rfl ?_
  ((conv => whnf); repeat (any_goals (first | (refine Vc.stp ?_; intros; (conv => whnf)) | (refine Vc.spl ?_ ?_ <;> (intro _; (conv => whnf))))))
  refine LoopH.intro (fun (i : Nat) => [(4, .int .i64 i), (3, .string (mkS (glue (l.take i))))]) (fun i H' => H = H' ∧ i ≤ n) (fun i => n - i) 0 ⟨rfl, rfl, trivial⟩ ⟨rfl, Nat.zero_le _⟩ ?_
  rintro i _ ⟨rfl, hi⟩
  dsimp only
  have hsz : (mkS (glue (l.take i))).size = (glue (l.take i)).length := rfl
  have h47 : (⟨#[47]⟩ : ByteArray).size = 1 := rfl
  have hgt := glue_le (l.take i)
  have htg := take_glen l i
  by_cases hlt : i < n
  · obtain ⟨x, hx⟩ : ∃ x, l[i]? = some x := ⟨_, List.getElem?_eq_getElem (by omega)⟩
    have hst := glue_take hx
    have hxs : (mkS x).size = x.length := rfl
    have hxg : x.length + 1 ≤ glen l := by
      have := congrArg glen (List.take_append_drop (i + 1) l)
      rw [glen_append, List.take_add_one, hx, glen_append] at this
      have e : glen (some x).toList = x.length + 1 := by simp [glen]
      omega
    have hgt2 : (glue (l.take i)).length + x.length + 2 ≤ 3000000000 := by omega
    by_cases h0 : i = 0
    · subst h0
      ((conv => whnf); repeat (any_goals (first | ((refine NeedH.mk ⟨by (simp only [ByteArray.size_append]; omega), ?_⟩); (conv => whnf)) | ((refine IdxA.strv hr hn 0 x (by omega) hx ?_; intro _ _ _ _ _); (conv => whnf)) | (refine Vc.stp ?_; intros; (conv => whnf)) | (refine Vc.spl ?_ ?_ <;> (intro _; (conv => whnf))))))
      exact ⟨1, ⟨rfl, by (show Value.string (mkS [] ++ mkS x) = _; rw [hst, mkS_app]; rfl), trivial⟩, ⟨rfl, by omega⟩, by omega⟩
    · ((conv => whnf); repeat (any_goals (first | ((refine NeedH.mk ⟨by (simp only [ByteArray.size_append]; omega), ?_⟩); (conv => whnf)) | ((refine IdxA.strv hr hn i x (by omega) hx ?_; intro _ _ _ _ _); (conv => whnf)) | (refine Vc.stp ?_; intros; (conv => whnf)) | (refine Vc.spl ?_ ?_ <;> (intro _; (conv => whnf))))))
      exact ⟨i + 1, ⟨rfl, by (show Value.string ((mkS (glue (l.take i)) ++ mkS [47]) ++ mkS x) = _; rw [hst, if_neg h0, mkS_app, mkS_app]; simp), trivial⟩, ⟨rfl, by omega⟩, by omega⟩
  · obtain rfl : i = n := by omega
    ((conv => whnf); repeat (any_goals (first | (refine Vc.stp ?_; intros; (conv => whnf)) | (refine Vc.spl ?_ ?_ <;> (intro _; (conv => whnf))))))
    exact ⟨by rw [← hn, List.take_length]; rfl, rfl⟩
end Go.Proofs.YtjcmcmogbkdjcaaGreatDoor
/- Paths and trees, the reference: paths cleaned, parts, parents; what stands at a path and above it. -/
namespace Go.Vc
/-- nothing behind nothing -/
theorem NextH.none0 {P : Program} {H : Heap} {t u e ty : TypeId} {i : TypeInfo} {a : Option Addr} {c : Nat} {cb : Array Bool} {K : Value → Heap → Prop}
    (ht : P.underlying t = some (.slice e)) (hu : ∃ d, P.underlying u = some d ∧ (∀ k, d ≠ .int k)) (hi : P.info? e = some i) (hk : K (.slice none 0 0) H) :
    NextH P (builtin .append #[t, u] ty cb #[.slice none 0 0, .slice a 0 c]) H K := by
  refine ⟨fun w hw => ?_⟩
  obtain ⟨d, hu, hd⟩ := hu
  have hzero : (match d with | .int _ => true | _ => false) = false := by cases d <;> first | rfl | exact absurd rfl (hd _)
  have hsrc : Src P H (.slice a 0 c) i.size 0 [] := Src.row (Row.nil _ _) (by simp) (by simp)
  have hr : (Builtin.append_ #[t, u] ty #[.slice none 0 0, .slice a 0 c]).run P w = .ok (.slice none 0 0) w := by
    simp [Builtin.append_, underlying_of ht, underlying_of hu, sizeOf_of hi, hzero, hsrc.lenOf, hsrc.first w hw]
  simp only [builtin, Sem.run_bind, hr, Result.andThen_ok]
  exact ⟨Same.refl w, by rw [hw]; exact hk⟩
end Go.Vc
namespace Go.Proofs.YtjcmcmogbkdjcaaGreatDoor
open Go Go.Vc Go.Scr Go.Pth Go.Tre
structure WcS where
  i : Nat
  out : List Bs
  a : Option Addr
  cap : Nat
theorem glen_le_len (m : List Bs) : m.length ≤ glen m := by
  induction m with
  | nil => exact Nat.zero_le _
  | cons y m ih => rw [show glen (y :: m) = y.length + 1 + glen m by simp [glen], List.length_cons]; omega
set_option maxHeartbeats 4000000 in
theorem rclean0_any (s : Bs) (hl : s.length ≤ 100000000) (H : Heap) : CallH Tryz.prog 21 [.string (mkS s), .slice none 0 0] H fun v H' => v = .tuple #[.string (mkS (cleanF s).1), .int .i64 (cleanF s).2] ∧ Ext H H' := by
  have hsz : (mkS s).size = s.length := rfl
  rw [← rclean_nil]
  unfold rcleanF
  by_cases h1 : 200 < s.length
  · rw [if_pos h1]
    refine Vc.CallH.body Tryz.func21 Tryz.call21 rfl (by decide +kernel) rfl ?_
    ((conv => whnf); repeat (any_goals (first | (refine Vc.stp ?_; intros; (conv => whnf)) | (refine Vc.spl ?_ ?_ <;> (intro _; (conv => whnf))))))
    exact ⟨rfl, Ext.refl _⟩
  rw [if_neg h1]
  by_cases h2 : s.head? = some 47
  · rw [if_pos h2]
    obtain ⟨t, rfl⟩ : ∃ t, s = 47 :: t := by
      cases s with
      | nil => cases h2
      | cons c t => exact ⟨t, by have : c = 47 := by simpa using h2
                                 rw [this]⟩
    refine Vc.CallH.body Tryz.func21 Tryz.call21 rfl (by decide +kernel) rfl ?_
    have hpos : 0 < (47 :: t).length := by simp
    ((conv => whnf); repeat (any_goals (first | ((refine IdxH.nat 0 rfl hpos ?_; (conv => whnf); rw [show (mkS (47 :: t)).data.toList.getD 0 0 = 47 from rfl]); (conv => whnf)) | (refine Vc.stp ?_; intros; (conv => whnf)) | (refine Vc.spl ?_ ?_ <;> (intro _; (conv => whnf))))))
    exact ⟨rfl, Ext.refl _⟩
  rw [if_neg h2]
  obtain ⟨S, hS⟩ : ∃ S, splitF 47 s = S := ⟨_, rfl⟩
  have hsp := fun H => rsplit7_any s hl H
  have hg := glen_split s
  have hno := split_no 47 s
  rw [hS] at hsp hg hno ⊢
  have hSl := glen_le_len S
  by_cases hs0 : s = []
  · subst hs0
    have hS1 : S = [[]] := hS.symm
    subst hS1
    have e : walkF ([] : List Txt).length [] [([] : Bs)] = ([], 0) := rfl
    rw [e]
    have hz0 : (mkS []).size = 0 := rfl
    have l1 : [([] : Bs)].length = 1 := rfl
    have hgl := fun H => rglue_any [] none 0 0 H (Row.nil _ _) rfl (by decide)
    refine Vc.CallH.body Tryz.func21 Tryz.call21 rfl (by decide +kernel) rfl ?_
    ((conv => whnf); repeat (any_goals (first | (((with_reducible apply NextH.none0); (focus (rfl)); (focus ((exact ⟨_, rfl, fun _ h => by cases h⟩))); (focus (rfl)); (focus ((conv => whnf)))); (conv => whnf)) | ((refine (hsp _).mono ?_; rintro _ H2 ⟨⟨a2, c2, rfl, ho2⟩, hx2⟩; have hz2 := hx2.size; have hr2 := ho2.row); (conv => whnf)) | (refine Vc.stp ?_; intros; (conv => whnf)) | (refine Vc.spl ?_ ?_ <;> (intro _; (conv => whnf))))))
    refine LoopH.intro (fun (i : Nat) => [(8, .int .i64 i), (6, .slice none 0 0)]) (fun i H' => i ≤ 1 ∧ H2 = H') (fun i => 1 - i) 0 ⟨rfl, rfl, trivial⟩ ⟨Nat.zero_le _, rfl⟩ ?_
    rintro i _ ⟨hi, rfl⟩
    have q0 := eq_empty ([] : Bs)
    by_cases h0 : i = 0
    · subst h0
      rw [decide_eq_true rfl] at q0
      ((conv => whnf); repeat (any_goals (first | ((refine IdxA.strv hr2 rfl 0 [] (by omega) rfl ?_; intro _ _ _ _ _); (conv => whnf)) | (refine Vc.stp ?_; intros; (conv => whnf)) | (refine Vc.spl ?_ ?_ <;> (intro _; (conv => whnf))))))
      exact ⟨1, ⟨rfl, rfl, trivial⟩, ⟨by omega, rfl⟩, by omega⟩
    · obtain rfl : i = 1 := by omega
      ((conv => whnf); repeat (any_goals (first | ((refine (hgl _).mono ?_; rintro _ _ ⟨rfl, rfl⟩); (conv => whnf)) | (refine Vc.stp ?_; intros; (conv => whnf)) | (refine Vc.spl ?_ ?_ <;> (intro _; (conv => whnf))))))
      exact ⟨rfl, hx2⟩
  have hpos : 0 < s.length := List.length_pos_iff.2 hs0
  have hrest : CallH Tryz.prog 21 [.string (mkS s), .slice none 0 0] H fun v H' => v = .tuple #[.string (mkS (glue (walkF 0 [] S).1)), .int .i64 (walkF 0 [] S).2] ∧ Ext H H' := by
    have hc47 : 0 < s.length → ¬ (s.getD 0 0).toNat = 47 := fun hp e => by
      cases s with
      | nil => simp at hp
      | cons c t =>
        apply h2
        have : c.toNat = 47 := e
        rw [show c = 47 from UInt8.toNat_inj.1 this]; rfl
    refine Vc.CallH.body Tryz.func21 Tryz.call21 rfl (by decide +kernel) rfl ?_
    ((conv => whnf); repeat (any_goals (first | ((refine IdxH.nat 0 rfl (by omega) ?_; (conv => whnf); (have hc48 := hc47 (by omega)); (rw [show (mkS s).data.toList.getD 0 0 = s.getD 0 0 from rfl])); (conv => whnf)) | (((with_reducible apply NextH.none0); (focus (rfl)); (focus ((exact ⟨_, rfl, fun _ h => by cases h⟩))); (focus (rfl)); (focus ((conv => whnf)))); (conv => whnf)) | ((refine (hsp _).mono ?_; rintro _ H2 ⟨⟨a2, c2, rfl, ho2⟩, hx2⟩; have hz2 := hx2.size; have hr2 := ho2.row); (conv => whnf)) | (refine Vc.stp ?_; intros; (conv => whnf)) | (refine Vc.spl ?_ ?_ <;> (intro _; (conv => whnf))))))
    · skip
      refine LoopH.intro (fun (x : WcS) => [(8, .int .i64 x.i), (6, .slice x.a x.out.length x.cap)]) (fun x H' => x.i ≤ S.length ∧ x.out.length ≤ x.i ∧ glen x.out ≤ glen (S.take x.i) ∧ walkF 0 [] S = walkF 0 x.out (S.drop x.i) ∧ Own H' H2.size 9 1 x.a x.out.length x.cap (strs x.out) ∧ Ext H2 H') (fun x => S.length - x.i) ⟨0, [], none, 0⟩ ⟨rfl, rfl, trivial⟩ ⟨Nat.zero_le _, Nat.le_refl _, Nat.zero_le _, rfl, Own.nil _ _ _ _, Ext.refl _⟩ ?_
      rintro ⟨i, out, a, cap⟩ H3 ⟨hi, hol, hgo, hw, ho3, hx3⟩
      dsimp only at hi hol hgo hw ho3 ⊢
      have hz3 := hx3.size
      have hr3 := hr2.ext hx3
      by_cases hlt : i < S.length
      · obtain ⟨x, hx⟩ : ∃ x, S[i]? = some x := ⟨_, List.getElem?_eq_getElem (by omega)⟩
        have hdr : S.drop i = x :: S.drop (i + 1) := by
          rw [List.drop_eq_getElem_cons (by omega)]
          rw [List.getElem?_eq_getElem (by omega)] at hx
          rw [Option.some.inj hx]
        have htk : S.take (i + 1) = S.take i ++ [x] := by rw [List.take_add_one, hx]; rfl
        have hgt : glen (S.take (i + 1)) = glen (S.take i) + (x.length + 1) := by rw [htk, glen_append]; simp [glen]
        have hgS := take_glen S (i + 1)
        rw [hdr, walkF] at hw
        have q0 := eq_empty x
        have q1 : ((mkS x).toList == (⟨#[46]⟩ : ByteArray).toList) = decide (x = [46]) := by rw [show (⟨#[46]⟩ : ByteArray) = mkS [46] from rfl, str_beq]; simp [mkS_inj]
        have q2 : ((mkS x).toList == (⟨#[46, 46]⟩ : ByteArray).toList) = decide (x = [46, 46]) := by rw [show (⟨#[46, 46]⟩ : ByteArray) = mkS [46, 46] from rfl, str_beq]; simp [mkS_inj]
        have hbd := fun H => rbad_any x (by omega) H
        by_cases h0 : x = []
        · rw [if_pos (.inl h0)] at hw
          rw [decide_eq_true h0] at q0
          ((conv => whnf); repeat (any_goals (first | ((refine IdxA.strv hr3 rfl i x (by omega) hx ?_; intro _ _ _ _ _); (conv => whnf)) | (refine Vc.stp ?_; intros; (conv => whnf)) | (refine Vc.spl ?_ ?_ <;> (intro _; (conv => whnf))))))
          exact ⟨⟨i + 1, out, a, cap⟩, ⟨rfl, rfl, trivial⟩, ⟨by show i + 1 ≤ _; omega, by show out.length ≤ i + 1; omega, by show glen out ≤ glen (S.take (i + 1)); omega, hw, ho3, hx3⟩, by show S.length - (i + 1) < S.length - i; omega⟩
        rw [decide_eq_false h0] at q0
        by_cases h1' : x = [46]
        · rw [if_pos (.inr h1')] at hw
          rw [decide_eq_true h1'] at q1
          ((conv => whnf); repeat (any_goals (first | ((refine IdxA.strv hr3 rfl i x (by omega) hx ?_; intro _ _ _ _ _); (conv => whnf)) | (refine Vc.stp ?_; intros; (conv => whnf)) | (refine Vc.spl ?_ ?_ <;> (intro _; (conv => whnf))))))
          exact ⟨⟨i + 1, out, a, cap⟩, ⟨rfl, rfl, trivial⟩, ⟨by show i + 1 ≤ _; omega, by show out.length ≤ i + 1; omega, by show glen out ≤ glen (S.take (i + 1)); omega, hw, ho3, hx3⟩, by show S.length - (i + 1) < S.length - i; omega⟩
        rw [decide_eq_false h1'] at q1
        rw [if_neg (fun e => e.elim h0 h1')] at hw
        by_cases h2' : x = [46, 46]
        · rw [decide_eq_true h2'] at q2
          rw [if_pos h2'] at hw
          by_cases hl0 : out.length ≤ 0
          · rw [if_pos hl0] at hw
            rw [hw]
            ((conv => whnf); repeat (any_goals (first | ((refine IdxA.strv hr3 rfl i x (by omega) hx ?_; intro _ _ _ _ _); (conv => whnf)) | (refine Vc.stp ?_; intros; (conv => whnf)) | (refine Vc.spl ?_ ?_ <;> (intro _; (conv => whnf))))))
            exact ⟨rfl, by (repeat (first | assumption | exact Vc.Ext.refl _ | ((with_reducible apply Vc.Ext.trans); (case k => assumption)) | ((with_reducible apply Vc.Ext.but); (case k => assumption); (case hb => omega))))⟩
          · rw [if_neg hl0] at hw
            have hcl3 := ho3.cap_le
            ((conv => whnf); repeat (any_goals (first | ((refine IdxA.strv hr3 rfl i x (by omega) hx ?_; intro _ _ _ _ _); (conv => whnf)) | ((refine BndH.nat (out.length - 1) (by omega) (by omega) ?_); (conv => whnf)) | (refine Vc.stp ?_; intros; (conv => whnf)) | (refine Vc.spl ?_ ?_ <;> (intro _; (conv => whnf))))))
            have hdl : out.dropLast.length = out.length - 1 := List.length_dropLast
            have hcut := ho3.cut (out.length - 1) (by omega)
            have ecut : (strs out).take ((out.length - 1) * 1) = strs out.dropLast := by rw [Nat.mul_one, List.dropLast_eq_take]; simp [strs, List.map_take]
            rw [ecut, ← hdl] at hcut
            have hgd := glen_dropLast out
            exact ⟨⟨i + 1, out.dropLast, a, cap⟩, ⟨rfl, by dsimp only; rw [hdl]; rfl, trivial⟩, ⟨by show i + 1 ≤ _; omega, by show out.dropLast.length ≤ i + 1; omega, by show glen out.dropLast ≤ glen (S.take (i + 1)); omega, hw, hcut, hx3⟩, by show S.length - (i + 1) < S.length - i; omega⟩
        rw [decide_eq_false h2'] at q2
        rw [if_neg h2'] at hw
        by_cases hb : badP x = true
        · rw [if_pos hb] at hw
          rw [hb] at hbd
          rw [hw]
          ((conv => whnf); repeat (any_goals (first | ((refine IdxA.strv hr3 rfl i x (by omega) hx ?_; intro _ _ _ _ _); (conv => whnf)) | ((refine (hbd _).mono ?_; rintro _ _ ⟨rfl, rfl⟩); (conv => whnf)) | (refine Vc.stp ?_; intros; (conv => whnf)) | (refine Vc.spl ?_ ?_ <;> (intro _; (conv => whnf))))))
          exact ⟨rfl, by (repeat (first | assumption | exact Vc.Ext.refl _ | ((with_reducible apply Vc.Ext.trans); (case k => assumption)) | ((with_reducible apply Vc.Ext.but); (case k => assumption); (case hb => omega))))⟩
        · rw [if_neg hb] at hw
          have hb : badP x = false := by simpa using hb
          rw [hb] at hbd
          ((conv => whnf); repeat (any_goals (first | ((refine IdxA.strv hr3 rfl i x (by omega) hx ?_; intro _ _ _ _ _); (conv => whnf)) | ((refine (hbd _).mono ?_; rintro _ _ ⟨rfl, rfl⟩); (conv => whnf)) | (refine Vc.stp ?_; intros; (conv => whnf)) | (refine Vc.spl ?_ ?_ <;> (intro _; (conv => whnf))))))
          rename_i H5 hs5 hb5 hx5 a6 c6 H6 ho6 hx6
          exact ⟨⟨i + 1, out ++ [x], a6, c6⟩, ⟨rfl, sl_snocS _ _ _ _, trivial⟩, ⟨by show i + 1 ≤ _; omega, by show (out ++ [x]).length ≤ i + 1; rw [List.length_append]; simp; omega, by show glen (out ++ [x]) ≤ glen (S.take (i + 1)); rw [glen_append, hgt, show glen [x] = x.length + 1 by simp [glen]]; omega, hw, own_snocS rfl ho6, hx6⟩, by show S.length - (i + 1) < S.length - i; omega⟩
      · obtain rfl : i = S.length := by omega
        rw [List.drop_of_length_le (by omega), walkF] at hw
        rw [hw]
        have hgo' : glen out ≤ s.length + 1 := by rw [List.take_length] at hgo; omega
        have hgl := fun H' (k : Ext H3 H') => rglue_any out a out.length cap H' (ho3.row.ext k) rfl (by omega)
        by_cases hd : 12 < out.length
        · rw [if_pos hd]
          ((conv => whnf); repeat (any_goals (first | (refine Vc.stp ?_; intros; (conv => whnf)) | (refine Vc.spl ?_ ?_ <;> (intro _; (conv => whnf))))))
          exact ⟨rfl, by (repeat (first | assumption | exact Vc.Ext.refl _ | ((with_reducible apply Vc.Ext.trans); (case k => assumption)) | ((with_reducible apply Vc.Ext.but); (case k => assumption); (case hb => omega))))⟩
        · rw [if_neg hd]
          ((conv => whnf); repeat (any_goals (first | ((refine (hgl _ (by (repeat (first | assumption | exact Vc.Ext.refl _ | ((with_reducible apply Vc.Ext.trans); (case k => assumption)) | ((with_reducible apply Vc.Ext.but); (case k => assumption); (case hb => omega)))))).mono ?_; rintro _ _ ⟨rfl, rfl⟩); (conv => whnf)) | (refine Vc.stp ?_; intros; (conv => whnf)) | (refine Vc.spl ?_ ?_ <;> (intro _; (conv => whnf))))))
          exact ⟨rfl, by (repeat (first | assumption | exact Vc.Ext.refl _ | ((with_reducible apply Vc.Ext.trans); (case k => assumption)) | ((with_reducible apply Vc.Ext.but); (case k => assumption); (case hb => omega))))⟩
  exact hrest
theorem rclean_any (s : Bs) (hl : s.length ≤ 100000000) (H : Heap) : CallH Tryz.prog 8 [.string (mkS s)] H fun v H' => v = .tuple #[.string (mkS (cleanF s).1), .int .i64 (cleanF s).2] ∧ Ext H H' := by
  refine Vc.CallH.body Tryz.func8 Tryz.call8 rfl (by decide +kernel) rfl ?_
  ((conv => whnf); repeat (any_goals (first | ((refine (rclean0_any s hl _).mono ?_; rintro _ H2 ⟨rfl, hx2⟩); (conv => whnf)) | (refine Vc.stp ?_; intros; (conv => whnf)) | (refine Vc.spl ?_ ?_ <;> (intro _; (conv => whnf))))))
  exact ⟨rfl, hx2⟩
end Go.Proofs.YtjcmcmogbkdjcaaGreatDoor
/- The reference's trees: parts, parents, what stands at a path and above it. -/
namespace Go.Proofs.YtjcmcmogbkdjcaaGreatDoor
open Go Go.Vc Go.Scr Go.Pth Go.Tre
theorem rparts_any (p : Bs) (hl : p.length ≤ 100000000) (H : Heap) : CallH Tryz.prog 77 [.string (mkS p)] H fun v H' => (∃ a cap, v = .slice a (partsF p).length cap ∧ Own H' H.size 9 1 a (partsF p).length cap (strs (partsF p))) ∧ Ext H H' := by
  have e0 := eq_empty p
  have hsp := fun H => rsplit7_any p hl H
  refine Vc.CallH.body Tryz.func77 Tryz.call77 rfl (by decide +kernel) rfl ?_
  unfold partsF
  by_cases hp : p = []
  · rw [decide_eq_true hp] at e0
    rw [if_pos hp]
    ((conv => whnf); repeat (any_goals (first | (refine Vc.stp ?_; intros; (conv => whnf)) | (refine Vc.spl ?_ ?_ <;> (intro _; (conv => whnf))))))
    exact ⟨⟨none, 0, rfl, Own.nil _ _ _ _⟩, Ext.refl _⟩
  · rw [decide_eq_false hp] at e0
    rw [if_neg hp]
    ((conv => whnf); repeat (any_goals (first | ((refine (hsp _).mono ?_; rintro _ H2 ⟨⟨a2, c2, rfl, ho2⟩, hx2⟩); (conv => whnf)) | (refine Vc.stp ?_; intros; (conv => whnf)) | (refine Vc.spl ?_ ?_ <;> (intro _; (conv => whnf))))))
    exact ⟨⟨a2, c2, rfl, ho2⟩, hx2⟩
theorem glen_parts (p : Bs) : glen (partsF p) ≤ p.length + 1 := by
  unfold partsF
  split
  · exact Nat.zero_le _
  · rw [glen_split]; exact Nat.le_refl _
/-- what at answers -/
def RatV (v : Value) (A : Tr) (p : Txt) : Prop := (mget A p = none ∧ v = .int .i64 (-1)) ∨ ∃ (i : Nat) (n : Tre.Node), A[i]? = some (p, n) ∧ mget A p = some n ∧ v = .int .i64 i
theorem rat_any {b : Nat} {A : Tr} {H : Heap} (h : RTree H b A) (p : Bs) (hAl : A.length ≤ 1000000000) : CallH Tryz.prog 37 [.pointer (some ⟨b, 0, none⟩), .string (mkS p)] H fun v H' => RatV v A p ∧ H = H' := by
  obtain ⟨a, cap, hb, hr⟩ := h.out
  refine Vc.CallH.body Tryz.func37 Tryz.call37 rfl (by decide +kernel) rfl ?_
  ((conv => whnf); repeat (any_goals (first | (refine Vc.stp ?_; intros; (conv => whnf)) | (refine Vc.spl ?_ ?_ <;> (intro _; (conv => whnf))))))
  refine LoopH.intro (fun (i : Nat) => [(5, .int .i64 i)]) (fun i H' => H = H' ∧ i ≤ A.length ∧ mget A p = mget (A.drop i) p) (fun i => A.length - i) 0 ⟨rfl, trivial⟩ ⟨rfl, Nat.zero_le _, rfl⟩ ?_
  rintro i _ ⟨rfl, hi, hm⟩
  by_cases hlt : i < A.length
  · obtain ⟨x, hx⟩ : ∃ x, A[i]? = some x := ⟨_, List.getElem?_eq_getElem (by omega)⟩
    have hdr : A.drop i = x :: A.drop (i + 1) := by
      rw [List.drop_eq_getElem_cons (by omega)]
      rw [List.getElem?_eq_getElem (by omega)] at hx
      rw [Option.some.inj hx]
    rw [hdr] at hm
    simp only [mget] at hm
    have e1 : ((mkS x.1).toList == (mkS p).toList) = decide (x.1 = p) := by rw [str_beq]; simp [mkS_inj]
    by_cases hp : x.1 = p
    · rw [decide_eq_true hp] at e1
      rw [if_pos hp.symm] at hm
      ((conv => whnf); repeat (any_goals (first | ((refine IdxA.file hr rfl i x (by omega) hx ?_; intro bi oi ai ci hri hci; have hc0 := hci 0 _ rfl; have hc1 := hci 1 _ rfl; have hc2 := hci 2 _ rfl); (conv => whnf)) | (refine Vc.stp ?_; intros; (conv => whnf)) | (refine Vc.spl ?_ ?_ <;> (intro _; (conv => whnf))))))
      exact ⟨.inr ⟨i, x.2, by rw [hx, ← hp], hm, rfl⟩, rfl⟩
    · rw [decide_eq_false hp] at e1
      rw [if_neg (fun e => hp e.symm)] at hm
      ((conv => whnf); repeat (any_goals (first | ((refine IdxA.file hr rfl i x (by omega) hx ?_; intro bi oi ai ci hri hci; have hc0 := hci 0 _ rfl; have hc1 := hci 1 _ rfl; have hc2 := hci 2 _ rfl); (conv => whnf)) | (refine Vc.stp ?_; intros; (conv => whnf)) | (refine Vc.spl ?_ ?_ <;> (intro _; (conv => whnf))))))
      exact ⟨i + 1, ⟨rfl, trivial⟩, ⟨rfl, by omega, hm⟩, by omega⟩
  · rw [List.drop_of_length_le (by omega)] at hm
    ((conv => whnf); repeat (any_goals (first | (refine Vc.stp ?_; intros; (conv => whnf)) | (refine Vc.spl ?_ ?_ <;> (intro _; (conv => whnf))))))
    exact ⟨.inl ⟨hm, rfl⟩, rfl⟩
def RaheadV (H' : Heap) (base : Nat) (v : Value) (A : Tr) (p : Txt) : Prop :=
  if fileF A p = true then v = .tuple #[.bool true, .slice none 0 0]
  else ∃ a cap, v = .tuple #[.bool false, .slice a (lackF A p).length cap] ∧ Own H' base 9 1 a (lackF A p).length cap (strs (lackF A p))
structure RaS where
  m : Nat
  out : List Bs
  a : Option Addr
  cap : Nat
set_option maxHeartbeats 1000000 in
theorem rahead_any {b : Nat} {A : Tr} {H : Heap} (h : RTree H b A) {p : Bs} (hl : p.length ≤ 100000000) (hAl : A.length ≤ 1000000000) : CallH Tryz.prog 57 [.pointer (some ⟨b, 0, none⟩), .string (mkS p)] H fun v H' => RaheadV H' H.size v A p ∧ Ext H H' := by
  have hpa := fun H => rparts_any p hl H
  have hglp := glen_parts p
  obtain ⟨S, hS⟩ : ∃ S, partsF p = S := ⟨_, rfl⟩
  obtain ⟨ps, hps⟩ : ∃ ps, pars p = ps := ⟨_, rfl⟩
  have hpl : ps.length = S.length - 1 := by rw [← hps, pars_len, hS]
  have hpg : ∀ m, m < S.length - 1 → ps[m]? = some (glue (S.take (m + 1))) := fun m hm => by rw [← hps, pars_get _ (by rw [hS]; exact hm), hS]
  rw [hS] at hpa hglp
  have hSl := glen_le_len S
  refine Vc.CallH.body Tryz.func57 Tryz.call57 rfl (by decide +kernel) rfl ?_
  ((conv => whnf); repeat (any_goals (first | ((refine (hpa _).mono ?_; rintro _ H1 ⟨⟨a1, c1, rfl, ho1⟩, hx1⟩; have hz1 := hx1.size; have hcl1 := ho1.cap_le); (conv => whnf)) | (refine Vc.stp ?_; intros; (conv => whnf)) | (refine Vc.spl ?_ ?_ <;> (intro _; (conv => whnf))))))
  refine LoopH.intro (fun (x : RaS) => [(8, .int .i64 ((x.m : Int) + 1)), (6, .slice x.a x.out.length x.cap)])
    (fun x H' => x.m ≤ S.length ∧ x.out.length ≤ x.m ∧ (x.m ≤ S.length - 1 ∨ S.length = 0 ∧ x.m = 0) ∧ x.out = ((ps.take x.m).filter fun d => (mget A d).isNone) ∧ (∀ d ∈ ps.take x.m, ∀ n, mget A d = some n → n.1 = true) ∧ Own H' H1.size 9 1 x.a x.out.length x.cap (strs x.out) ∧ Ext H1 H') (fun x => S.length - x.m) ⟨0, [], none, 0⟩ ⟨rfl, rfl, trivial⟩
    ⟨Nat.zero_le _, Nat.le_refl _, by (show 0 ≤ S.length - 1 ∨ _; exact .inl (Nat.zero_le _)), rfl, by (intro d hd; cases hd), Own.nil _ _ _ _, Ext.refl _⟩ ?_
  rintro ⟨m, out, a, cap⟩ H2 ⟨hm, hol, hm2, hout, hdir, ho2, hx2⟩
  dsimp only at hm hol hm2 hout hdir ho2 ⊢
  have hz2 := hx2.size
  have hx02 : Ext H H2 := hx1.trans hx2
  have hr1 := ho1.row.ext hx2
  obtain ⟨ta, tcap, htb, htr⟩ := (h.ext hx02).out
  by_cases hlt : m + 1 < S.length
  · have hget := hpg m (by omega)
    have htk : ps.take (m + 1) = ps.take m ++ [glue (S.take (m + 1))] := by rw [List.take_add_one, hget]; rfl
    have hcut := hr1.take (m + 1)
    have ecut : (strs S).take (m + 1) = strs (S.take (m + 1)) := by simp [strs, List.map_take]
    rw [ecut] at hcut
    have htl : (S.take (m + 1)).length = m + 1 := by rw [List.length_take]; omega
    have htg := take_glen S (m + 1)
    have hgl := fun H' (k : Ext H2 H') => rglue_any (S.take (m + 1)) a1 (m + 1) c1 H' (hcut.ext k) htl (by omega)
    have hat := fun H' (k : Ext H2 H') => rat_any ((h.ext hx02).ext k) (glue (S.take (m + 1))) hAl
    cases hg : mget A (glue (S.take (m + 1))) with
    | none =>
      unfold RatV at hat
      rw [hg] at hat
      ((conv => whnf); repeat (any_goals (first | ((refine BndH.nat (m + 1) (by omega) (by omega) ?_); (conv => whnf)) | ((refine (hgl _ (by (repeat (first | assumption | exact Vc.Ext.refl _ | ((with_reducible apply Vc.Ext.trans); (case k => assumption)) | ((with_reducible apply Vc.Ext.but); (case k => assumption); (case hb => omega)))))).mono ?_; rintro _ _ ⟨rfl, rfl⟩); (conv => whnf)) | ((refine (hat _ (by (repeat (first | assumption | exact Vc.Ext.refl _ | ((with_reducible apply Vc.Ext.trans); (case k => assumption)) | ((with_reducible apply Vc.Ext.but); (case k => assumption); (case hb => omega)))))).mono ?_; rintro _ _ ⟨(⟨_, rfl⟩ | ⟨_, _, _, hcon, _⟩), rfl⟩; rotate_left; exact absurd hcon (by simp)); (conv => whnf)) | (refine Vc.stp ?_; intros; (conv => whnf)) | (refine Vc.spl ?_ ?_ <;> (intro _; (conv => whnf))))))
      rename_i H5 hs5 hb5 hx5 a6 c6 H6 ho6 hx6
      refine ⟨⟨m + 1, out ++ [glue (S.take (m + 1))], a6, c6⟩, ⟨rfl, sl_snocS _ _ _ _, trivial⟩, ⟨by show m + 1 ≤ S.length; omega, by show (out ++ [_]).length ≤ m + 1; rw [List.length_append, List.length_singleton]; omega, .inl (by show m + 1 ≤ S.length - 1; omega), ?_, ?_, own_snocS rfl ho6, hx6⟩, by show S.length - (m + 1) < S.length - m; omega⟩
      · show out ++ _ = _
        rw [htk, List.filter_append, ← hout, List.filter_cons, if_pos (by rw [hg]; rfl)]; rfl
      · show ∀ d ∈ ps.take (m + 1), _
        rw [htk]
        intro d hd n hn
        rcases List.mem_append.1 hd with hd | hd
        · exact hdir d hd n hn
        · rw [List.mem_singleton] at hd; subst hd; rw [hg] at hn; cases hn
    | some n =>
      unfold RatV at hat
      rw [hg] at hat
      obtain ⟨dir, t⟩ := n
      cases dir with
      | true =>
        ((conv => whnf); repeat (any_goals (first | ((refine BndH.nat (m + 1) (by omega) (by omega) ?_); (conv => whnf)) | ((refine (hgl _ (by (repeat (first | assumption | exact Vc.Ext.refl _ | ((with_reducible apply Vc.Ext.trans); (case k => assumption)) | ((with_reducible apply Vc.Ext.but); (case k => assumption); (case hb => omega)))))).mono ?_; rintro _ _ ⟨rfl, rfl⟩); (conv => whnf)) | ((refine (hat _ (by (repeat (first | assumption | exact Vc.Ext.refl _ | ((with_reducible apply Vc.Ext.trans); (case k => assumption)) | ((with_reducible apply Vc.Ext.but); (case k => assumption); (case hb => omega)))))).mono ?_; rintro _ _ ⟨(⟨hcon, _⟩ | ⟨k, nn, hk, hnn, rfl⟩), rfl⟩; cases hcon; (obtain rfl := Option.some.inj hnn); (have hkl := (List.getElem?_eq_some_iff.1 hk).1)); (conv => whnf)) | ((refine IdxA.file htr rfl k _ (by omega) hk ?_; intro bi oi ai ci hri hci; have hc1 := hci 1 _ rfl); (conv => whnf)) | (refine Vc.stp ?_; intros; (conv => whnf)) | (refine Vc.spl ?_ ?_ <;> (intro _; (conv => whnf))))))
        refine ⟨⟨m + 1, out, a, cap⟩, ⟨rfl, rfl, trivial⟩, ⟨by show m + 1 ≤ S.length; omega, by show out.length ≤ m + 1; omega, .inl (by show m + 1 ≤ S.length - 1; omega), ?_, ?_, ho2, hx2⟩, by show S.length - (m + 1) < S.length - m; omega⟩
        · show out = _
          rw [htk, List.filter_append, ← hout, List.filter_cons, if_neg (by rw [hg]; simp)]; simp
        · show ∀ d ∈ ps.take (m + 1), _
          rw [htk]
          intro d hd n hn
          rcases List.mem_append.1 hd with hd | hd
          · exact hdir d hd n hn
          · rw [List.mem_singleton] at hd; subst hd; rw [hg] at hn; cases hn; rfl
      | false =>
        ((conv => whnf); repeat (any_goals (first | ((refine BndH.nat (m + 1) (by omega) (by omega) ?_); (conv => whnf)) | ((refine (hgl _ (by (repeat (first | assumption | exact Vc.Ext.refl _ | ((with_reducible apply Vc.Ext.trans); (case k => assumption)) | ((with_reducible apply Vc.Ext.but); (case k => assumption); (case hb => omega)))))).mono ?_; rintro _ _ ⟨rfl, rfl⟩); (conv => whnf)) | ((refine (hat _ (by (repeat (first | assumption | exact Vc.Ext.refl _ | ((with_reducible apply Vc.Ext.trans); (case k => assumption)) | ((with_reducible apply Vc.Ext.but); (case k => assumption); (case hb => omega)))))).mono ?_; rintro _ _ ⟨(⟨hcon, _⟩ | ⟨k, nn, hk, hnn, rfl⟩), rfl⟩; cases hcon; (obtain rfl := Option.some.inj hnn); (have hkl := (List.getElem?_eq_some_iff.1 hk).1)); (conv => whnf)) | ((refine IdxA.file htr rfl k _ (by omega) hk ?_; intro bi oi ai ci hri hci; have hc1 := hci 1 _ rfl); (conv => whnf)) | (refine Vc.stp ?_; intros; (conv => whnf)) | (refine Vc.spl ?_ ?_ <;> (intro _; (conv => whnf))))))
        have hff : fileF A p = true := by
          unfold fileF
          rw [List.any_eq_true, hps]
          exact ⟨_, List.mem_of_getElem? hget, by rw [hg]; rfl⟩
        refine ⟨?_, hx02⟩
        unfold RaheadV
        rw [if_pos hff]; rfl
  · have hall : ps.take m = ps := List.take_of_length_le (by omega)
    rw [hall] at hout hdir
    have hff : fileF A p = false := by
      unfold fileF
      rw [List.any_eq_false, hps]
      intro d hd
      have := hdir d hd
      cases hg : mget A d with
      | none => simp
      | some n => simp [this n hg]
    have hlk : out = lackF A p := by rw [hout]; unfold lackF; rw [hps]
    ((conv => whnf); repeat (any_goals (first | (refine Vc.stp ?_; intros; (conv => whnf)) | (refine Vc.spl ?_ ?_ <;> (intro _; (conv => whnf))))))
    refine ⟨?_, hx02⟩
    unfold RaheadV
    rw [hff, if_neg (by simp), ← hlk]
    exact ⟨a, cap, rfl, ho2.base (by omega)⟩
end Go.Proofs.YtjcmcmogbkdjcaaGreatDoor
/- The reference's trees: a file or directory is put in its place; sizes. -/
namespace Go.Vc
/-- behind a slice that is full: new cells -/
theorem NextH.appendFull {P : Program} {H : Heap} {t u e ty : TypeId} {i : TypeInfo} {z : Value} {a : Option Addr} {n : Nat} {xs : List Value} {x : Value} {m : Nat} {news : List Value} {cb : Array Bool} {K : Value → Heap → Prop}
    (hr : Row H a xs) (hl : xs.length = n * i.size) (hsrc : Src P H x i.size m news) (hm : 0 < m)
    (ht : P.underlying t = some (.slice e)) (hu : ∃ d, P.underlying u = some d ∧ (∀ k, d ≠ .int k)) (hi : P.info? e = some i) (hz : i.zero = some z) (hzs : z.cells.size = i.size)
    (h63 : n + m ≤ maxLen) (hbytes : (n + m) * i.bytes ≤ 140737488355328)
    (hk : ∀ cap' H', Own H' H.size e i.size (some ⟨H.size, 0, none⟩) (n + m) cap' (xs ++ news) → Ext H H' → K (.slice (some ⟨H.size, 0, none⟩) (n + m) cap') H') :
    NextH P (builtin .append #[t, u] ty cb #[.slice a n n, x]) H K := by
  refine ⟨fun w hw => ?_⟩
  obtain ⟨d, hu, hd⟩ := hu
  have hzero : (match d with | .int _ => true | _ => false) = false := by cases d <;> first | rfl | exact absurd rfl (hd _)
  have hsmall : n + m ≤ 9223372036854775807 := by have := h63; simp only [maxLen] at this; omega
  have hlen : (xs ++ news).length = (n + m) * i.size := by rw [List.length_append, hl, hsrc.len, Nat.add_mul]
  have hroom : ¬ n + m ≤ n := by omega
  have hroom' : ¬ m = 0 := by omega
  have goal : ∀ {v w'}, (Builtin.append_ #[t, u] ty #[.slice a n n, x]).run P w = .ok v w' → Same w w' → K v w'.heap → Nexts P w K ((builtin .append #[t, u] ty cb #[.slice a n n, x]).run P w) := by
    intro v w' hr hs hk
    simp only [builtin, Sem.run_bind, hr, Result.andThen_ok]
    exact ⟨hs, hk⟩
  have hgrow : n < n + m := by omega
  have h63' : ¬ (9223372036854775807 < ((n : Int) + (m : Int))) := by omega
  have hfit := growslice_fits hgrow hbytes
  have h48 : ¬ (281474976710656 < Builtin.nextslicecap (n + m) n * i.bytes) := by omega
  have hold : ∀ w' : World, w'.heap = H → (Builtin.firstCells i.size n (.slice a n n)).run P w' = .ok xs.toArray w' := fun w' hw' => run_firstRow hr hl w' hw'
  have hge : n + m ≤ grownCap w (n + m) n e := grownCap_ge w (n + m) n e
  have hcm : grownCap w (n + m) n e ≤ maxLen := grownCap_le_maxLen w (n + m) n e h63
  refine goal (v := .slice (some ⟨w.heap.size, 0, none⟩) (n + m) (grownCap w (n + m) n e))
    (w' := w.drew.alloc (.cells (xs.toArray ++ news.toArray ++ Builtin.zeroCells z.cells (grownCap w (n + m) n e - (n + m))) e)) ?_ ⟨rfl, rfl, rfl⟩ ?_
  · have e1 := hold w.drew hw
    have e2 := hsrc.first w.drew hw
    simp [Builtin.append_, underlying_of ht, underlying_of hu, sizeOf_of hi, typeInfo_of hi, hzero, hsrc.lenOf, hroom, hroom', h63', h48, Question.forced, e1, e2, zeroValue, hz, newRow, grownCap]
    congr 2
    apply Array.ext'
    simp [List.append_assoc]
  · subst hw
    refine hk _ _ ⟨hlen, .inr ⟨w.heap.size, _, rfl, Nat.le_refl _, Blk.new (push_last _ _), hge, hcm, ?_, ?_⟩⟩ (Only.push _ _ _)
    · simp only [Array.size_append, List.size_toArray, size_zeroCells, hzs, hl, hsrc.len, ← Nat.add_mul]
      congr 1
      omega
    · simp only [Array.toList_append, List.append_assoc]
      rw [← List.append_assoc, ← hlen]
      exact List.take_left
end Go.Vc
namespace Go.Tre
open Go.Pth Go.Scr
open Go.Vc (mget mput mdel mget_put mget_mem mget_of_mem mget_none)
theorem putF_at : ∀ (A : Tr) (p : Txt) (n : Node) (i : Nat), (∀ j x, j < i → A[j]? = some x → Op.bytesLess x.1 p = true) → i ≤ A.length → (∀ x, A[i]? = some x → Op.bytesLess x.1 p = false) →
    putF A p n = A.take i ++ (p, n) :: A.drop (if A[i]?.map (·.1) = some p then i + 1 else i)
  | [], p, n, i, _, hi, _ => by
    obtain rfl : i = 0 := by simpa using hi
    rfl
  | x :: l, p, n, 0, _, _, h => by
    have := h x rfl
    simp only [putF]
    rw [if_neg (by rw [this]; simp)]
    by_cases e : x.1 = p
    · rw [if_pos e]; simp [e]
    · rw [if_neg e]; simp [e]
  | x :: l, p, n, i + 1, h1, hi, h => by
    have hx := h1 0 x (by omega) rfl
    simp only [putF]
    rw [if_pos hx, putF_at l p n i (fun j y hj hy => h1 (j + 1) y (by omega) (by simpa using hy)) (by simpa using hi) (fun y hy => h y (by simpa using hy))]
    simp only [List.getElem?_cons_succ, List.take_succ_cons, List.cons_append]
    congr 2
    by_cases e : l[i]?.map (·.1) = some p
    · rw [if_pos e, if_pos e]; rfl
    · rw [if_neg e, if_neg e]; rfl
end Go.Tre
namespace Go.Proofs.YtjcmcmogbkdjcaaGreatDoor
open Go Go.Vc Go.Scr Go.Pth Go.Tre
/-- files behind files -/
theorem NextH.fullF {H : Heap} {u ty : TypeId} {a a2 : Option Addr} {n m c2 : Nat} {xs news : List Value} {cb : Array Bool} {K : Value → Heap → Prop}
    (hr : Row H a xs) (hl : xs.length = n * 3) (hr2 : Row H a2 news) (hl2 : news.length = m * 3) (hp : ∀ u ∈ news, plainV u = true) (hm : 0 < m) (hn : n + m ≤ 4000000) (hu : ∃ d, Tryz.prog.underlying u = some d ∧ (∀ k, d ≠ .int k))
    (hk : ∀ cap' H', Own H' H.size 25 3 (some ⟨H.size, 0, none⟩) (n + m) cap' (xs ++ news) → Ext H H' → K (.slice (some ⟨H.size, 0, none⟩) (n + m) cap') H') :
    NextH Tryz.prog (builtin .append #[26, u] ty cb #[.slice a n n, .slice a2 m c2]) H K := by
  refine Go.Vc.NextH.appendFull (i := Tryz.t25) (z := .agg #[.string ⟨#[]⟩, .bool false, .slice none 0 0]) hr hl (Src.row hr2 hl2 hp) hm rfl hu rfl rfl rfl (by unfold maxLen; omega) ?_ hk
  exact Nat.le_trans (Nat.mul_le_mul_left (n + m) (show _ ≤ 64 from by decide)) (by omega)
theorem NextH.appF {H : Heap} {u ty : TypeId} {a a2 : Option Addr} {n m cap c2 base : Nat} {xs news : List Value} {cb : Array Bool} {K : Value → Heap → Prop}
    (ho : Own H base 25 3 a n cap xs) (hr2 : Row H a2 news) (hl2 : news.length = m * 3) (hp : ∀ u ∈ news, plainV u = true) (hb : base ≤ H.size) (hn : n + m ≤ 4000000) (hu : ∃ d, Tryz.prog.underlying u = some d ∧ (∀ k, d ≠ .int k))
    (hk : ∀ a' cap' H', Own H' base 25 3 a' (n + m) cap' (xs ++ news) → Wr a H H' → K (.slice a' (n + m) cap') H') :
    NextH Tryz.prog (builtin .append #[26, u] ty cb #[.slice a n cap, .slice a2 m c2]) H K := by
  refine Go.Vc.NextH.append (i := Tryz.t25) (z := .agg #[.string ⟨#[]⟩, .bool false, .slice none 0 0]) rfl hu rfl rfl rfl ho (Src.row hr2 hl2 hp) (by unfold maxLen; omega) ?_ hb fun a' cap' H' h1 h2 _ => hk a' cap' H' h1 h2
  exact Nat.le_trans (Nat.mul_le_mul_left (n + m) (show _ ≤ 64 from by decide)) (by omega)
theorem toList_mkS (l : Bs) : (mkS l).toList = l := by rw [ByteArray.toList_eq]
theorem fileC_plain (x : Bs × Tre.Node) (a : Option Addr) (c : Nat) : ∀ u ∈ fileC x a c, plainV u = true := by simp [fileC, plainV]
theorem own_litK {H : Heap} {g base : Nat} {e : TypeId} {xs : List Value} (h : Blk H g xs.toArray e) (hb : base ≤ g) : Own H base e xs.length (some ⟨g, 0, none⟩) 1 1 xs := ⟨by simp, .inr ⟨g, xs.toArray, rfl, hb, h, Nat.le_refl _, by unfold maxLen; omega, by simp, by simp⟩⟩
set_option maxHeartbeats 4000000 in
theorem rput_any {b : Nat} {A : Tr} {H : Heap} (h : RTree H b A) (p : Bs) (n : Tre.Node) (fa : Option Addr) (fc : Nat) (hf : Row H fa (strV n.2)) (hAl : A.length ≤ 1000000) :
    CallH Tryz.prog 60 [.pointer (some ⟨b, 0, none⟩), .agg #[.string (mkS p), .bool n.1, .slice fa n.2.length fc]] H fun v H' => v = .tuple #[] ∧ RTree H' b (putF A p n) ∧ But b H H' := by
  obtain ⟨a, cap, hb, hr⟩ := h.out
  obtain ⟨vs, hrv, hfv⟩ := hr.out
  have hbl := hb.lt
  have hvl := hfv.len
  have hvd : ∀ k, (vs.drop (k * 3)).length = (A.length - k) * 3 := fun k => by rw [List.length_drop, hvl, Nat.sub_mul]
  have hby : ∀ m : Nat, m ≤ 4000000 → m * (Tryz.t25).bytes ≤ 140737488355328 := fun m hm => Nat.le_trans (Nat.mul_le_mul_left m (show _ ≤ 64 from by decide)) (by omega)
  refine Vc.CallH.body Tryz.func60 Tryz.call60 rfl (by decide +kernel) rfl ?_
  ((conv => whnf); repeat (any_goals (first | (refine Vc.stp ?_; intros; (conv => whnf)) | (refine Vc.spl ?_ ?_ <;> (intro _; (conv => whnf))))))
  rename_i H1 z1 b1 x1
  have b1 : Blk H1 H.size #[.string (mkS p), .bool n.1, .slice fa n.2.length fc] 25 := b1
  have hr1 := hr.ext x1
  have hb1 := hb.ext x1
  refine LoopH.intro (fun (i : Nat) => [(4, .int .i64 i)]) (fun i H' => H1 = H' ∧ i ≤ A.length ∧ ∀ j x, j < i → A[j]? = some x → Op.bytesLess x.1 p = true) (fun i => A.length - i) 0 ⟨rfl, trivial⟩ ⟨rfl, Nat.zero_le _, fun j x hj => absurd hj (by omega)⟩ ?_
  rintro i _ ⟨rfl, hi, hlo⟩
  have hvt : (vs.take (i * 3)).length = i * 3 := by rw [List.length_take, hvl]; have := Nat.mul_le_mul_right 3 hi; omega
  by_cases hlt : i < A.length
  · obtain ⟨x, hx⟩ : ∃ x, A[i]? = some x := ⟨_, List.getElem?_eq_getElem (by omega)⟩
    have e1 : Op.bytesLess (mkS x.1).toList (mkS p).toList = Op.bytesLess x.1 p := by rw [toList_mkS, toList_mkS]
    by_cases hls : Op.bytesLess x.1 p = true
    · rw [hls] at e1
      ((conv => whnf); repeat (any_goals (first | ((refine IdxA.file hr1 rfl i x (by omega) hx ?_; intro bi oi ai ci hri hci; have hc0 := hci 0 _ rfl; have hc1 := hci 1 _ rfl; have hc2 := hci 2 _ rfl); (conv => whnf)) | (((with_reducible refine Vc.DrawH.held [0, 1, 2, 3, 4, 5, 6, 7, 8, 11, 12, 13, 14, 15, 16, 17, 9, 10, 18, 19, 20, 21] [(9, [4, 14]), (10, [14])] mixed (by decide +kernel) ?_)); (conv => whnf)) | (((with_reducible refine Vc.DrawH.held [0, 1, 2, 3, 4, 5, 6, 7, 8, 10, 11, 12, 13, 14, 15, 9, 16, 17, 18, 19, 20] [(9, [4, 13]), (16, [4])] mixed (by decide +kernel) ?_)); (conv => whnf)) | (refine Vc.stp ?_; intros; (conv => whnf)) | (refine Vc.spl ?_ ?_ <;> (intro _; (conv => whnf))))))
      exact ⟨i + 1, ⟨rfl, trivial⟩, ⟨rfl, by omega, fun j y hj hy => by
        by_cases hji : j = i
        · subst hji; rw [hx] at hy; cases hy; exact hls
        · exact hlo j y (by omega) hy⟩, by omega⟩
    · have hls : Op.bytesLess x.1 p = false := by simpa using hls
      rw [hls] at e1
      have e2 : ((mkS x.1).toList == (mkS p).toList) = decide (x.1 = p) := by rw [str_beq]; simp [mkS_inj]
      have hput := putF_at A p n i hlo hi (fun y hy => by rw [hx] at hy; cases hy; exact hls)
      rw [hx] at hput
      by_cases hp : x.1 = p
      · rw [decide_eq_true hp] at e2
        rw [Option.map_some, if_pos (by rw [hp])] at hput
        have hA1 : A.drop i = x :: A.drop (i + 1) := by
          rw [List.drop_eq_getElem_cons (by omega)]
          rw [List.getElem?_eq_getElem (by omega)] at hx
          rw [Option.some.inj hx]
        ((conv => whnf); repeat (any_goals (first | ((refine IdxA.file hr1 rfl i x (by omega) hx ?_; intro bi oi ai ci hri hci; have hc0 := hci 0 _ rfl; have hc1 := hci 1 _ rfl; have hc2 := hci 2 _ rfl); (conv => whnf)) | ((refine BndH.nat (i + 1) (by omega) (by omega) ?_); (conv => whnf)) | ((refine BndH.nat i (by omega) (by omega) ?_); (conv => whnf)) | (((with_reducible refine Vc.DrawH.held [0, 1, 2, 3, 4, 5, 6, 7, 8, 11, 12, 13, 14, 15, 16, 17, 9, 10, 18, 19, 20, 21] [(9, [4, 14]), (10, [14])] mixed (by decide +kernel) ?_)); (conv => whnf)) | (((with_reducible refine Vc.DrawH.held [0, 1, 2, 3, 4, 5, 6, 7, 8, 10, 11, 12, 13, 14, 15, 9, 16, 17, 18, 19, 20] [(9, [4, 13]), (16, [4])] mixed (by decide +kernel) ?_)); (conv => whnf)) | (refine Vc.stp ?_; intros; (conv => whnf)))))
        (refine NextH.fullF (n := i) (m := 1) (news := fileC (p, n) fa fc) (xs := vs.take (i * 3)) ((hrv.take (i * 3)).ext (by (repeat (first | assumption | exact Vc.Ext.refl _ | ((with_reducible apply Vc.Ext.trans); (case k => assumption)) | ((with_reducible apply Vc.Ext.but); (case k => assumption); (case hb => omega)))))) hvt (Blk.row (c := fileC (p, n) fa fc) (by assumption)) rfl (by simp [fileC, plainV]) (by omega) (by omega) ⟨_, rfl, fun _ h => by cases h⟩ ?_; intro c5 H5 ho5 hx5; have hz5 := hx5.size)
        ((conv => whnf); repeat (any_goals (first | (refine Vc.stp ?_; intros; (conv => whnf)))))
        (refine NextH.appF (news := vs.drop ((i + 1) * 3)) (base := H.size) (ho5.base (by omega)) ((hrv.drop (A.length + cap) (i + 1) 3 (by omega)).ext (by (repeat (first | assumption | exact Vc.Ext.refl _ | ((with_reducible apply Vc.Ext.trans); (case k => assumption)) | ((with_reducible apply Vc.Ext.but); (case k => assumption); (case hb => omega)))))) (hvd _) (fun u hu => hfv.plain u (List.mem_of_mem_drop hu)) (by omega) (by omega) ⟨_, rfl, fun _ h => by cases h⟩ ?_; intro a6 c6 H6 ho6 hw6; have hx6 := And.intro trivial ((show Ext H1 H5 by (repeat (first | assumption | exact Vc.Ext.refl _ | ((with_reducible apply Vc.Ext.trans); (case k => assumption)) | ((with_reducible apply Vc.Ext.but); (case k => assumption); (case hb => omega))))).but hw6.toBut (by omega)); have hb6 := hb1.ext hx6.2)
        ((conv => whnf); repeat (any_goals (first | (refine Vc.stp ?_; intros; (conv => whnf)))))
        rename_i H7 z7 b7 x7
        have e0 : i + 1 + (A.length - (i + 1)) = A.length := by omega
        have hA' : (A.take i ++ (p, n) :: A.drop (i + 1)).length = A.length := by rw [List.length_append, List.length_take, List.length_cons, List.length_drop]; omega
        rw [hput]
        have hfil : FilesV H6 (A.take i ++ (p, n) :: A.drop (i + 1)) (vs.take (i * 3) ++ fileC (p, n) fa fc ++ vs.drop ((i + 1) * 3)) := by
          rw [List.append_assoc]
          exact ((hfv.ext (x1.trans hx6.2)).take i).append (.cons ((hf.ext x1).ext hx6.2) ((hfv.ext (x1.trans hx6.2)).drop (i + 1)))
        have hrf : RowF H6 a6 (A.take i ++ (p, n) :: A.drop (i + 1)) := ⟨_, ho6.row, hfil⟩
        have hcl := ho6.cap_le
        have b7 : Blk H7 b #[.slice a6 (i + 1 + (A.length - (i + 1))) c6] 60 := b7
        exact ⟨rfl, .of b7 (by rw [hA', e0]) hcl (hrf.keep x7 fun x e _ => by subst e; exact .blk hb6 (slice_dumb _ _ _)), (x1.trans hx6.2).only.trans x7 fun _ _ e => e⟩
      · rw [decide_eq_false hp] at e2
        rw [Option.map_some, if_neg (by simpa using hp)] at hput
        ((conv => whnf); repeat (any_goals (first | ((refine IdxA.file hr1 rfl i x (by omega) hx ?_; intro bi oi ai ci hri hci; have hc0 := hci 0 _ rfl; have hc1 := hci 1 _ rfl; have hc2 := hci 2 _ rfl); (conv => whnf)) | ((refine BndH.nat i (by omega) (by omega) ?_); (conv => whnf)) | (((with_reducible refine Vc.DrawH.held [0, 1, 2, 3, 4, 5, 6, 7, 8, 11, 12, 13, 14, 15, 16, 17, 9, 10, 18, 19, 20, 21] [(9, [4, 14]), (10, [14])] mixed (by decide +kernel) ?_)); (conv => whnf)) | (((with_reducible refine Vc.DrawH.held [0, 1, 2, 3, 4, 5, 6, 7, 8, 10, 11, 12, 13, 14, 15, 9, 16, 17, 18, 19, 20] [(9, [4, 13]), (16, [4])] mixed (by decide +kernel) ?_)); (conv => whnf)) | (refine Vc.stp ?_; intros; (conv => whnf)))))
        (rename_i Hl zl bl xl; refine NextH.appF (n := 1) (news := vs.drop (i * 3)) (base := H.size) (xs := fileC (p, n) fa fc) (own_litK bl (by omega)) ((hrv.drop (A.length + cap) i 3 (fun e => by rw [hvl]; exact Nat.mul_le_mul_right 3 (by omega))).ext (by (repeat (first | assumption | exact Vc.Ext.refl _ | ((with_reducible apply Vc.Ext.trans); (case k => assumption)) | ((with_reducible apply Vc.Ext.but); (case k => assumption); (case hb => omega)))))) (hvd _) (fun u hu => hfv.plain u (List.mem_of_mem_drop hu)) (by omega) (by omega) ⟨_, rfl, fun _ h => by cases h⟩ ?_; intro a5 c5 H5 ho5 hw5; have hz5 := hw5.size; have hx15 := And.intro trivial (xl.but hw5.toBut (by omega)); have hb5 := hb1.ext hx15.2)
        ((conv => whnf); repeat (any_goals (first | (refine Vc.stp ?_; intros; (conv => whnf)))))
        (refine NextH.fullF (n := i) (xs := vs.take (i * 3)) ((hrv.take (i * 3)).ext (x1.trans hx15.2)) hvt ho5.row ho5.len (fun u hu => (List.mem_append.1 hu).elim (fileC_plain (p, n) fa fc u) fun hu => hfv.plain u (List.mem_of_mem_drop hu)) (by omega) (by omega) ⟨_, rfl, fun _ h => by cases h⟩ ?_; intro c6 H6 ho6 hx6; have hz6 := hx6.size)
        ((conv => whnf); repeat (any_goals (first | (refine Vc.stp ?_; intros; (conv => whnf)))))
        (rename_i H7 z7 b7 x7; have e0 : i + (1 + (A.length - i)) = A.length + 1 := (by omega); have hA' : (A.take i ++ (p, n) :: A.drop i).length = A.length + 1 := (by rw [List.length_append, List.length_take, List.length_cons, List.length_drop]; omega); rw [hput]; have hx16 := hx15.2.trans hx6; have hfil : FilesV H6 (A.take i ++ (p, n) :: A.drop i) (vs.take (i * 3) ++ (fileC (p, n) fa fc ++ vs.drop (i * 3))) := ((hfv.ext (x1.trans hx16)).take i).append (.cons ((hf.ext x1).ext hx16) ((hfv.ext (x1.trans hx16)).drop i)); have hrf : RowF H6 (some ⟨H5.size, 0, none⟩) (A.take i ++ (p, n) :: A.drop i) := ⟨_, ho6.row, hfil⟩; have hcl := ho6.cap_le; have b7 : Blk H7 b #[.slice (some ⟨H5.size, 0, none⟩) (i + (1 + (A.length - i))) c6] 60 := b7; exact ⟨rfl, .of b7 (by rw [hA', e0]) hcl (hrf.keep x7 fun x e _ => by subst e; exact .blk (hb1.ext hx16) (slice_dumb _ _ _)), (x1.trans hx16).only.trans x7 fun _ _ e => e⟩)
  · obtain rfl : i = A.length := by omega
    have hput := putF_at A p n A.length hlo (Nat.le_refl _) (fun y hy => by simp at hy)
    rw [List.getElem?_eq_none (Nat.le_refl _), Option.map_none, if_neg (by simp)] at hput
    obtain ⟨i, hi0⟩ : ∃ i, i = A.length := ⟨_, rfl⟩
    rw [← hi0] at hput hvt
    ((conv => whnf); repeat (any_goals (first | ((refine BndH.nat i (by omega) (by omega) ?_); (conv => whnf)) | (((with_reducible refine Vc.DrawH.held [0, 1, 2, 3, 4, 5, 6, 7, 8, 11, 12, 13, 14, 15, 16, 17, 9, 10, 18, 19, 20, 21] [(9, [4, 14]), (10, [14])] mixed (by decide +kernel) ?_)); (conv => whnf)) | (((with_reducible refine Vc.DrawH.held [0, 1, 2, 3, 4, 5, 6, 7, 8, 10, 11, 12, 13, 14, 15, 9, 16, 17, 18, 19, 20] [(9, [4, 13]), (16, [4])] mixed (by decide +kernel) ?_)); (conv => whnf)) | (refine Vc.stp ?_; intros; (conv => whnf)))))
    (rename_i Hl zl bl xl; refine NextH.appF (n := 1) (news := vs.drop (i * 3)) (base := H.size) (xs := fileC (p, n) fa fc) (own_litK bl (by omega)) ((hrv.drop (A.length + cap) i 3 (fun e => by rw [hvl]; exact Nat.mul_le_mul_right 3 (by omega))).ext (by (repeat (first | assumption | exact Vc.Ext.refl _ | ((with_reducible apply Vc.Ext.trans); (case k => assumption)) | ((with_reducible apply Vc.Ext.but); (case k => assumption); (case hb => omega)))))) (hvd _) (fun u hu => hfv.plain u (List.mem_of_mem_drop hu)) (by omega) (by omega) ⟨_, rfl, fun _ h => by cases h⟩ ?_; intro a5 c5 H5 ho5 hw5; have hz5 := hw5.size; have hx15 := And.intro trivial (xl.but hw5.toBut (by omega)); have hb5 := hb1.ext hx15.2)
    ((conv => whnf); repeat (any_goals (first | (refine Vc.stp ?_; intros; (conv => whnf)))))
    (refine NextH.fullF (n := i) (xs := vs.take (i * 3)) ((hrv.take (i * 3)).ext (x1.trans hx15.2)) hvt ho5.row ho5.len (fun u hu => (List.mem_append.1 hu).elim (fileC_plain (p, n) fa fc u) fun hu => hfv.plain u (List.mem_of_mem_drop hu)) (by omega) (by omega) ⟨_, rfl, fun _ h => by cases h⟩ ?_; intro c6 H6 ho6 hx6; have hz6 := hx6.size)
    ((conv => whnf); repeat (any_goals (first | (refine Vc.stp ?_; intros; (conv => whnf)))))
    (rename_i H7 z7 b7 x7; have e0 : i + (1 + (A.length - i)) = A.length + 1 := (by omega); have hA' : (A.take i ++ (p, n) :: A.drop i).length = A.length + 1 := (by rw [List.length_append, List.length_take, List.length_cons, List.length_drop]; omega); rw [hput]; have hx16 := hx15.2.trans hx6; have hfil : FilesV H6 (A.take i ++ (p, n) :: A.drop i) (vs.take (i * 3) ++ (fileC (p, n) fa fc ++ vs.drop (i * 3))) := ((hfv.ext (x1.trans hx16)).take i).append (.cons ((hf.ext x1).ext hx16) ((hfv.ext (x1.trans hx16)).drop i)); have hrf : RowF H6 (some ⟨H5.size, 0, none⟩) (A.take i ++ (p, n) :: A.drop i) := ⟨_, ho6.row, hfil⟩; have hcl := ho6.cap_le; have b7 : Blk H7 b #[.slice (some ⟨H5.size, 0, none⟩) (i + (1 + (A.length - i))) c6] 60 := b7; exact ⟨rfl, .of b7 (by rw [hA', e0]) hcl (hrf.keep x7 fun x e _ => by subst e; exact .blk (hb1.ext hx16) (slice_dumb _ _ _)), (x1.trans hx16).only.trans x7 fun _ _ e => e⟩)
end Go.Proofs.YtjcmcmogbkdjcaaGreatDoor
/- The reference's trees: sizes; directories are made; files are written and read. -/
namespace Go.Tre
open Go.Pth Go.Scr
open Go.Vc (mget mput mdel mget_put mget_mem mget_of_mem mget_none)
theorem putF_le (p : Txt) (n : Node) : ∀ A : Tr, (putF A p n).length ≤ A.length + 1
  | [] => by simp [putF]
  | x :: l => by
    simp only [putF]
    split
    · have := putF_le p n l; simp; omega
    · split <;> simp
theorem makeF_le : ∀ (l : List Txt) (A : Tr), (makeF A l).length ≤ A.length + l.length
  | [], A => by simp [makeF]
  | d :: l, A => by
    have h1 := makeF_le l (putF A d (true, []))
    have h2 := putF_le d (true, []) A
    show (makeF (putF A d (true, [])) l).length ≤ _
    simp; omega
end Go.Tre
namespace Go.Proofs.YtjcmcmogbkdjcaaGreatDoor
open Go Go.Vc Go.Scr Go.Pth Go.Tre
theorem rsize_any {b : Nat} {A : Tr} {H : Heap} (h : RTree H b A) (hAl : A.length ≤ 1000000) (hs : sizeT A ≤ 1000000000000) : CallH Tryz.prog 59 [.pointer (some ⟨b, 0, none⟩)] H fun v H' => v = .int .i64 (sizeT A) ∧ H = H' := by
  obtain ⟨a, cap, hb, hr⟩ := h.out
  refine Vc.CallH.body Tryz.func59 Tryz.call59 rfl (by decide +kernel) rfl ?_
  ((conv => whnf); repeat (any_goals (first | (refine Vc.stp ?_; intros; (conv => whnf)) | (refine Vc.spl ?_ ?_ <;> (intro _; (conv => whnf))))))
  refine LoopH.intro (fun (i : Nat) => [(4, .int .i64 i), (3, .int .i64 (sizeT (A.take i) : Nat))]) (fun i H' => H = H' ∧ i ≤ A.length) (fun i => A.length - i) 0 ⟨rfl, rfl, trivial⟩ ⟨rfl, Nat.zero_le _⟩ ?_
  rintro i _ ⟨rfl, hi⟩
  by_cases hlt : i < A.length
  · obtain ⟨x, hx⟩ : ∃ x, A[i]? = some x := ⟨_, List.getElem?_eq_getElem (by omega)⟩
    have e1 : sizeT (A.take (i + 1)) = sizeT (A.take i) + x.2.2.length := by
      have : A.take (i + 1) = A.take i ++ [x] := by rw [List.take_add_one, hx]; rfl
      rw [this]; simp [sizeT, List.sum_append_nat]
    have e2 : sizeT (A.take (i + 1)) ≤ sizeT A := by
      conv => rhs; rw [← List.take_append_drop (i + 1) A]
      simp only [sizeT, List.map_append, List.sum_append_nat]; exact Nat.le_add_right _ _
    ((conv => whnf); repeat (any_goals (first | ((refine IdxA.file hr rfl i x (by omega) hx ?_; intro bi oi ai ci hri hci; have hc2 := hci 2 _ rfl); (conv => whnf)) | (refine Vc.stp ?_; intros; (conv => whnf)) | (refine Vc.spl ?_ ?_ <;> (intro _; (conv => whnf))))))
    exact ⟨i + 1, ⟨rfl, by rw [e1]; (show Value.int .i64 ((sizeT (A.take i) : Int) + (x.2.2.length : Int)) = _); congr 1, trivial⟩, ⟨rfl, by omega⟩, by omega⟩
  · obtain rfl : i = A.length := by omega
    rw [List.take_length]
    ((conv => whnf); repeat (any_goals (first | (refine Vc.stp ?_; intros; (conv => whnf)) | (refine Vc.spl ?_ ?_ <;> (intro _; (conv => whnf))))))
    exact ⟨rfl, rfl⟩
theorem rfileB1 {K : Value → Prop} {o1 o2 : Operand} {s : ByteArray} {x : Bool} (h : K (.agg #[.string s, .bool x, .slice none 0 0])) : PureH Tryz.prog (Instr.build 25 ((List.map (fun x : Nat × Operand => x.1) (#[(0, o1), (1, o2)] : Array (Nat × Operand)).toList).zip [.string s, .bool x]).toArray) K := PureH.build _ (by kernel_rfl) h
theorem rfileB2 {K : Value → Prop} {o1 o2 : Operand} {s : ByteArray} {a : Option Addr} {n c : Nat} (h : K (.agg #[.string s, .bool false, .slice a n c])) : PureH Tryz.prog (Instr.build 25 ((List.map (fun x : Nat × Operand => x.1) (#[(0, o1), (2, o2)] : Array (Nat × Operand)).toList).zip [.string s, .slice a n c]).toArray) K := PureH.build _ (by kernel_rfl) h
theorem rmake_any {b : Nat} {A : Tr} {H : Heap} (h : RTree H b A) (ds : List Bs) (a : Option Addr) (n cap : Nat) (hr : Row H a (strs ds)) (hn : ds.length = n) (hl : A.length + n ≤ 1000000) :
    CallH Tryz.prog 58 [.pointer (some ⟨b, 0, none⟩), .slice a n cap] H fun v H' => v = .tuple #[] ∧ RTree H' b (makeF A ds) ∧ But b H H' := by
  refine Vc.CallH.body Tryz.func58 Tryz.call58 rfl (by decide +kernel) rfl ?_
  ((conv => whnf); repeat (any_goals (first | (refine Vc.stp ?_; intros; (conv => whnf)) | (refine Vc.spl ?_ ?_ <;> (intro _; (conv => whnf))))))
  refine LoopH.intro (fun (i : Nat) => [(4, .int .i64 i)]) (fun i H' => i ≤ n ∧ RTree H' b (makeF A (ds.take i)) ∧ But b H H') (fun i => n - i) 0 ⟨rfl, trivial⟩ ⟨Nat.zero_le _, h, Only.refl _ _⟩ ?_
  rintro i H2 ⟨hi, ht2, hx2⟩
  have hz2 := hx2.size
  have hr2 := hr.texts hx2 fun x e _ => by subst e; exact h.dumb
  have hml := makeF_le (ds.take i) A
  rw [List.length_take] at hml
  by_cases hlt : i < n
  · obtain ⟨d, hd⟩ : ∃ d, ds[i]? = some d := ⟨_, List.getElem?_eq_getElem (by omega)⟩
    have hp := fun H' (k : Ext H2 H') => rput_any (ht2.ext k) d (true, []) none 0 (Row.nil _ _) (by omega)
    ((conv => whnf); repeat (any_goals (first | ((refine IdxA.strv hr2 hn i d (by omega) hd ?_; intro _ _ _ _ _); (conv => whnf)) | (((with_reducible apply rfileB1); (focus ((conv => whnf)))); (conv => whnf)) | ((refine (hp _ (by (repeat (first | assumption | exact Vc.Ext.refl _ | ((with_reducible apply Vc.Ext.trans); (case k => assumption)) | ((with_reducible apply Vc.Ext.but); (case k => assumption); (case hb => omega)))))).mono ?_; rintro _ H4 ⟨rfl, ht4, hx4⟩; have hz4 := hx4.size); (conv => whnf)) | (refine Vc.stp ?_; intros; (conv => whnf)) | (refine Vc.spl ?_ ?_ <;> (intro _; (conv => whnf))))))
    refine ⟨i + 1, ⟨rfl, trivial⟩, ⟨by omega, ?_, hx2.trans hx4 fun _ _ e => e⟩, by omega⟩
    rw [List.take_add_one, hd]
    show RTree H4 b (makeF A (ds.take i ++ [d]))
    rw [makeF_snoc]; exact ht4
  · obtain rfl : i = n := by omega
    rw [List.take_of_length_le (by omega)] at ht2
    ((conv => whnf); repeat (any_goals (first | (refine Vc.stp ?_; intros; (conv => whnf)) | (refine Vc.spl ?_ ?_ <;> (intro _; (conv => whnf))))))
    exact ⟨rfl, ht2, hx2⟩
/-- what an operation on the reference's tree leaves -/
structure DidR (H H' : Heap) (b : Nat) (v : Value) (r : Tr × Nat) : Prop where
  code : v = .int .i64 r.2
  tree : RTree H' b r.1
  only : But b H H'
theorem DidR.none {H H' : Heap} {b : Nat} {A : Tr} (h : RTree H b A) (k : Ext H H') (n : Nat) : DidR H H' b (.int .i64 n) (A, n) := ⟨rfl, h.ext k, k.only⟩
end Go.Proofs.YtjcmcmogbkdjcaaGreatDoor
/- The reference's trees: files are written and read, directories made. -/
namespace Go.Proofs.YtjcmcmogbkdjcaaGreatDoor
open Go Go.Vc Go.Scr Go.Pth Go.Tre
theorem nil_none {A : Tr} (hA : Okay A) {q : Bs} (h : q = []) : mget A q = none := by
  cases hg : mget A q with
  | none => rfl
  | some n => exact absurd h (hA.clean q n hg).2
set_option maxHeartbeats 4000000 in
theorem rwrite_any {b : Nat} {A : Tr} {H : Heap} (h : RTree H b A) (hA : Okay A) (p bs : Bs) (hpl : p.length ≤ 100000000) (a : Option Addr) (n cap : Nat) (hr : Row H a (strV bs)) (hn : bs.length = n) (hm : n ≤ 10000000000) :
    CallH Tryz.prog 39 [.pointer (some ⟨b, 0, none⟩), .string (mkS p), .slice a n cap] H fun v H' => DidR H H' b v (writeF A p bs) := by
  subst hn
  have hcl := fun H => rclean_any p hpl H
  have hAc := hA.count
  have hAs := hA.size
  unfold writeF
  by_cases h0 : ¬ (cleanF p).2 = 0
  · rw [if_neg h0]
    have h0' : ¬ ((cleanF p).2 : Int) = 0 := by omega
    generalize cleanF p = c at *
    refine Vc.CallH.body Tryz.func39 Tryz.call39 rfl (by decide +kernel) rfl ?_
    ((conv => whnf); repeat (any_goals (first | ((refine (hcl _).mono ?_; rintro _ H1 ⟨rfl, hx1⟩; have hz1 := hx1.size); (conv => whnf)) | (refine Vc.stp ?_; intros; (conv => whnf)) | (refine Vc.spl ?_ ?_ <;> (intro _; (conv => whnf))))))
    exact DidR.none h hx1 _
  have h0 : (cleanF p).2 = 0 := by omega
  rw [if_pos h0]
  have hq := clean_of h0
  obtain ⟨q, hqe⟩ : ∃ q, (cleanF p).1 = q := ⟨_, rfl⟩
  rw [h0, hqe] at hcl
  rw [hqe] at hq ⊢
  have hql : q.length ≤ 200 := by obtain ⟨l, rfl, hl⟩ := hq; exact hl.long
  have e0 := eq_empty q
  obtain ⟨ta, tcap, htb, htr⟩ := h.out
  have hat := fun H' (k : Ext H H') => rat_any (h.ext k) q (by omega)
  have hah := fun H' (k : Ext H H') => rahead_any (h.ext k) (p := q) (by omega) (by omega)
  have hsz := fun H' (k : Ext H H') => rsize_any (h.ext k) (by omega) (by omega)
  have hlk : (lackF A q).length ≤ 12 := by
    have h1 : (lackF A q).length ≤ (pars q).length := List.length_filter_le _ _
    have h2 := hq.parts.deep
    rw [pars_len] at h1; omega
  have hmk := makeF_le (lackF A q) A
  have hmk0 := makeF_le [] A
  have e00 : ([] : List Txt).length = 0 := rfl
  unfold RatV at hat
  unfold RaheadV at hah
  unfold writeP
  by_cases hqn : q = []
  · have hd : dirF A q = true := by unfold dirF; simp [hqn]
    rw [if_pos (.inl hd)]
    rw [decide_eq_true hqn] at e0
    have hg0 : mget A q = none := nil_none hA hqn
    have hf0 : fileF A q = false := by rw [hqn]; rfl
    rw [hg0] at hat
    rw [hf0] at hah
    simp only [if_neg (show ¬ false = true by simp)] at hah
    refine Vc.CallH.body Tryz.func39 Tryz.call39 rfl (by decide +kernel) rfl ?_
    ((conv => whnf); repeat (any_goals (first | ((refine (hcl _).mono ?_; rintro _ H1 ⟨rfl, hx1⟩; have hz1 := hx1.size); (conv => whnf)) | ((refine (hat _ (by (repeat (first | assumption | exact Vc.Ext.refl _ | ((with_reducible apply Vc.Ext.trans); (case k => assumption)) | ((with_reducible apply Vc.Ext.but); (case k => assumption); (case hb => omega)))))).mono ?_; rintro _ _ ⟨(⟨_, rfl⟩ | ⟨_, _, _, hcon, _⟩), rfl⟩; rotate_left; exact absurd hcon (by simp)); (conv => whnf)) | ((refine (hah _ (by (repeat (first | assumption | exact Vc.Ext.refl _ | ((with_reducible apply Vc.Ext.trans); (case k => assumption)) | ((with_reducible apply Vc.Ext.but); (case k => assumption); (case hb => omega)))))).mono ?_; rintro _ H3 ⟨⟨a3, c3, rfl, ho3⟩, hx3⟩; have hz3 := hx3.size); (conv => whnf)) | (refine Vc.stp ?_; intros; (conv => whnf)) | (refine Vc.spl ?_ ?_ <;> (intro _; (conv => whnf))))))
    exact DidR.none h (by (repeat (first | assumption | exact Vc.Ext.refl _ | ((with_reducible apply Vc.Ext.trans); (case k => assumption)) | ((with_reducible apply Vc.Ext.but); (case k => assumption); (case hb => omega))))) _
  rw [decide_eq_false hqn] at e0
  cases hg : mget A q with
  | none =>
    rw [hg] at hat
    have hd : dirF A q = false := by unfold dirF; rw [hg]; simpa using hqn
    by_cases hf : fileF A q = true
    · simp only [if_pos hf] at hah
      rw [if_pos (.inr hf)]
      refine Vc.CallH.body Tryz.func39 Tryz.call39 rfl (by decide +kernel) rfl ?_
      ((conv => whnf); repeat (any_goals (first | ((refine (hcl _).mono ?_; rintro _ H1 ⟨rfl, hx1⟩; have hz1 := hx1.size); (conv => whnf)) | ((refine (hat _ (by (repeat (first | assumption | exact Vc.Ext.refl _ | ((with_reducible apply Vc.Ext.trans); (case k => assumption)) | ((with_reducible apply Vc.Ext.but); (case k => assumption); (case hb => omega)))))).mono ?_; rintro _ _ ⟨(⟨_, rfl⟩ | ⟨_, _, _, hcon, _⟩), rfl⟩; rotate_left; exact absurd hcon (by simp)); (conv => whnf)) | ((refine (hah _ (by (repeat (first | assumption | exact Vc.Ext.refl _ | ((with_reducible apply Vc.Ext.trans); (case k => assumption)) | ((with_reducible apply Vc.Ext.but); (case k => assumption); (case hb => omega)))))).mono ?_; rintro _ H3 ⟨rfl, hx3⟩; have hz3 := hx3.size); (conv => whnf)) | (refine Vc.stp ?_; intros; (conv => whnf)) | (refine Vc.spl ?_ ?_ <;> (intro _; (conv => whnf))))))
      exact DidR.none h (by (repeat (first | assumption | exact Vc.Ext.refl _ | ((with_reducible apply Vc.Ext.trans); (case k => assumption)) | ((with_reducible apply Vc.Ext.but); (case k => assumption); (case hb => omega))))) _
    simp only [if_neg hf] at hah
    rw [if_neg (by rw [not_or, hd]; exact ⟨by simp, hf⟩)]
    have hoF : oldF A q = 0 := by unfold oldF; rw [hg]
    have hmF : moreF A q = (lackF A q).length + 1 := by unfold moreF; rw [hg]; simp
    rw [hoF, hmF]
    by_cases hbad : 65536 < bs.length ∨ 1048576 < sizeT A - 0 + bs.length ∨ 500 < A.length + ((lackF A q).length + 1)
    · rw [if_pos hbad]
      refine Vc.CallH.body Tryz.func39 Tryz.call39 rfl (by decide +kernel) rfl ?_
      rcases hbad with hb1 | hb1
      · ((conv => whnf); repeat (any_goals (first | ((refine (hcl _).mono ?_; rintro _ H1 ⟨rfl, hx1⟩; have hz1 := hx1.size); (conv => whnf)) | ((refine (hat _ (by (repeat (first | assumption | exact Vc.Ext.refl _ | ((with_reducible apply Vc.Ext.trans); (case k => assumption)) | ((with_reducible apply Vc.Ext.but); (case k => assumption); (case hb => omega)))))).mono ?_; rintro _ _ ⟨(⟨_, rfl⟩ | ⟨_, _, _, hcon, _⟩), rfl⟩; rotate_left; exact absurd hcon (by simp)); (conv => whnf)) | ((refine (hah _ (by (repeat (first | assumption | exact Vc.Ext.refl _ | ((with_reducible apply Vc.Ext.trans); (case k => assumption)) | ((with_reducible apply Vc.Ext.but); (case k => assumption); (case hb => omega)))))).mono ?_; rintro _ H3 ⟨⟨a3, c3, rfl, ho3⟩, hx3⟩; have hz3 := hx3.size); (conv => whnf)) | ((refine (hsz _ (by (repeat (first | assumption | exact Vc.Ext.refl _ | ((with_reducible apply Vc.Ext.trans); (case k => assumption)) | ((with_reducible apply Vc.Ext.but); (case k => assumption); (case hb => omega)))))).mono ?_; rintro _ _ ⟨rfl, rfl⟩); (conv => whnf)) | (refine Vc.stp ?_; intros; (conv => whnf)) | (refine Vc.spl ?_ ?_ <;> (intro _; (conv => whnf))))))
        exact DidR.none h (by (repeat (first | assumption | exact Vc.Ext.refl _ | ((with_reducible apply Vc.Ext.trans); (case k => assumption)) | ((with_reducible apply Vc.Ext.but); (case k => assumption); (case hb => omega))))) _
      · by_cases hb2 : 65536 < bs.length
        · ((conv => whnf); repeat (any_goals (first | ((refine (hcl _).mono ?_; rintro _ H1 ⟨rfl, hx1⟩; have hz1 := hx1.size); (conv => whnf)) | ((refine (hat _ (by (repeat (first | assumption | exact Vc.Ext.refl _ | ((with_reducible apply Vc.Ext.trans); (case k => assumption)) | ((with_reducible apply Vc.Ext.but); (case k => assumption); (case hb => omega)))))).mono ?_; rintro _ _ ⟨(⟨_, rfl⟩ | ⟨_, _, _, hcon, _⟩), rfl⟩; rotate_left; exact absurd hcon (by simp)); (conv => whnf)) | ((refine (hah _ (by (repeat (first | assumption | exact Vc.Ext.refl _ | ((with_reducible apply Vc.Ext.trans); (case k => assumption)) | ((with_reducible apply Vc.Ext.but); (case k => assumption); (case hb => omega)))))).mono ?_; rintro _ H3 ⟨⟨a3, c3, rfl, ho3⟩, hx3⟩; have hz3 := hx3.size); (conv => whnf)) | ((refine (hsz _ (by (repeat (first | assumption | exact Vc.Ext.refl _ | ((with_reducible apply Vc.Ext.trans); (case k => assumption)) | ((with_reducible apply Vc.Ext.but); (case k => assumption); (case hb => omega)))))).mono ?_; rintro _ _ ⟨rfl, rfl⟩); (conv => whnf)) | (refine Vc.stp ?_; intros; (conv => whnf)) | (refine Vc.spl ?_ ?_ <;> (intro _; (conv => whnf))))))
          exact DidR.none h (by (repeat (first | assumption | exact Vc.Ext.refl _ | ((with_reducible apply Vc.Ext.trans); (case k => assumption)) | ((with_reducible apply Vc.Ext.but); (case k => assumption); (case hb => omega))))) _
        rcases hb1 with hb1 | hb1
        · ((conv => whnf); repeat (any_goals (first | ((refine (hcl _).mono ?_; rintro _ H1 ⟨rfl, hx1⟩; have hz1 := hx1.size); (conv => whnf)) | ((refine (hat _ (by (repeat (first | assumption | exact Vc.Ext.refl _ | ((with_reducible apply Vc.Ext.trans); (case k => assumption)) | ((with_reducible apply Vc.Ext.but); (case k => assumption); (case hb => omega)))))).mono ?_; rintro _ _ ⟨(⟨_, rfl⟩ | ⟨_, _, _, hcon, _⟩), rfl⟩; rotate_left; exact absurd hcon (by simp)); (conv => whnf)) | ((refine (hah _ (by (repeat (first | assumption | exact Vc.Ext.refl _ | ((with_reducible apply Vc.Ext.trans); (case k => assumption)) | ((with_reducible apply Vc.Ext.but); (case k => assumption); (case hb => omega)))))).mono ?_; rintro _ H3 ⟨⟨a3, c3, rfl, ho3⟩, hx3⟩; have hz3 := hx3.size); (conv => whnf)) | ((refine (hsz _ (by (repeat (first | assumption | exact Vc.Ext.refl _ | ((with_reducible apply Vc.Ext.trans); (case k => assumption)) | ((with_reducible apply Vc.Ext.but); (case k => assumption); (case hb => omega)))))).mono ?_; rintro _ _ ⟨rfl, rfl⟩); (conv => whnf)) | (refine Vc.stp ?_; intros; (conv => whnf)) | (refine Vc.spl ?_ ?_ <;> (intro _; (conv => whnf))))))
          all_goals exact DidR.none h (by (repeat (first | assumption | exact Vc.Ext.refl _ | ((with_reducible apply Vc.Ext.trans); (case k => assumption)) | ((with_reducible apply Vc.Ext.but); (case k => assumption); (case hb => omega))))) _
        · by_cases hb3 : 1048576 < sizeT A - 0 + bs.length
          · ((conv => whnf); repeat (any_goals (first | ((refine (hcl _).mono ?_; rintro _ H1 ⟨rfl, hx1⟩; have hz1 := hx1.size); (conv => whnf)) | ((refine (hat _ (by (repeat (first | assumption | exact Vc.Ext.refl _ | ((with_reducible apply Vc.Ext.trans); (case k => assumption)) | ((with_reducible apply Vc.Ext.but); (case k => assumption); (case hb => omega)))))).mono ?_; rintro _ _ ⟨(⟨_, rfl⟩ | ⟨_, _, _, hcon, _⟩), rfl⟩; rotate_left; exact absurd hcon (by simp)); (conv => whnf)) | ((refine (hah _ (by (repeat (first | assumption | exact Vc.Ext.refl _ | ((with_reducible apply Vc.Ext.trans); (case k => assumption)) | ((with_reducible apply Vc.Ext.but); (case k => assumption); (case hb => omega)))))).mono ?_; rintro _ H3 ⟨⟨a3, c3, rfl, ho3⟩, hx3⟩; have hz3 := hx3.size); (conv => whnf)) | ((refine (hsz _ (by (repeat (first | assumption | exact Vc.Ext.refl _ | ((with_reducible apply Vc.Ext.trans); (case k => assumption)) | ((with_reducible apply Vc.Ext.but); (case k => assumption); (case hb => omega)))))).mono ?_; rintro _ _ ⟨rfl, rfl⟩); (conv => whnf)) | (refine Vc.stp ?_; intros; (conv => whnf)) | (refine Vc.spl ?_ ?_ <;> (intro _; (conv => whnf))))))
            exact DidR.none h (by (repeat (first | assumption | exact Vc.Ext.refl _ | ((with_reducible apply Vc.Ext.trans); (case k => assumption)) | ((with_reducible apply Vc.Ext.but); (case k => assumption); (case hb => omega))))) _
          · ((conv => whnf); repeat (any_goals (first | ((refine (hcl _).mono ?_; rintro _ H1 ⟨rfl, hx1⟩; have hz1 := hx1.size); (conv => whnf)) | ((refine (hat _ (by (repeat (first | assumption | exact Vc.Ext.refl _ | ((with_reducible apply Vc.Ext.trans); (case k => assumption)) | ((with_reducible apply Vc.Ext.but); (case k => assumption); (case hb => omega)))))).mono ?_; rintro _ _ ⟨(⟨_, rfl⟩ | ⟨_, _, _, hcon, _⟩), rfl⟩; rotate_left; exact absurd hcon (by simp)); (conv => whnf)) | ((refine (hah _ (by (repeat (first | assumption | exact Vc.Ext.refl _ | ((with_reducible apply Vc.Ext.trans); (case k => assumption)) | ((with_reducible apply Vc.Ext.but); (case k => assumption); (case hb => omega)))))).mono ?_; rintro _ H3 ⟨⟨a3, c3, rfl, ho3⟩, hx3⟩; have hz3 := hx3.size); (conv => whnf)) | ((refine (hsz _ (by (repeat (first | assumption | exact Vc.Ext.refl _ | ((with_reducible apply Vc.Ext.trans); (case k => assumption)) | ((with_reducible apply Vc.Ext.but); (case k => assumption); (case hb => omega)))))).mono ?_; rintro _ _ ⟨rfl, rfl⟩); (conv => whnf)) | (refine Vc.stp ?_; intros; (conv => whnf)) | (refine Vc.spl ?_ ?_ <;> (intro _; (conv => whnf))))))
            exact DidR.none h (by (repeat (first | assumption | exact Vc.Ext.refl _ | ((with_reducible apply Vc.Ext.trans); (case k => assumption)) | ((with_reducible apply Vc.Ext.but); (case k => assumption); (case hb => omega))))) _
    · rw [if_neg hbad]
      rw [not_or, not_or] at hbad
      refine Vc.CallH.body Tryz.func39 Tryz.call39 rfl (by decide +kernel) rfl ?_
      ((conv => whnf); repeat (any_goals (first | ((refine (hcl _).mono ?_; rintro _ H1 ⟨rfl, hx1⟩; have hz1 := hx1.size); (conv => whnf)) | ((refine (hat _ (by (repeat (first | assumption | exact Vc.Ext.refl _ | ((with_reducible apply Vc.Ext.trans); (case k => assumption)) | ((with_reducible apply Vc.Ext.but); (case k => assumption); (case hb => omega)))))).mono ?_; rintro _ _ ⟨(⟨_, rfl⟩ | ⟨_, _, _, hcon, _⟩), rfl⟩; rotate_left; exact absurd hcon (by simp)); (conv => whnf)) | ((refine (hah _ (by (repeat (first | assumption | exact Vc.Ext.refl _ | ((with_reducible apply Vc.Ext.trans); (case k => assumption)) | ((with_reducible apply Vc.Ext.but); (case k => assumption); (case hb => omega)))))).mono ?_; rintro _ H3 ⟨⟨a3, c3, rfl, ho3⟩, hx3⟩; have hz3 := hx3.size); (conv => whnf)) | ((refine (hsz _ (by (repeat (first | assumption | exact Vc.Ext.refl _ | ((with_reducible apply Vc.Ext.trans); (case k => assumption)) | ((with_reducible apply Vc.Ext.but); (case k => assumption); (case hb => omega)))))).mono ?_; rintro _ _ ⟨rfl, rfl⟩); (conv => whnf)) | ((refine (rmake_any (h.ext (by (repeat (first | assumption | exact Vc.Ext.refl _ | ((with_reducible apply Vc.Ext.trans); (case k => assumption)) | ((with_reducible apply Vc.Ext.but); (case k => assumption); (case hb => omega)))))) (lackF A q) a3 _ c3 (ho3.row.ext (by (repeat (first | assumption | exact Vc.Ext.refl _ | ((with_reducible apply Vc.Ext.trans); (case k => assumption)) | ((with_reducible apply Vc.Ext.but); (case k => assumption); (case hb => omega)))))) rfl (by omega)).mono ?_; rintro _ H5 ⟨rfl, ht5, hx5⟩; have hz5 := hx5.size; have hx03 := And.intro trivial (show Ext H H3 by (repeat (first | assumption | exact Vc.Ext.refl _ | ((with_reducible apply Vc.Ext.trans); (case k => assumption)) | ((with_reducible apply Vc.Ext.but); (case k => assumption); (case hb => omega))))); have hr5 := (hr.ext hx03.2).bytes hx5 (fun x e _ => by subst e; exact (h.ext hx03.2).dumb)); (conv => whnf)) | ((refine NextH.dup hr5 (strV_length _) (strV_plain _) (by omega) rfl ⟨_, rfl, fun _ h => by cases h⟩ rfl rfl rfl rfl rfl ?_; intro a6 c6 H6 ho6 hx6; have hz6 := hx6.size); (conv => whnf)) | (((with_reducible apply rfileB2); (focus ((conv => whnf)))); (conv => whnf)) | ((refine (rput_any (ht5.ext (by (repeat (first | assumption | exact Vc.Ext.refl _ | ((with_reducible apply Vc.Ext.trans); (case k => assumption)) | ((with_reducible apply Vc.Ext.but); (case k => assumption); (case hb => omega)))))) q (false, bs) a6 c6 (ho6.row.ext (by (repeat (first | assumption | exact Vc.Ext.refl _ | ((with_reducible apply Vc.Ext.trans); (case k => assumption)) | ((with_reducible apply Vc.Ext.but); (case k => assumption); (case hb => omega)))))) (by omega)).mono ?_; rintro _ H7 ⟨rfl, ht7, hx7⟩); (conv => whnf)) | (refine Vc.stp ?_; intros; (conv => whnf)) | (refine Vc.spl ?_ ?_ <;> (intro _; (conv => whnf))))))
      exact ⟨rfl, ht7, ((hx03.2.only.trans hx5 fun _ _ e => e).ext (by (repeat (first | assumption | exact Vc.Ext.refl _ | ((with_reducible apply Vc.Ext.trans); (case k => assumption)) | ((with_reducible apply Vc.Ext.but); (case k => assumption); (case hb => omega)))))).trans hx7 fun _ _ e => e⟩
  | some nd =>
    rw [hg] at hat
    obtain ⟨dir, old⟩ := nd
    obtain ⟨hl0, hf0⟩ := lack_nil hA hg
    rw [hf0, hl0] at hah
    simp only [if_neg (show ¬ false = true by simp)] at hah
    have hol := (hA.file q _ hg).1
    dsimp only at hol
    have e00 : ([] : List Txt).length = 0 := rfl
    cases dir with
    | true =>
      have hd : dirF A q = true := by unfold dirF; rw [hg]; simp
      rw [if_pos (.inl hd)]
      refine Vc.CallH.body Tryz.func39 Tryz.call39 rfl (by decide +kernel) rfl ?_
      ((conv => whnf); repeat (any_goals (first | ((refine (hcl _).mono ?_; rintro _ H1 ⟨rfl, hx1⟩; have hz1 := hx1.size); (conv => whnf)) | ((refine (hat _ (by (repeat (first | assumption | exact Vc.Ext.refl _ | ((with_reducible apply Vc.Ext.trans); (case k => assumption)) | ((with_reducible apply Vc.Ext.but); (case k => assumption); (case hb => omega)))))).mono ?_; rintro _ H2 ⟨(⟨hcon, _⟩ | ⟨k, nn, hk, hnn, rfl⟩), rfl⟩; cases hcon; (obtain rfl := Option.some.inj hnn); (have hkl := (List.getElem?_eq_some_iff.1 hk).1)); (conv => whnf)) | ((refine IdxA.file (htr.ext (by (repeat (first | assumption | exact Vc.Ext.refl _ | ((with_reducible apply Vc.Ext.trans); (case k => assumption)) | ((with_reducible apply Vc.Ext.but); (case k => assumption); (case hb => omega)))))) rfl k _ (by omega) hk ?_; intro bi oi ai ci hri hci; have hc0 := hci 0 _ rfl; have hc1 := hci 1 _ rfl; have hc2 := hci 2 _ rfl; try dsimp only at hri hc1 hc2); (conv => whnf)) | ((refine (hah _ (by (repeat (first | assumption | exact Vc.Ext.refl _ | ((with_reducible apply Vc.Ext.trans); (case k => assumption)) | ((with_reducible apply Vc.Ext.but); (case k => assumption); (case hb => omega)))))).mono ?_; rintro _ H3 ⟨⟨a3, c3, rfl, ho3⟩, hx3⟩; have hz3 := hx3.size); (conv => whnf)) | (refine Vc.stp ?_; intros; (conv => whnf)) | (refine Vc.spl ?_ ?_ <;> (intro _; (conv => whnf))))))
      exact DidR.none h (by (repeat (first | assumption | exact Vc.Ext.refl _ | ((with_reducible apply Vc.Ext.trans); (case k => assumption)) | ((with_reducible apply Vc.Ext.but); (case k => assumption); (case hb => omega))))) _
    | false =>
      have hd : dirF A q = false := by unfold dirF; rw [hg]; simpa using hqn
      rw [if_neg (by rw [hd, hf0]; simp)]
      have hoF : oldF A q = old.length := by unfold oldF; rw [hg]
      have hmF : moreF A q = 0 := by unfold moreF; rw [hg]; simp
      have hole := old_le A q
      rw [hoF] at hole ⊢
      rw [hmF]
      by_cases hbad : 65536 < bs.length ∨ 1048576 < sizeT A - old.length + bs.length ∨ 500 < A.length + 0
      · rw [if_pos hbad]
        refine Vc.CallH.body Tryz.func39 Tryz.call39 rfl (by decide +kernel) rfl ?_
        by_cases hb2 : 65536 < bs.length
        · ((conv => whnf); repeat (any_goals (first | ((refine (hcl _).mono ?_; rintro _ H1 ⟨rfl, hx1⟩; have hz1 := hx1.size); (conv => whnf)) | ((refine (hat _ (by (repeat (first | assumption | exact Vc.Ext.refl _ | ((with_reducible apply Vc.Ext.trans); (case k => assumption)) | ((with_reducible apply Vc.Ext.but); (case k => assumption); (case hb => omega)))))).mono ?_; rintro _ H2 ⟨(⟨hcon, _⟩ | ⟨k, nn, hk, hnn, rfl⟩), rfl⟩; cases hcon; (obtain rfl := Option.some.inj hnn); (have hkl := (List.getElem?_eq_some_iff.1 hk).1)); (conv => whnf)) | ((refine IdxA.file (htr.ext (by (repeat (first | assumption | exact Vc.Ext.refl _ | ((with_reducible apply Vc.Ext.trans); (case k => assumption)) | ((with_reducible apply Vc.Ext.but); (case k => assumption); (case hb => omega)))))) rfl k _ (by omega) hk ?_; intro bi oi ai ci hri hci; have hc0 := hci 0 _ rfl; have hc1 := hci 1 _ rfl; have hc2 := hci 2 _ rfl; try dsimp only at hri hc1 hc2); (conv => whnf)) | ((refine (hah _ (by (repeat (first | assumption | exact Vc.Ext.refl _ | ((with_reducible apply Vc.Ext.trans); (case k => assumption)) | ((with_reducible apply Vc.Ext.but); (case k => assumption); (case hb => omega)))))).mono ?_; rintro _ H3 ⟨⟨a3, c3, rfl, ho3⟩, hx3⟩; have hz3 := hx3.size); (conv => whnf)) | ((refine (hsz _ (by (repeat (first | assumption | exact Vc.Ext.refl _ | ((with_reducible apply Vc.Ext.trans); (case k => assumption)) | ((with_reducible apply Vc.Ext.but); (case k => assumption); (case hb => omega)))))).mono ?_; rintro _ _ ⟨rfl, rfl⟩); (conv => whnf)) | (refine Vc.stp ?_; intros; (conv => whnf)) | (refine Vc.spl ?_ ?_ <;> (intro _; (conv => whnf))))))
          exact DidR.none h (by (repeat (first | assumption | exact Vc.Ext.refl _ | ((with_reducible apply Vc.Ext.trans); (case k => assumption)) | ((with_reducible apply Vc.Ext.but); (case k => assumption); (case hb => omega))))) _
        · have hb3 : 1048576 < sizeT A - old.length + bs.length := by omega
          ((conv => whnf); repeat (any_goals (first | ((refine (hcl _).mono ?_; rintro _ H1 ⟨rfl, hx1⟩; have hz1 := hx1.size); (conv => whnf)) | ((refine (hat _ (by (repeat (first | assumption | exact Vc.Ext.refl _ | ((with_reducible apply Vc.Ext.trans); (case k => assumption)) | ((with_reducible apply Vc.Ext.but); (case k => assumption); (case hb => omega)))))).mono ?_; rintro _ H2 ⟨(⟨hcon, _⟩ | ⟨k, nn, hk, hnn, rfl⟩), rfl⟩; cases hcon; (obtain rfl := Option.some.inj hnn); (have hkl := (List.getElem?_eq_some_iff.1 hk).1)); (conv => whnf)) | ((refine IdxA.file (htr.ext (by (repeat (first | assumption | exact Vc.Ext.refl _ | ((with_reducible apply Vc.Ext.trans); (case k => assumption)) | ((with_reducible apply Vc.Ext.but); (case k => assumption); (case hb => omega)))))) rfl k _ (by omega) hk ?_; intro bi oi ai ci hri hci; have hc0 := hci 0 _ rfl; have hc1 := hci 1 _ rfl; have hc2 := hci 2 _ rfl; try dsimp only at hri hc1 hc2); (conv => whnf)) | ((refine (hah _ (by (repeat (first | assumption | exact Vc.Ext.refl _ | ((with_reducible apply Vc.Ext.trans); (case k => assumption)) | ((with_reducible apply Vc.Ext.but); (case k => assumption); (case hb => omega)))))).mono ?_; rintro _ H3 ⟨⟨a3, c3, rfl, ho3⟩, hx3⟩; have hz3 := hx3.size); (conv => whnf)) | ((refine (hsz _ (by (repeat (first | assumption | exact Vc.Ext.refl _ | ((with_reducible apply Vc.Ext.trans); (case k => assumption)) | ((with_reducible apply Vc.Ext.but); (case k => assumption); (case hb => omega)))))).mono ?_; rintro _ _ ⟨rfl, rfl⟩); (conv => whnf)) | (refine Vc.stp ?_; intros; (conv => whnf)) | (refine Vc.spl ?_ ?_ <;> (intro _; (conv => whnf))))))
          exact DidR.none h (by (repeat (first | assumption | exact Vc.Ext.refl _ | ((with_reducible apply Vc.Ext.trans); (case k => assumption)) | ((with_reducible apply Vc.Ext.but); (case k => assumption); (case hb => omega))))) _
      · rw [if_neg hbad]
        rw [not_or, not_or] at hbad
        rw [hl0]
        refine Vc.CallH.body Tryz.func39 Tryz.call39 rfl (by decide +kernel) rfl ?_
        ((conv => whnf); repeat (any_goals (first | ((refine (hcl _).mono ?_; rintro _ H1 ⟨rfl, hx1⟩; have hz1 := hx1.size); (conv => whnf)) | ((refine (hat _ (by (repeat (first | assumption | exact Vc.Ext.refl _ | ((with_reducible apply Vc.Ext.trans); (case k => assumption)) | ((with_reducible apply Vc.Ext.but); (case k => assumption); (case hb => omega)))))).mono ?_; rintro _ H2 ⟨(⟨hcon, _⟩ | ⟨k, nn, hk, hnn, rfl⟩), rfl⟩; cases hcon; (obtain rfl := Option.some.inj hnn); (have hkl := (List.getElem?_eq_some_iff.1 hk).1)); (conv => whnf)) | ((refine IdxA.file (htr.ext (by (repeat (first | assumption | exact Vc.Ext.refl _ | ((with_reducible apply Vc.Ext.trans); (case k => assumption)) | ((with_reducible apply Vc.Ext.but); (case k => assumption); (case hb => omega)))))) rfl k _ (by omega) hk ?_; intro bi oi ai ci hri hci; have hc0 := hci 0 _ rfl; have hc1 := hci 1 _ rfl; have hc2 := hci 2 _ rfl; try dsimp only at hri hc1 hc2); (conv => whnf)) | ((refine (hah _ (by (repeat (first | assumption | exact Vc.Ext.refl _ | ((with_reducible apply Vc.Ext.trans); (case k => assumption)) | ((with_reducible apply Vc.Ext.but); (case k => assumption); (case hb => omega)))))).mono ?_; rintro _ H3 ⟨⟨a3, c3, rfl, ho3⟩, hx3⟩; have hz3 := hx3.size); (conv => whnf)) | ((refine (hsz _ (by (repeat (first | assumption | exact Vc.Ext.refl _ | ((with_reducible apply Vc.Ext.trans); (case k => assumption)) | ((with_reducible apply Vc.Ext.but); (case k => assumption); (case hb => omega)))))).mono ?_; rintro _ _ ⟨rfl, rfl⟩); (conv => whnf)) | ((refine (rmake_any (h.ext (by (repeat (first | assumption | exact Vc.Ext.refl _ | ((with_reducible apply Vc.Ext.trans); (case k => assumption)) | ((with_reducible apply Vc.Ext.but); (case k => assumption); (case hb => omega)))))) [] a3 0 c3 (Row.nil _ _) rfl (by omega)).mono ?_; rintro _ H5 ⟨rfl, ht5, hx5⟩; have hz5 := hx5.size; have hx03 := And.intro trivial (show Ext H H3 by (repeat (first | assumption | exact Vc.Ext.refl _ | ((with_reducible apply Vc.Ext.trans); (case k => assumption)) | ((with_reducible apply Vc.Ext.but); (case k => assumption); (case hb => omega))))); have hr5 := (hr.ext hx03.2).bytes hx5 (fun x e _ => by subst e; exact (h.ext hx03.2).dumb)); (conv => whnf)) | ((refine NextH.dup hr5 (strV_length _) (strV_plain _) (by omega) rfl ⟨_, rfl, fun _ h => by cases h⟩ rfl rfl rfl rfl rfl ?_; intro a6 c6 H6 ho6 hx6; have hz6 := hx6.size); (conv => whnf)) | (((with_reducible apply rfileB2); (focus ((conv => whnf)))); (conv => whnf)) | ((refine (rput_any (ht5.ext (by (repeat (first | assumption | exact Vc.Ext.refl _ | ((with_reducible apply Vc.Ext.trans); (case k => assumption)) | ((with_reducible apply Vc.Ext.but); (case k => assumption); (case hb => omega)))))) q (false, bs) a6 c6 (ho6.row.ext (by (repeat (first | assumption | exact Vc.Ext.refl _ | ((with_reducible apply Vc.Ext.trans); (case k => assumption)) | ((with_reducible apply Vc.Ext.but); (case k => assumption); (case hb => omega)))))) (by omega)).mono ?_; rintro _ H7 ⟨rfl, ht7, hx7⟩); (conv => whnf)) | (refine Vc.stp ?_; intros; (conv => whnf)) | (refine Vc.spl ?_ ?_ <;> (intro _; (conv => whnf))))))
        exact ⟨rfl, ht7, ((hx03.2.only.trans hx5 fun _ _ e => e).ext (by (repeat (first | assumption | exact Vc.Ext.refl _ | ((with_reducible apply Vc.Ext.trans); (case k => assumption)) | ((with_reducible apply Vc.Ext.but); (case k => assumption); (case hb => omega)))))).trans hx7 fun _ _ e => e⟩
end Go.Proofs.YtjcmcmogbkdjcaaGreatDoor
/- The reference's trees: what is appended, read, made, there. -/
namespace Go.Proofs.YtjcmcmogbkdjcaaGreatDoor
open Go Go.Vc Go.Scr Go.Pth Go.Tre
set_option maxHeartbeats 1000000 in
theorem rmkdir_any {b : Nat} {A : Tr} {H : Heap} (h : RTree H b A) (hA : Okay A) (p : Bs) (hpl : p.length ≤ 100000000) : CallH Tryz.prog 38 [.pointer (some ⟨b, 0, none⟩), .string (mkS p)] H fun v H' => DidR H H' b v (mkdirF A p) := by
  have hcl := fun H => rclean_any p hpl H
  have hAc := hA.count
  unfold mkdirF
  by_cases h0 : ¬ (cleanF p).2 = 0
  · rw [if_neg h0]
    have h0' : ¬ ((cleanF p).2 : Int) = 0 := by omega
    generalize cleanF p = c at *
    refine Vc.CallH.body Tryz.func38 Tryz.call38 rfl (by decide +kernel) rfl ?_
    ((conv => whnf); repeat (any_goals (first | ((refine (hcl _).mono ?_; rintro _ H1 ⟨rfl, hx1⟩; have hz1 := hx1.size); (conv => whnf)) | (refine Vc.stp ?_; intros; (conv => whnf)) | (refine Vc.spl ?_ ?_ <;> (intro _; (conv => whnf))))))
    exact DidR.none h hx1 _
  have h0 : (cleanF p).2 = 0 := by omega
  rw [if_pos h0]
  have hq := clean_of h0
  obtain ⟨q, hqe⟩ : ∃ q, (cleanF p).1 = q := ⟨_, rfl⟩
  rw [h0, hqe] at hcl
  rw [hqe] at hq ⊢
  have hql : q.length ≤ 200 := by obtain ⟨l, rfl, hl⟩ := hq; exact hl.long
  have e0 := eq_empty q
  obtain ⟨ta, tcap, htb, htr⟩ := h.out
  have hat := fun H' (k : Ext H H') => rat_any (h.ext k) q (by omega)
  have hah := fun H' (k : Ext H H') => rahead_any (h.ext k) (p := q) (by omega) (by omega)
  unfold RatV at hat
  unfold RaheadV at hah
  unfold mkdirP
  by_cases hqn : q = []
  · have hd : dirF A q = true := by unfold dirF; simp [hqn]
    rw [if_pos hd]
    rw [decide_eq_true hqn] at e0
    refine Vc.CallH.body Tryz.func38 Tryz.call38 rfl (by decide +kernel) rfl ?_
    ((conv => whnf); repeat (any_goals (first | ((refine (hcl _).mono ?_; rintro _ H1 ⟨rfl, hx1⟩; have hz1 := hx1.size); (conv => whnf)) | (refine Vc.stp ?_; intros; (conv => whnf)) | (refine Vc.spl ?_ ?_ <;> (intro _; (conv => whnf))))))
    exact DidR.none h (by (repeat (first | assumption | exact Vc.Ext.refl _ | ((with_reducible apply Vc.Ext.trans); (case k => assumption)) | ((with_reducible apply Vc.Ext.but); (case k => assumption); (case hb => omega))))) _
  rw [decide_eq_false hqn] at e0
  have hlk : (lackF A q).length ≤ 12 := by
    have h1 : (lackF A q).length ≤ (pars q).length := List.length_filter_le _ _
    have h2 := hq.parts.deep
    rw [pars_len] at h1; omega
  cases hg : mget A q with
  | none =>
    rw [hg] at hat
    have hd : dirF A q = false := by unfold dirF; rw [hg]; simpa using hqn
    rw [if_neg (by rw [hd]; simp)]
    by_cases hf : fileF A q = true
    · simp only [if_pos hf] at hah
      rw [if_pos (.inr hf)]
      refine Vc.CallH.body Tryz.func38 Tryz.call38 rfl (by decide +kernel) rfl ?_
      ((conv => whnf); repeat (any_goals (first | ((refine (hcl _).mono ?_; rintro _ H1 ⟨rfl, hx1⟩; have hz1 := hx1.size); (conv => whnf)) | ((refine (hat _ (by (repeat (first | assumption | exact Vc.Ext.refl _ | ((with_reducible apply Vc.Ext.trans); (case k => assumption)) | ((with_reducible apply Vc.Ext.but); (case k => assumption); (case hb => omega)))))).mono ?_; rintro _ _ ⟨(⟨_, rfl⟩ | ⟨_, _, _, hcon, _⟩), rfl⟩; rotate_left; exact absurd hcon (by simp)); (conv => whnf)) | ((refine (hah _ (by (repeat (first | assumption | exact Vc.Ext.refl _ | ((with_reducible apply Vc.Ext.trans); (case k => assumption)) | ((with_reducible apply Vc.Ext.but); (case k => assumption); (case hb => omega)))))).mono ?_; rintro _ H3 ⟨rfl, hx3⟩; have hz3 := hx3.size); (conv => whnf)) | (refine Vc.stp ?_; intros; (conv => whnf)) | (refine Vc.spl ?_ ?_ <;> (intro _; (conv => whnf))))))
      exact DidR.none h (by (repeat (first | assumption | exact Vc.Ext.refl _ | ((with_reducible apply Vc.Ext.trans); (case k => assumption)) | ((with_reducible apply Vc.Ext.but); (case k => assumption); (case hb => omega))))) _
    simp only [if_neg hf] at hah
    rw [if_neg (by rw [not_or]; exact ⟨by simp, hf⟩)]
    by_cases hrm : 500 < A.length + ((lackF A q).length + 1)
    · rw [if_pos hrm]
      refine Vc.CallH.body Tryz.func38 Tryz.call38 rfl (by decide +kernel) rfl ?_
      ((conv => whnf); repeat (any_goals (first | ((refine (hcl _).mono ?_; rintro _ H1 ⟨rfl, hx1⟩; have hz1 := hx1.size); (conv => whnf)) | ((refine (hat _ (by (repeat (first | assumption | exact Vc.Ext.refl _ | ((with_reducible apply Vc.Ext.trans); (case k => assumption)) | ((with_reducible apply Vc.Ext.but); (case k => assumption); (case hb => omega)))))).mono ?_; rintro _ _ ⟨(⟨_, rfl⟩ | ⟨_, _, _, hcon, _⟩), rfl⟩; rotate_left; exact absurd hcon (by simp)); (conv => whnf)) | ((refine (hah _ (by (repeat (first | assumption | exact Vc.Ext.refl _ | ((with_reducible apply Vc.Ext.trans); (case k => assumption)) | ((with_reducible apply Vc.Ext.but); (case k => assumption); (case hb => omega)))))).mono ?_; rintro _ H3 ⟨⟨a3, c3, rfl, ho3⟩, hx3⟩; have hz3 := hx3.size); (conv => whnf)) | (refine Vc.stp ?_; intros; (conv => whnf)) | (refine Vc.spl ?_ ?_ <;> (intro _; (conv => whnf))))))
      exact DidR.none h (by (repeat (first | assumption | exact Vc.Ext.refl _ | ((with_reducible apply Vc.Ext.trans); (case k => assumption)) | ((with_reducible apply Vc.Ext.but); (case k => assumption); (case hb => omega))))) _
    · rw [if_neg hrm]
      refine Vc.CallH.body Tryz.func38 Tryz.call38 rfl (by decide +kernel) rfl ?_
      ((conv => whnf); repeat (any_goals (first | ((refine (hcl _).mono ?_; rintro _ H1 ⟨rfl, hx1⟩; have hz1 := hx1.size); (conv => whnf)) | ((refine (hat _ (by (repeat (first | assumption | exact Vc.Ext.refl _ | ((with_reducible apply Vc.Ext.trans); (case k => assumption)) | ((with_reducible apply Vc.Ext.but); (case k => assumption); (case hb => omega)))))).mono ?_; rintro _ _ ⟨(⟨_, rfl⟩ | ⟨_, _, _, hcon, _⟩), rfl⟩; rotate_left; exact absurd hcon (by simp)); (conv => whnf)) | ((refine (hah _ (by (repeat (first | assumption | exact Vc.Ext.refl _ | ((with_reducible apply Vc.Ext.trans); (case k => assumption)) | ((with_reducible apply Vc.Ext.but); (case k => assumption); (case hb => omega)))))).mono ?_; rintro _ H3 ⟨⟨a3, c3, rfl, ho3⟩, hx3⟩; have hz3 := hx3.size); (conv => whnf)) | ((refine (rmake_any (h.ext (by (repeat (first | assumption | exact Vc.Ext.refl _ | ((with_reducible apply Vc.Ext.trans); (case k => assumption)) | ((with_reducible apply Vc.Ext.but); (case k => assumption); (case hb => omega)))))) (lackF A q ++ [q]) a6 _ c6 (by (have := ho6.row); rw [strs_append]; exact this) (by simp) (by omega)).mono ?_; rintro _ H7 ⟨rfl, ht7, hx7⟩; have hz7 := hx7.size); (conv => whnf)) | ((refine NextH.push1b (by assumption) (ho3.ext (by assumption)) (by omega) (by omega) rfl ⟨_, rfl, fun _ h => by cases h⟩ rfl rfl rfl rfl rfl rfl rfl ?_; intro a6 c6 H6 ho6 hz6 hw6; have hx26 := (show Ext H1 H6 from (hx3.trans (by assumption)).wr (ho3.ext (by assumption)) (Nat.le_refl _) hw6)); (conv => whnf)) | (refine Vc.stp ?_; intros; (conv => whnf)) | (refine Vc.spl ?_ ?_ <;> (intro _; (conv => whnf))))))
      exact ⟨rfl, ht7, (show Ext H H6 by (repeat (first | assumption | exact Vc.Ext.refl _ | ((with_reducible apply Vc.Ext.trans); (case k => assumption)) | ((with_reducible apply Vc.Ext.but); (case k => assumption); (case hb => omega))))).only.trans hx7 fun _ _ e => e⟩
  | some nd =>
    rw [hg] at hat
    obtain ⟨dir, old⟩ := nd
    obtain ⟨hl0, hf0⟩ := lack_nil hA hg
    rw [hf0, hl0] at hah
    simp only [if_neg (show ¬ false = true by simp)] at hah
    cases dir with
    | true =>
      have hd : dirF A q = true := by unfold dirF; rw [hg]; simp
      rw [if_pos hd]
      refine Vc.CallH.body Tryz.func38 Tryz.call38 rfl (by decide +kernel) rfl ?_
      ((conv => whnf); repeat (any_goals (first | ((refine (hcl _).mono ?_; rintro _ H1 ⟨rfl, hx1⟩; have hz1 := hx1.size); (conv => whnf)) | ((refine (hat _ (by (repeat (first | assumption | exact Vc.Ext.refl _ | ((with_reducible apply Vc.Ext.trans); (case k => assumption)) | ((with_reducible apply Vc.Ext.but); (case k => assumption); (case hb => omega)))))).mono ?_; rintro _ H2 ⟨(⟨hcon, _⟩ | ⟨k, nn, hk, hnn, rfl⟩), rfl⟩; cases hcon; (obtain rfl := Option.some.inj hnn); (have hkl := (List.getElem?_eq_some_iff.1 hk).1)); (conv => whnf)) | ((refine IdxA.file (htr.ext (by (repeat (first | assumption | exact Vc.Ext.refl _ | ((with_reducible apply Vc.Ext.trans); (case k => assumption)) | ((with_reducible apply Vc.Ext.but); (case k => assumption); (case hb => omega)))))) rfl k _ (by omega) hk ?_; intro bi oi ai ci hri hci; have hc0 := hci 0 _ rfl; have hc1 := hci 1 _ rfl; have hc2 := hci 2 _ rfl; try dsimp only at hri hc1 hc2); (conv => whnf)) | ((refine (hah _ (by (repeat (first | assumption | exact Vc.Ext.refl _ | ((with_reducible apply Vc.Ext.trans); (case k => assumption)) | ((with_reducible apply Vc.Ext.but); (case k => assumption); (case hb => omega)))))).mono ?_; rintro _ H3 ⟨⟨a3, c3, rfl, ho3⟩, hx3⟩; have hz3 := hx3.size); (conv => whnf)) | (refine Vc.stp ?_; intros; (conv => whnf)) | (refine Vc.spl ?_ ?_ <;> (intro _; (conv => whnf))))))
      exact DidR.none h (by (repeat (first | assumption | exact Vc.Ext.refl _ | ((with_reducible apply Vc.Ext.trans); (case k => assumption)) | ((with_reducible apply Vc.Ext.but); (case k => assumption); (case hb => omega))))) _
    | false =>
      have hd : dirF A q = false := by unfold dirF; rw [hg]; simpa using hqn
      rw [if_neg (by rw [hd]; simp), if_pos (.inl rfl)]
      refine Vc.CallH.body Tryz.func38 Tryz.call38 rfl (by decide +kernel) rfl ?_
      ((conv => whnf); repeat (any_goals (first | ((refine (hcl _).mono ?_; rintro _ H1 ⟨rfl, hx1⟩; have hz1 := hx1.size); (conv => whnf)) | ((refine (hat _ (by (repeat (first | assumption | exact Vc.Ext.refl _ | ((with_reducible apply Vc.Ext.trans); (case k => assumption)) | ((with_reducible apply Vc.Ext.but); (case k => assumption); (case hb => omega)))))).mono ?_; rintro _ H2 ⟨(⟨hcon, _⟩ | ⟨k, nn, hk, hnn, rfl⟩), rfl⟩; cases hcon; (obtain rfl := Option.some.inj hnn); (have hkl := (List.getElem?_eq_some_iff.1 hk).1)); (conv => whnf)) | ((refine IdxA.file (htr.ext (by (repeat (first | assumption | exact Vc.Ext.refl _ | ((with_reducible apply Vc.Ext.trans); (case k => assumption)) | ((with_reducible apply Vc.Ext.but); (case k => assumption); (case hb => omega)))))) rfl k _ (by omega) hk ?_; intro bi oi ai ci hri hci; have hc0 := hci 0 _ rfl; have hc1 := hci 1 _ rfl; have hc2 := hci 2 _ rfl; try dsimp only at hri hc1 hc2); (conv => whnf)) | ((refine (hah _ (by (repeat (first | assumption | exact Vc.Ext.refl _ | ((with_reducible apply Vc.Ext.trans); (case k => assumption)) | ((with_reducible apply Vc.Ext.but); (case k => assumption); (case hb => omega)))))).mono ?_; rintro _ H3 ⟨⟨a3, c3, rfl, ho3⟩, hx3⟩; have hz3 := hx3.size); (conv => whnf)) | (refine Vc.stp ?_; intros; (conv => whnf)) | (refine Vc.spl ?_ ?_ <;> (intro _; (conv => whnf))))))
      exact DidR.none h (by (repeat (first | assumption | exact Vc.Ext.refl _ | ((with_reducible apply Vc.Ext.trans); (case k => assumption)) | ((with_reducible apply Vc.Ext.but); (case k => assumption); (case hb => omega))))) _
end Go.Proofs.YtjcmcmogbkdjcaaGreatDoor
/- The reference's trees: what is appended, taken away. -/
namespace Go.Proofs.YtjcmcmogbkdjcaaGreatDoor
open Go Go.Vc Go.Scr Go.Pth Go.Tre
structure RmS where
  i : Nat
  vs : List Value
  a : Option Addr
  cap : Nat
end Go.Proofs.YtjcmcmogbkdjcaaGreatDoor
/- The reference's trees: what stands below a path, as it would at another. -/
namespace Go.Tre
open Go.Pth Go.Scr
open Go.Vc (mget mput mdel mget_put mget_mem mget_of_mem mget_none)
theorem moved_snoc (A : Tr) (p q : Txt) (i : Nat) (x : Txt × Node) (hx : A[i]? = some x) : movedF (A.take (i + 1)) p q = movedF (A.take i) p q ++ if withinF x.1 p = true then [(q ++ x.1.drop p.length, x.2)] else [] := by
  have : A.take (i + 1) = A.take i ++ [x] := by rw [List.take_add_one, hx]; rfl
  rw [this]
  unfold movedF
  rw [List.filter_append, List.map_append]
  by_cases hw : withinF x.1 p = true <;> simp [hw]
theorem moved_len (A : Tr) (p q : Txt) : (movedF A p q).length ≤ A.length := by unfold movedF; rw [List.length_map]; exact List.length_filter_le _ _
end Go.Tre
namespace Go.Proofs.YtjcmcmogbkdjcaaGreatDoor
open Go Go.Vc Go.Scr Go.Pth Go.Tre
structure CoS where
  i : Nat
  fs : List SF
  a : Option Addr
  cap : Nat
theorem within_len {x p : Bs} (h : withinF x p = true) : p.length ≤ x.length := by
  unfold withinF at h
  rw [Bool.or_eq_true, Bool.or_eq_true] at h
  rcases h with (h | h) | h
  · have : p = [] := by simpa using h
    rw [this]; exact Nat.zero_le _
  · have : x = p := by simpa using h
    rw [this]; exact Nat.le_refl _
  · have := (List.isPrefixOf_iff_prefix.1 h).length_le
    rw [List.length_append] at this; omega
end Go.Proofs.YtjcmcmogbkdjcaaGreatDoor
/- The reference's trees: one path told under another. -/
namespace Go.Tre
open Go.Pth Go.Scr
open Go.Vc (mget mput mdel mget_put mget_mem mget_of_mem mget_none)
theorem puts_le : ∀ (l A : Tr), (putsF A l).length ≤ A.length + l.length
  | [], A => Nat.le_refl _
  | x :: l, A => by
    have h1 := puts_le l (putF A x.1 x.2)
    have h2 := putF_le x.1 x.2 A
    show (putsF (putF A x.1 x.2) l).length ≤ _
    simp only [List.length_cons]; omega
theorem puts_snocR (A l : Tr) (x : Txt × Node) : putsF A (l ++ [x]) = putF (putsF A l) x.1 x.2 := by unfold putsF; rw [List.foldl_append]; rfl
theorem filter_sizeR (A : Tr) (f : Txt × Node → Bool) : sizeT (A.filter f) ≤ sizeT A := filter_size A f
theorem moved_sizeR (A : Tr) (p q : Txt) : sizeT (movedF A p q) ≤ sizeT A := by
  have : sizeT (movedF A p q) = sizeT (A.filter fun x => withinF x.1 p) := by
    unfold movedF sizeT
    rw [List.map_map]; rfl
  rw [this]; exact filter_size A _
theorem moved_path {A : Tr} (hA : Okay A) {p q : Txt} (hq : q.length ≤ 200) {x : Txt × Node} (h : x ∈ movedF A p q) : x.1.length ≤ 400 ∧ x.2.2.length ≤ 65536 := by
  unfold movedF at h
  obtain ⟨y, hy, rfl⟩ := List.mem_map.1 h
  have hy := (List.mem_filter.1 hy).1
  have hg := mget_of_mem hA.sorted.nodup hy
  obtain ⟨⟨l, e, hl⟩, _⟩ := hA.clean y.1 y.2 hg
  have hl := hl.long
  rw [← e] at hl
  refine ⟨?_, (hA.file _ _ hg).1⟩
  show (q ++ y.1.drop p.length).length ≤ 400
  rw [List.length_append, List.length_drop]; omega
end Go.Tre
namespace Go.Proofs.YtjcmcmogbkdjcaaGreatDoor
open Go Go.Vc Go.Scr Go.Pth Go.Tre
end Go.Proofs.YtjcmcmogbkdjcaaGreatDoor
/- The reference's trees: the tree of files and directories. -/
namespace Go.Proofs.YtjcmcmogbkdjcaaGreatDoor
open Go Go.Vc Go.Scr Go.Pth Go.Tre
/-- what the reference's Of answers -/
def OfR (H' : Heap) (base : Nat) (v : Value) (r : Option Tr × Nat) : Prop := match r.1 with
  | none => v = .tuple #[.pointer none, .int .i64 r.2]
  | some A => ∃ b, v = .tuple #[.pointer (some ⟨b, 0, none⟩), .int .i64 r.2] ∧ RTree H' b A ∧ Okay A ∧ base ≤ b
/-- files' rows keep off a block of texts -/
theorem RowF.strs {F : Nat → Prop} {H H' : Heap} {a : Option Addr} {A : Tr} (h : RowF H a A) (k : Only F H H') (hF : ∀ b, F b → ∀ o v, hcell H ⟨b, o, none⟩ = some v → isStr v) : RowF H' a A := by
  obtain ⟨vs, h1, h2⟩ := h.out
  have key : ∀ {A : Tr} {vs : List Value}, FilesV H A vs → FilesV H' A vs := by
    intro A vs h
    induction h with
    | nil => exact .nil
    | @cons x A vs a cap hr _ ih =>
      refine .cons (hr.keep' k fun hne p hp hf => ?_) ih
      obtain ⟨b, o, ha, hlt, hc⟩ := hr.at (List.length_pos_iff.2 hne)
      rw [ha] at hp; cases hp
      have hl : 0 < x.2.2.length := by rw [← strV_length]; exact List.length_pos_iff.2 hne
      exact hF _ hf _ _ (hc 0 _ (strV_get hl))
  refine ⟨vs, h1.keep' k fun hne p hp hf => ?_, key h2⟩
  obtain ⟨b, o, ha, hlt, hc⟩ := h1.at (List.length_pos_iff.2 hne)
  rw [ha] at hp; cases hp
  cases h2 with
  | nil => exact hne rfl
  | @cons x A vs a cap hr _ => exact hF _ hf _ _ (hc 1 (.bool x.2.1) rfl)
theorem RTree.strs {F : Nat → Prop} {H H' : Heap} {b : Nat} {A : Tr} (h : RTree H b A) (k : Only F H H') (hb : ¬ F b) (hF : ∀ b, F b → ∀ o v, hcell H ⟨b, o, none⟩ = some v → isStr v) : RTree H' b A := by
  obtain ⟨a, cap, h1, h2⟩ := h.out
  exact ⟨a, cap, h1.keep k hb, h2.strs k hF⟩
structure RoS where
  i : Nat
  A : Tr
  seen : List Bs
  a : Option Addr
  cap : Nat
theorem strs_beq (x y : Bs) : ((mkS x).toList == (mkS y).toList) = decide (x = y) := by rw [str_beq]; simp [mkS_inj]
set_option maxHeartbeats 4000000 in
theorem rof_any (L : Tr) (a : Option Addr) (n cap : Nat) (H : Heap) (hr : RowF H a L) (hn : L.length = n) (hn1 : n ≤ 1000000) (hb : ∀ f ∈ L, f.2.2.length ≤ 1000000000 ∧ f.1.length ≤ 100000000) : CallH Tryz.prog 20 [.slice a n cap] H fun v H' => OfR H' H.size v (ofF L) ∧ Ext H H' := by
  refine Vc.CallH.body Tryz.func20 Tryz.call20 rfl (by decide +kernel) rfl ?_
  ((conv => whnf); repeat (any_goals (first | ((refine PureH.build #[.slice none 0 0] (by kernel_rfl) ?_); (conv => whnf)) | (refine Vc.stp ?_; intros; (conv => whnf)) | (refine Vc.spl ?_ ?_ <;> (intro _; (conv => whnf))))))
  rename_i H1 hz1 hb1 hx1
  refine LoopH.intro (fun (x : RoS) => [(6, .int .i64 x.i), (5, .slice x.a x.seen.length x.cap)])
    (fun x H' => x.i ≤ n ∧ x.seen.length ≤ x.i ∧ ofF L = ofGo x.A x.seen (L.drop x.i) ∧ RTree H' H.size x.A ∧ Okay x.A ∧ Own H' H1.size 9 1 x.a x.seen.length x.cap (strs x.seen) ∧ AllQ isStr H' x.a ∧ Ext H H') (fun x => n - x.i) ⟨0, [], [], none, 0⟩ ⟨rfl, rfl, trivial⟩ ⟨Nat.zero_le _, Nat.le_refl _, rfl, RTree.of (n := 0) (cap := 0) (a := none) hb1 rfl (Nat.le_refl _) (RowF.nil _ _), Okay.nil, Own.nil _ _ _ _, AllQ.none _ _, hx1⟩ ?_
  rintro ⟨i, A, seen, sa, scap⟩ H3 ⟨hi, hsl, hof, ht3, hA, ho3, hq3, hx3⟩
  dsimp only at hi hsl hof ht3 hA ho3 hq3 ⊢
  have hz3 := hx3.size
  have hAc := hA.count
  have hrow := hr.ext hx3
  by_cases hlt : i < n
  · obtain ⟨f, hf⟩ : ∃ f, L[i]? = some f := ⟨_, List.getElem?_eq_getElem (by omega)⟩
    obtain ⟨hfl, hpl⟩ := hb f (List.mem_of_getElem? hf)
    have hdr : L.drop i = f :: L.drop (i + 1) := by
      rw [List.drop_eq_getElem_cons (by omega)]
      rw [List.getElem?_eq_getElem (by omega)] at hf
      rw [Option.some.inj hf]
    rw [hdr, ofGo] at hof
    have hcl := fun H => rclean_any f.1 hpl H
    by_cases h0 : ¬ (cleanF f.1).2 = 0
    · rw [if_pos h0] at hof
      have h0' : ¬ ((cleanF f.1).2 : Int) = 0 := by omega
      rw [hof]
      generalize cleanF f.1 = c at *
      ((conv => whnf); repeat (any_goals (first | ((refine IdxA.file hrow hn i f (by omega) hf ?_; intro bi oi ai ci hri hci; have hc0 := hci 0 _ rfl; have hc1 := hci 1 _ rfl; have hc2 := hci 2 _ rfl); (conv => whnf)) | ((refine (hcl _).mono ?_; rintro _ H6 ⟨rfl, hx6⟩; have hz6 := hx6.size; have hrow6 := hrow.ext hx6); (conv => whnf)) | (((with_reducible refine Vc.DrawH.held [0, 1, 2, 3, 4, 5, 6, 7, 8, 9, 10, 11, 12, 13, 14, 15, 16, 17, 18, 19, 20, 21, 22, 23, 24, 25, 26] [(20, [17])] mixed (by decide +kernel) ?_)); (conv => whnf)) | (refine Vc.stp ?_; intros; (conv => whnf)) | (refine Vc.spl ?_ ?_ <;> (intro _; (conv => whnf))))))
      exact ⟨rfl, hx3.trans hx6⟩
    have h0 : (cleanF f.1).2 = 0 := by omega
    have hq := clean_of h0
    rw [if_neg (by omega)] at hof
    obtain ⟨q, hqe⟩ : ∃ q, (cleanF f.1).1 = q := ⟨_, rfl⟩
    rw [h0, hqe] at hcl
    have hst : stepF A q f = if f.2.1 = true then mkdirF A f.1 else writeF A f.1 f.2.2 := by
      unfold stepF mkdirF writeF
      rw [h0, hqe, if_pos rfl, if_pos rfl]
    rw [hqe] at hq hof
    have eq0 := eq_empty q
    ((conv => whnf); repeat (any_goals (first | ((refine IdxA.file hrow hn i f (by omega) hf ?_; intro bi oi ai ci hri hci; have hc0 := hci 0 _ rfl; have hc1 := hci 1 _ rfl; have hc2 := hci 2 _ rfl); (conv => whnf)) | ((refine (hcl _).mono ?_; rintro _ H6 ⟨rfl, hx6⟩; have hz6 := hx6.size; have hrow6 := hrow.ext hx6); (conv => whnf)) | (refine Vc.stp ?_; intros; (conv => whnf)) | (refine Vc.spl ?_ ?_ <;> (intro _; (conv => whnf))))))
    refine LoopH.intro (fun (k : Nat) => [(9, .int .i64 k)]) (fun k H' => H6 = H' ∧ k ≤ seen.length ∧ ∀ y ∈ seen.take k, y ≠ q) (fun k => seen.length - k) 0 ⟨rfl, trivial⟩ ⟨rfl, Nat.zero_le _, by (show ∀ y ∈ seen.take 0, _; rw [List.take_zero]; intro y hy; cases hy)⟩ ?_
    rintro k _ ⟨rfl, hk, hne⟩
    by_cases hkl : k < seen.length
    · obtain ⟨y, hy⟩ : ∃ y, seen[k]? = some y := ⟨_, List.getElem?_eq_getElem hkl⟩
      have eyq := strs_beq y q
      by_cases hyq : y = q
      · rw [decide_eq_true hyq] at eyq
        have hs : q ∈ seen := by rw [← hyq]; exact List.mem_of_getElem? hy
        rw [if_pos (.inl hs)] at hof
        rw [hof]
        ((conv => whnf); repeat (any_goals (first | ((refine IdxA.strv (ho3.row.ext hx6) rfl k y (by omega) hy ?_; intro _ _ _ _ _); (conv => whnf)) | (refine Vc.stp ?_; intros; (conv => whnf)) | (refine Vc.spl ?_ ?_ <;> (intro _; (conv => whnf))))))
        exact ⟨rfl, hx3.trans hx6⟩
      · rw [decide_eq_false hyq] at eyq
        ((conv => whnf); repeat (any_goals (first | ((refine IdxA.strv (ho3.row.ext hx6) rfl k y (by omega) hy ?_; intro _ _ _ _ _); (conv => whnf)) | (refine Vc.stp ?_; intros; (conv => whnf)) | (refine Vc.spl ?_ ?_ <;> (intro _; (conv => whnf))))))
        refine ⟨k + 1, ⟨rfl, trivial⟩, ⟨rfl, by omega, ?_⟩, by omega⟩
        rw [List.take_add_one, hy]
        intro z hz
        rcases List.mem_append.1 hz with hz | hz
        · exact hne z hz
        · rw [List.mem_singleton.1 hz]; exact hyq
    obtain rfl : k = seen.length := by omega
    rw [List.take_length] at hne
    have hs : ¬ q ∈ seen := fun h => hne q h rfl
    have hrow6 := hrow.ext hx6
    have ht6 := ht3.ext hx6
    obtain ⟨ta, tcap, htb, htr⟩ := ht6.out
    have hat := fun H' (k : Ext H6 H') => rat_any (ht6.ext k) q (by omega)
    unfold RatV at hat
    have hAs : Okay (stepF A q f).1 := hA.step hq f
    have hx36 : Ext H H6 := hx3.trans hx6
    have ho6 := ho3.ext hx6
    have hq6 := hq3.ext ho3 hx6
    by_cases hfd : f.2.1 = true
    · rw [hfd] at hc1
      by_cases hd : dirF A q = true
      · rw [if_pos (.inr ⟨hfd, hd⟩)] at hof
        rw [hof]
        by_cases hqn : q = []
        · rw [decide_eq_true hqn] at eq0
          ((conv => whnf); repeat (any_goals (first | ((refine IdxA.file hrow6 hn i f (by omega) hf ?_; intro bj oj aj cj hrj hcj; have hd0 := hcj 0 _ rfl; have hd1 := hcj 1 _ rfl; have hd2 := hcj 2 _ rfl); (conv => whnf)) | (((with_reducible refine Vc.DrawH.held [0, 1, 2, 3, 4, 5, 6, 7, 8, 9, 10, 11, 12, 13, 14, 15, 16, 17, 18, 19, 20, 21, 22, 23, 24, 25, 26] [(20, [17])] mixed (by decide +kernel) ?_)); (conv => whnf)) | (refine Vc.stp ?_; intros; (conv => whnf)) | (refine Vc.spl ?_ ?_ <;> (intro _; (conv => whnf))))))
          exact ⟨rfl, hx36⟩
        · rw [decide_eq_false hqn] at eq0
          obtain ⟨t, ht⟩ := (dir_node A q).1 hd
          have hg : mget A q = some (true, t) := by unfold nodeAt at ht; rwa [if_neg hqn] at ht
          rw [hg] at hat
          ((conv => whnf); repeat (any_goals (first | ((refine IdxA.file hrow6 hn i f (by omega) hf ?_; intro bj oj aj cj hrj hcj; have hd0 := hcj 0 _ rfl; have hd1 := hcj 1 _ rfl; have hd2 := hcj 2 _ rfl); (conv => whnf)) | ((refine (hat _ (by (repeat (first | assumption | exact Vc.Ext.refl _ | ((with_reducible apply Vc.Ext.trans); (case k => assumption)) | ((with_reducible apply Vc.Ext.but); (case k => assumption); (case hb => omega)))))).mono ?_; rintro _ _ ⟨(⟨hcon, _⟩ | ⟨k, nn, hk, hnn, rfl⟩), rfl⟩; cases hcon; (obtain rfl := Option.some.inj hnn); (have hkl := (List.getElem?_eq_some_iff.1 hk).1)); (conv => whnf)) | ((refine IdxA.file (htr.ext (by (repeat (first | assumption | exact Vc.Ext.refl _ | ((with_reducible apply Vc.Ext.trans); (case k => assumption)) | ((with_reducible apply Vc.Ext.but); (case k => assumption); (case hb => omega)))))) rfl k _ (by omega) hk ?_; intro bk ok ak ck hrk hck; have he1 := hck 1 _ rfl); (conv => whnf)) | (((with_reducible refine Vc.DrawH.held [0, 1, 2, 3, 4, 5, 6, 7, 8, 9, 10, 11, 12, 13, 14, 15, 16, 17, 18, 19, 20, 21, 22, 23, 24, 25, 26] [(20, [17])] mixed (by decide +kernel) ?_)); (conv => whnf)) | (refine Vc.stp ?_; intros; (conv => whnf)) | (refine Vc.spl ?_ ?_ <;> (intro _; (conv => whnf))))))
          exact ⟨rfl, hx36⟩
      rw [if_neg (by rw [not_or]; exact ⟨hs, fun e => hd e.2⟩)] at hof
      have hqn : q ≠ [] := by rintro rfl; exact hd rfl
      rw [decide_eq_false hqn] at eq0
      rw [if_pos hfd] at hst
      have hcode : (stepF A q f).2 = (mkdirF A f.1).2 := by rw [hst]
      by_cases hc : ¬ (stepF A q f).2 = 0
      · rw [if_pos hc] at hof
        rw [hof, hst]
        rw [hst] at hc
        have hc' : ¬ ((mkdirF A f.1).2 : Int) = 0 := by omega
        cases hg : mget A q with
        | none =>
          rw [hg] at hat
          ((conv => whnf); repeat (any_goals (first | ((refine IdxA.file hrow7 hn i f (by omega) hf ?_; intro bl ol al cl hrl hcl; have he0 := hcl 0 _ rfl; have he1 := hcl 1 _ rfl; have he2 := hcl 2 _ rfl); (conv => whnf)) | ((refine IdxA.file hrow6 hn i f (by omega) hf ?_; intro bj oj aj cj hrj hcj; have hd0 := hcj 0 _ rfl; have hd1 := hcj 1 _ rfl; have hd2 := hcj 2 _ rfl); (conv => whnf)) | ((refine (hat _ (by (repeat (first | assumption | exact Vc.Ext.refl _ | ((with_reducible apply Vc.Ext.trans); (case k => assumption)) | ((with_reducible apply Vc.Ext.but); (case k => assumption); (case hb => omega)))))).mono ?_; rintro _ _ ⟨(⟨_, rfl⟩ | ⟨_, _, _, hcon, _⟩), rfl⟩; rotate_left; exact absurd hcon (by simp)); (conv => whnf)) | ((rename_i Hp zp bp xp; have hlow := (fun p hp => ((ho6.ext xp).block p hp).1 : ∀ p, sa = some p → H1.size ≤ p.block); refine NextH.push1q (Q := isStr) bp (ho6.ext xp) (by omega) (by omega) (hq6.ext ho6 xp) strs_isStr trivial rfl ⟨_, rfl, fun _ h => by cases h⟩ rfl rfl rfl rfl rfl rfl rfl (by simp [isStr, Value.cells]) ?_; intro a7 c7 H7 ho7 hz7 hw7 hq7; have ht7 := (ht6.ext xp).strs hw7 (fun ⟨p, hp, e⟩ => by have := hlow p hp; omega) (fun x ⟨p, hp, e⟩ o v hv => (hq6.ext ho6 xp).out p hp o v (by rw [e]; exact hv)); have hx7 : Ext H H7 := (hx36.trans xp).wr (ho6.ext xp) (by omega) hw7; have hrow7 := hr.ext hx7; rw [show strs seen ++ [Value.string (mkS q)] = strs (seen ++ [q]) by simp [strs]] at ho7); (conv => whnf)) | ((refine (rmkdir_any ht7 hA f.1 hpl).mono ?_; rintro _ H9 hd9; obtain rfl := hd9.code; have hx9 : Ext H H9 := hx7.but hd9.only (Nat.le_refl _); have ht9 := hd9.tree; have hz9 := hd9.only.size; have ho9 := ho7.keep hd9.only (fun p hp e => by have := (ho7.block p hp).1; omega); have hq9 := hq7.keep hd9.only (fun p hp => ⟨(ho7.block p hp).2, fun e => by have := (ho7.block p hp).1; omega⟩); clear hd9); (conv => whnf)) | (((with_reducible refine Vc.DrawH.held [0, 1, 2, 3, 4, 5, 6, 7, 8, 9, 10, 11, 12, 13, 14, 15, 16, 17, 18, 19, 20, 21, 22, 23, 24, 25, 26] [(20, [17])] mixed (by decide +kernel) ?_)); (conv => whnf)) | (refine Vc.stp ?_; intros; (conv => whnf)) | (refine Vc.spl ?_ ?_ <;> (intro _; (conv => whnf))))))
          exact ⟨rfl, hx9⟩
        | some nd =>
          rw [hg] at hat
          have hnd : nd.1 = false := by
            cases h : nd.1 with
            | false => rfl
            | true => exact absurd ((dir_node A q).2 ⟨nd.2, by rw [node_some hg hqn, ← h]⟩) hd
          ((conv => whnf); repeat (any_goals (first | ((refine IdxA.file hrow7 hn i f (by omega) hf ?_; intro bl ol al cl hrl hcl; have he0 := hcl 0 _ rfl; have he1 := hcl 1 _ rfl; have he2 := hcl 2 _ rfl); (conv => whnf)) | ((refine IdxA.file hrow6 hn i f (by omega) hf ?_; intro bj oj aj cj hrj hcj; have hd0 := hcj 0 _ rfl; have hd1 := hcj 1 _ rfl; have hd2 := hcj 2 _ rfl); (conv => whnf)) | ((refine (hat _ (by (repeat (first | assumption | exact Vc.Ext.refl _ | ((with_reducible apply Vc.Ext.trans); (case k => assumption)) | ((with_reducible apply Vc.Ext.but); (case k => assumption); (case hb => omega)))))).mono ?_; rintro _ _ ⟨(⟨hcon, _⟩ | ⟨k, nn, hk, hnn, rfl⟩), rfl⟩; cases hcon; (obtain rfl := Option.some.inj hnn); (have hkl := (List.getElem?_eq_some_iff.1 hk).1)); (conv => whnf)) | ((refine IdxA.file (htr.ext (by (repeat (first | assumption | exact Vc.Ext.refl _ | ((with_reducible apply Vc.Ext.trans); (case k => assumption)) | ((with_reducible apply Vc.Ext.but); (case k => assumption); (case hb => omega)))))) rfl k _ (by omega) hk ?_; intro bk ok ak ck hrk hck; have he1 := hck 1 _ rfl); (conv => whnf)) | ((rename_i Hp zp bp xp; have hlow := (fun p hp => ((ho6.ext xp).block p hp).1 : ∀ p, sa = some p → H1.size ≤ p.block); refine NextH.push1q (Q := isStr) bp (ho6.ext xp) (by omega) (by omega) (hq6.ext ho6 xp) strs_isStr trivial rfl ⟨_, rfl, fun _ h => by cases h⟩ rfl rfl rfl rfl rfl rfl rfl (by simp [isStr, Value.cells]) ?_; intro a7 c7 H7 ho7 hz7 hw7 hq7; have ht7 := (ht6.ext xp).strs hw7 (fun ⟨p, hp, e⟩ => by have := hlow p hp; omega) (fun x ⟨p, hp, e⟩ o v hv => (hq6.ext ho6 xp).out p hp o v (by rw [e]; exact hv)); have hx7 : Ext H H7 := (hx36.trans xp).wr (ho6.ext xp) (by omega) hw7; have hrow7 := hr.ext hx7; rw [show strs seen ++ [Value.string (mkS q)] = strs (seen ++ [q]) by simp [strs]] at ho7); (conv => whnf)) | ((refine (rmkdir_any ht7 hA f.1 hpl).mono ?_; rintro _ H9 hd9; obtain rfl := hd9.code; have hx9 : Ext H H9 := hx7.but hd9.only (Nat.le_refl _); have ht9 := hd9.tree; have hz9 := hd9.only.size; have ho9 := ho7.keep hd9.only (fun p hp e => by have := (ho7.block p hp).1; omega); have hq9 := hq7.keep hd9.only (fun p hp => ⟨(ho7.block p hp).2, fun e => by have := (ho7.block p hp).1; omega⟩); clear hd9); (conv => whnf)) | (((with_reducible refine Vc.DrawH.held [0, 1, 2, 3, 4, 5, 6, 7, 8, 9, 10, 11, 12, 13, 14, 15, 16, 17, 18, 19, 20, 21, 22, 23, 24, 25, 26] [(20, [17])] mixed (by decide +kernel) ?_)); (conv => whnf)) | (refine Vc.stp ?_; intros; (conv => whnf)) | (refine Vc.spl ?_ ?_ <;> (intro _; (conv => whnf))))))
          exact ⟨rfl, hx9⟩
      · have hc : (stepF A q f).2 = 0 := by omega
        rw [if_neg (by omega)] at hof
        rw [hst] at hc hof hAs
        have hc' : ((mkdirF A f.1).2 : Int) = 0 := by omega
        cases hg : mget A q with
        | none =>
          rw [hg] at hat
          ((conv => whnf); repeat (any_goals (first | ((refine IdxA.file hrow7 hn i f (by omega) hf ?_; intro bl ol al cl hrl hcl; have he0 := hcl 0 _ rfl; have he1 := hcl 1 _ rfl; have he2 := hcl 2 _ rfl); (conv => whnf)) | ((refine IdxA.file hrow6 hn i f (by omega) hf ?_; intro bj oj aj cj hrj hcj; have hd0 := hcj 0 _ rfl; have hd1 := hcj 1 _ rfl; have hd2 := hcj 2 _ rfl); (conv => whnf)) | ((refine (hat _ (by (repeat (first | assumption | exact Vc.Ext.refl _ | ((with_reducible apply Vc.Ext.trans); (case k => assumption)) | ((with_reducible apply Vc.Ext.but); (case k => assumption); (case hb => omega)))))).mono ?_; rintro _ _ ⟨(⟨_, rfl⟩ | ⟨_, _, _, hcon, _⟩), rfl⟩; rotate_left; exact absurd hcon (by simp)); (conv => whnf)) | ((rename_i Hp zp bp xp; have hlow := (fun p hp => ((ho6.ext xp).block p hp).1 : ∀ p, sa = some p → H1.size ≤ p.block); refine NextH.push1q (Q := isStr) bp (ho6.ext xp) (by omega) (by omega) (hq6.ext ho6 xp) strs_isStr trivial rfl ⟨_, rfl, fun _ h => by cases h⟩ rfl rfl rfl rfl rfl rfl rfl (by simp [isStr, Value.cells]) ?_; intro a7 c7 H7 ho7 hz7 hw7 hq7; have ht7 := (ht6.ext xp).strs hw7 (fun ⟨p, hp, e⟩ => by have := hlow p hp; omega) (fun x ⟨p, hp, e⟩ o v hv => (hq6.ext ho6 xp).out p hp o v (by rw [e]; exact hv)); have hx7 : Ext H H7 := (hx36.trans xp).wr (ho6.ext xp) (by omega) hw7; have hrow7 := hr.ext hx7; rw [show strs seen ++ [Value.string (mkS q)] = strs (seen ++ [q]) by simp [strs]] at ho7); (conv => whnf)) | ((refine (rmkdir_any ht7 hA f.1 hpl).mono ?_; rintro _ H9 hd9; obtain rfl := hd9.code; have hx9 : Ext H H9 := hx7.but hd9.only (Nat.le_refl _); have ht9 := hd9.tree; have hz9 := hd9.only.size; have ho9 := ho7.keep hd9.only (fun p hp e => by have := (ho7.block p hp).1; omega); have hq9 := hq7.keep hd9.only (fun p hp => ⟨(ho7.block p hp).2, fun e => by have := (ho7.block p hp).1; omega⟩); clear hd9); (conv => whnf)) | (((with_reducible refine Vc.DrawH.held [0, 1, 2, 3, 4, 5, 6, 7, 8, 9, 10, 11, 12, 13, 14, 15, 16, 17, 18, 19, 20, 21, 22, 23, 24, 25, 26] [(20, [17])] mixed (by decide +kernel) ?_)); (conv => whnf)) | (refine Vc.stp ?_; intros; (conv => whnf)) | (refine Vc.spl ?_ ?_ <;> (intro _; (conv => whnf))))))
          (exact ⟨⟨i + 1, _, seen ++ [q], a7, c7⟩, ⟨rfl, by rw [List.length_append]; rfl, trivial⟩, ⟨by show i + 1 ≤ n; omega, by show (seen ++ [q]).length ≤ i + 1; rw [List.length_append]; simp; omega, hof, ht9, hAs, by rw [List.length_append]; exact ho9, hq9, hx9⟩, by show n - (i + 1) < n - i; omega⟩)
        | some nd =>
          rw [hg] at hat
          have hnd : nd.1 = false := by
            cases h : nd.1 with
            | false => rfl
            | true => exact absurd ((dir_node A q).2 ⟨nd.2, by rw [node_some hg hqn, ← h]⟩) hd
          ((conv => whnf); repeat (any_goals (first | ((refine IdxA.file hrow7 hn i f (by omega) hf ?_; intro bl ol al cl hrl hcl; have he0 := hcl 0 _ rfl; have he1 := hcl 1 _ rfl; have he2 := hcl 2 _ rfl); (conv => whnf)) | ((refine IdxA.file hrow6 hn i f (by omega) hf ?_; intro bj oj aj cj hrj hcj; have hd0 := hcj 0 _ rfl; have hd1 := hcj 1 _ rfl; have hd2 := hcj 2 _ rfl); (conv => whnf)) | ((refine (hat _ (by (repeat (first | assumption | exact Vc.Ext.refl _ | ((with_reducible apply Vc.Ext.trans); (case k => assumption)) | ((with_reducible apply Vc.Ext.but); (case k => assumption); (case hb => omega)))))).mono ?_; rintro _ _ ⟨(⟨hcon, _⟩ | ⟨k, nn, hk, hnn, rfl⟩), rfl⟩; cases hcon; (obtain rfl := Option.some.inj hnn); (have hkl := (List.getElem?_eq_some_iff.1 hk).1)); (conv => whnf)) | ((refine IdxA.file (htr.ext (by (repeat (first | assumption | exact Vc.Ext.refl _ | ((with_reducible apply Vc.Ext.trans); (case k => assumption)) | ((with_reducible apply Vc.Ext.but); (case k => assumption); (case hb => omega)))))) rfl k _ (by omega) hk ?_; intro bk ok ak ck hrk hck; have he1 := hck 1 _ rfl); (conv => whnf)) | ((rename_i Hp zp bp xp; have hlow := (fun p hp => ((ho6.ext xp).block p hp).1 : ∀ p, sa = some p → H1.size ≤ p.block); refine NextH.push1q (Q := isStr) bp (ho6.ext xp) (by omega) (by omega) (hq6.ext ho6 xp) strs_isStr trivial rfl ⟨_, rfl, fun _ h => by cases h⟩ rfl rfl rfl rfl rfl rfl rfl (by simp [isStr, Value.cells]) ?_; intro a7 c7 H7 ho7 hz7 hw7 hq7; have ht7 := (ht6.ext xp).strs hw7 (fun ⟨p, hp, e⟩ => by have := hlow p hp; omega) (fun x ⟨p, hp, e⟩ o v hv => (hq6.ext ho6 xp).out p hp o v (by rw [e]; exact hv)); have hx7 : Ext H H7 := (hx36.trans xp).wr (ho6.ext xp) (by omega) hw7; have hrow7 := hr.ext hx7; rw [show strs seen ++ [Value.string (mkS q)] = strs (seen ++ [q]) by simp [strs]] at ho7); (conv => whnf)) | ((refine (rmkdir_any ht7 hA f.1 hpl).mono ?_; rintro _ H9 hd9; obtain rfl := hd9.code; have hx9 : Ext H H9 := hx7.but hd9.only (Nat.le_refl _); have ht9 := hd9.tree; have hz9 := hd9.only.size; have ho9 := ho7.keep hd9.only (fun p hp e => by have := (ho7.block p hp).1; omega); have hq9 := hq7.keep hd9.only (fun p hp => ⟨(ho7.block p hp).2, fun e => by have := (ho7.block p hp).1; omega⟩); clear hd9); (conv => whnf)) | (((with_reducible refine Vc.DrawH.held [0, 1, 2, 3, 4, 5, 6, 7, 8, 9, 10, 11, 12, 13, 14, 15, 16, 17, 18, 19, 20, 21, 22, 23, 24, 25, 26] [(20, [17])] mixed (by decide +kernel) ?_)); (conv => whnf)) | (refine Vc.stp ?_; intros; (conv => whnf)) | (refine Vc.spl ?_ ?_ <;> (intro _; (conv => whnf))))))
          (exact ⟨⟨i + 1, _, seen ++ [q], a7, c7⟩, ⟨rfl, by rw [List.length_append]; rfl, trivial⟩, ⟨by show i + 1 ≤ n; omega, by show (seen ++ [q]).length ≤ i + 1; rw [List.length_append]; simp; omega, hof, ht9, hAs, by rw [List.length_append]; exact ho9, hq9, hx9⟩, by show n - (i + 1) < n - i; omega⟩)
    · have hfd : f.2.1 = false := by simpa using hfd
      rw [hfd] at hc1
      rw [if_neg (by rw [not_or]; exact ⟨hs, fun e => by rw [hfd] at e; cases e.1⟩)] at hof
      rw [hfd, if_neg (by simp)] at hst
      by_cases hc : ¬ (stepF A q f).2 = 0
      · rw [if_pos hc] at hof
        rw [hof]
        rw [hst] at hc ⊢
        have hc' : ¬ ((writeF A f.1 f.2.2).2 : Int) = 0 := by omega
        ((conv => whnf); repeat (any_goals (first | ((refine IdxA.file hrow7 hn i f (by omega) hf ?_; intro bl ol al cl hrl hcl; have he0 := hcl 0 _ rfl; have he1 := hcl 1 _ rfl; have he2 := hcl 2 _ rfl); (conv => whnf)) | ((refine IdxA.file hrow6 hn i f (by omega) hf ?_; intro bj oj aj cj hrj hcj; have hd0 := hcj 0 _ rfl; have hd1 := hcj 1 _ rfl; have hd2 := hcj 2 _ rfl); (conv => whnf)) | ((rename_i Hp zp bp xp; have hlow := (fun p hp => ((ho6.ext xp).block p hp).1 : ∀ p, sa = some p → H1.size ≤ p.block); refine NextH.push1q (Q := isStr) bp (ho6.ext xp) (by omega) (by omega) (hq6.ext ho6 xp) strs_isStr trivial rfl ⟨_, rfl, fun _ h => by cases h⟩ rfl rfl rfl rfl rfl rfl rfl (by simp [isStr, Value.cells]) ?_; intro a7 c7 H7 ho7 hz7 hw7 hq7; have ht7 := (ht6.ext xp).strs hw7 (fun ⟨p, hp, e⟩ => by have := hlow p hp; omega) (fun x ⟨p, hp, e⟩ o v hv => (hq6.ext ho6 xp).out p hp o v (by rw [e]; exact hv)); have hx7 : Ext H H7 := (hx36.trans xp).wr (ho6.ext xp) (by omega) hw7; have hrow7 := hr.ext hx7; rw [show strs seen ++ [Value.string (mkS q)] = strs (seen ++ [q]) by simp [strs]] at ho7); (conv => whnf)) | ((refine (rwrite_any ht7 hA f.1 f.2.2 hpl al _ cl hrl rfl (by omega)).mono ?_; rintro _ H9 hd9; obtain rfl := hd9.code; have hx9 : Ext H H9 := hx7.but hd9.only (Nat.le_refl _); have ht9 := hd9.tree; have hz9 := hd9.only.size; have ho9 := ho7.keep hd9.only (fun p hp e => by have := (ho7.block p hp).1; omega); have hq9 := hq7.keep hd9.only (fun p hp => ⟨(ho7.block p hp).2, fun e => by have := (ho7.block p hp).1; omega⟩); clear hd9); (conv => whnf)) | (((with_reducible refine Vc.DrawH.held [0, 1, 2, 3, 4, 5, 6, 7, 8, 9, 10, 11, 12, 13, 14, 15, 16, 17, 18, 19, 20, 21, 22, 23, 24, 25, 26] [(20, [17])] mixed (by decide +kernel) ?_)); (conv => whnf)) | (refine Vc.stp ?_; intros; (conv => whnf)) | (refine Vc.spl ?_ ?_ <;> (intro _; (conv => whnf))))))
        exact ⟨rfl, hx9⟩
      · have hc : (stepF A q f).2 = 0 := by omega
        rw [if_neg (by omega)] at hof
        rw [hst] at hc hof hAs
        have hc' : ((writeF A f.1 f.2.2).2 : Int) = 0 := by omega
        ((conv => whnf); repeat (any_goals (first | ((refine IdxA.file hrow7 hn i f (by omega) hf ?_; intro bl ol al cl hrl hcl; have he0 := hcl 0 _ rfl; have he1 := hcl 1 _ rfl; have he2 := hcl 2 _ rfl); (conv => whnf)) | ((refine IdxA.file hrow6 hn i f (by omega) hf ?_; intro bj oj aj cj hrj hcj; have hd0 := hcj 0 _ rfl; have hd1 := hcj 1 _ rfl; have hd2 := hcj 2 _ rfl); (conv => whnf)) | ((rename_i Hp zp bp xp; have hlow := (fun p hp => ((ho6.ext xp).block p hp).1 : ∀ p, sa = some p → H1.size ≤ p.block); refine NextH.push1q (Q := isStr) bp (ho6.ext xp) (by omega) (by omega) (hq6.ext ho6 xp) strs_isStr trivial rfl ⟨_, rfl, fun _ h => by cases h⟩ rfl rfl rfl rfl rfl rfl rfl (by simp [isStr, Value.cells]) ?_; intro a7 c7 H7 ho7 hz7 hw7 hq7; have ht7 := (ht6.ext xp).strs hw7 (fun ⟨p, hp, e⟩ => by have := hlow p hp; omega) (fun x ⟨p, hp, e⟩ o v hv => (hq6.ext ho6 xp).out p hp o v (by rw [e]; exact hv)); have hx7 : Ext H H7 := (hx36.trans xp).wr (ho6.ext xp) (by omega) hw7; have hrow7 := hr.ext hx7; rw [show strs seen ++ [Value.string (mkS q)] = strs (seen ++ [q]) by simp [strs]] at ho7); (conv => whnf)) | ((refine (rwrite_any ht7 hA f.1 f.2.2 hpl al _ cl hrl rfl (by omega)).mono ?_; rintro _ H9 hd9; obtain rfl := hd9.code; have hx9 : Ext H H9 := hx7.but hd9.only (Nat.le_refl _); have ht9 := hd9.tree; have hz9 := hd9.only.size; have ho9 := ho7.keep hd9.only (fun p hp e => by have := (ho7.block p hp).1; omega); have hq9 := hq7.keep hd9.only (fun p hp => ⟨(ho7.block p hp).2, fun e => by have := (ho7.block p hp).1; omega⟩); clear hd9); (conv => whnf)) | (((with_reducible refine Vc.DrawH.held [0, 1, 2, 3, 4, 5, 6, 7, 8, 9, 10, 11, 12, 13, 14, 15, 16, 17, 18, 19, 20, 21, 22, 23, 24, 25, 26] [(20, [17])] mixed (by decide +kernel) ?_)); (conv => whnf)) | (refine Vc.stp ?_; intros; (conv => whnf)) | (refine Vc.spl ?_ ?_ <;> (intro _; (conv => whnf))))))
        (exact ⟨⟨i + 1, _, seen ++ [q], a7, c7⟩, ⟨rfl, by rw [List.length_append]; rfl, trivial⟩, ⟨by show i + 1 ≤ n; omega, by show (seen ++ [q]).length ≤ i + 1; rw [List.length_append]; simp; omega, hof, ht9, hAs, by rw [List.length_append]; exact ho9, hq9, hx9⟩, by show n - (i + 1) < n - i; omega⟩)
  · obtain rfl : i = n := by omega
    rw [List.drop_of_length_le (by omega), ofGo] at hof
    rw [hof]
    ((conv => whnf); repeat (any_goals (first | (((with_reducible refine Vc.DrawH.held [0, 1, 2, 3, 4, 5, 6, 7, 8, 9, 10, 11, 12, 13, 14, 15, 16, 17, 18, 19, 20, 21, 22, 23, 24, 25, 26] [(20, [17])] mixed (by decide +kernel) ?_)); (conv => whnf)) | (refine Vc.stp ?_; intros; (conv => whnf)) | (refine Vc.spl ?_ ?_ <;> (intro _; (conv => whnf))))))
    exact ⟨⟨H.size, rfl, ht3, hA, Nat.le_refl _⟩, hx3⟩
end Go.Proofs.YtjcmcmogbkdjcaaGreatDoor
