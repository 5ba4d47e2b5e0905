import Derived.Test.YtihopeogaeinhaaGreatDoorPh
import Derived.Test.YtihopeogaeinhaaGreatDoorMp
set_option linter.unusedVariables false
set_option linter.unusedSimpArgs false
set_option maxRecDepth 100000
/- Paths, the code: a path's parts walked over, one by one. -/
namespace Go.Vc
theorem SemH.mkFunc {P : Program} {H : Heap} {fn : Fn} {first captured : Array Value} {K : Value → Heap → Prop} (hk : K (.func fn first captured) H) : SemH P (Instr.makeFunc fn first captured) H K :=
  ⟨fun w hw => ⟨_, w, rfl, Same.refl w, hw ▸ hk⟩⟩
theorem Own.low {H : Heap} {base : Nat} {e : TypeId} {size : Nat} {a : Option Addr} {n cap : Nat} {xs : List Value} (h : Own H base e size a n cap xs) {b : Nat} (hb : b < base) : ¬ ∃ p, a = some p ∧ p.block = b := fun ⟨p, hp, e⟩ => by have := (h.block p hp).1; omega
/-- one element more, of one cell: the base by its number -/
theorem NextH.push1b {P : Program} {H : Heap} {base : Nat} {t u e ty : TypeId} {i : TypeInfo} {z v : Value} {a : Option Addr} {n cap g : Nat} {xs : List Value} {cb : Array Bool} {K : Value → Heap → Prop}
    (hlit : Blk H g #[v] e) (hown : Own H base e 1 a n cap xs) (hx : base ≤ H.size) (hn : n ≤ 4000000000000) (ht : P.underlying t = some (.slice e)) (hu : ∃ d, P.underlying u = some d ∧ (∀ k, d ≠ .int k)) (hi : P.info? e = some i) (hz : i.zero = some z) (hzs : z.cells.size = i.size) (h1 : i.size = 1)
    (hby : Nat.ble i.bytes 16 = true) (h0 : Nat.ble 1 i.bytes = true) (hp : plainV v = true)
    (hk : ∀ a' cap' H', Own H' base e 1 a' (n + 1) cap' (xs ++ [v]) → H.size ≤ H'.size → Wr a H H' → K (.slice a' (n + 1) cap') H') :
    NextH P (builtin .append #[t, u] ty cb #[.slice a n cap, .slice (some ⟨g, 0, none⟩) 1 1]) H K := by
  have hby := Nat.le_of_ble_eq_true hby
  have h0 := Nat.le_of_ble_eq_true h0
  have hown : Own H base e i.size a n cap xs := by rw [h1]; exact hown
  have hk : ∀ a' cap' H', Own H' base e i.size a' (n + 1) cap' (xs ++ [v]) → H.size ≤ H'.size → Wr a H H' → K (.slice a' (n + 1) cap') H' := fun a' c' H' h => hk a' c' H' (by rw [h1] at h; exact h)
  refine NextH.append (m := 1) (news := [v]) ht hu hi hz hzs hown (Src.row (Blk.row (c := [v]) hlit) (by rw [h1]; rfl) (by simpa using hp)) (by unfold maxLen; omega) ?_ hx fun a' cap' H' h1 h2 _ => hk a' cap' H' h1 h2.size h2
  calc (n + 1) * i.bytes ≤ (n + 1) * 16 := Nat.mul_le_mul_left _ hby
    _ ≤ _ := by omega
end Go.Vc
namespace Go.Proofs.YtihopeogaeinhaaGreatDoor
open Go Go.Vc Go.Scr Go.Pth
theorem SplitSeq_any (s : Bs) (H : Heap) : CallH Tryz.prog 127 [.string (mkS s), .string (mkS [47])] H fun v H' => v = .func (.func 152) #[] #[.pointer (some ⟨H.size + 1, 0, none⟩), .pointer (some ⟨H.size, 0, none⟩), .pointer (some ⟨H.size + 2, 0, none⟩)] ∧
    Blk H' H.size #[.string (mkS s)] 9 ∧ Blk H' (H.size + 1) #[.string (mkS [47])] 9 ∧ Blk H' (H.size + 2) #[.int .i64 0] 3 ∧ H'.size = H.size + 3 ∧ Ext H H' := by
  have c : ∀ H, CallH Tryz.prog 144 [.string (mkS s), .string (mkS [47]), .int .i64 0] H fun v H' => v = .func (.func 152) #[] #[.pointer (some ⟨H.size + 1, 0, none⟩), .pointer (some ⟨H.size, 0, none⟩), .pointer (some ⟨H.size + 2, 0, none⟩)] ∧
      Blk H' H.size #[.string (mkS s)] 9 ∧ Blk H' (H.size + 1) #[.string (mkS [47])] 9 ∧ Blk H' (H.size + 2) #[.int .i64 0] 3 ∧ H'.size = H.size + 3 ∧ Ext H H' := by
    intro H
    refine Vc.CallH.body Tryz.func144 Tryz.call144 rfl (by decide +kernel) rfl ?_
    ((conv => whnf); repeat (any_goals (first | ((refine SemH.mkFunc ?_); (conv => whnf)) | (refine Vc.stp ?_; intros; (conv => whnf)) | (refine Vc.spl ?_ ?_ <;> (intro _; (conv => whnf))))))
    rename_i H1 z1 b1 x1 H2 z2 b2 x2 H3 z3 b3 x3
    have e1 : H1.size = H.size + 1 := z1
    have e2 : H2.size = H.size + 2 := by omega
    refine ⟨by rw [e1, e2]; rfl, (b1.ext x2).ext x3, by rw [← e1]; exact b2.ext x3, by rw [← e2]; exact b3, by omega, by (repeat (first | assumption | exact Vc.Ext.refl _ | ((with_reducible apply Vc.Ext.trans); (case k => assumption)) | ((with_reducible apply Vc.Ext.but); (case k => assumption); (case hb => omega))))⟩
  refine Vc.CallH.body Tryz.func127 Tryz.call127 rfl (by decide +kernel) rfl ?_
  ((conv => whnf); repeat (any_goals (first | ((refine (c _).mono ?_; rintro _ _ ⟨rfl, h⟩); (conv => whnf)) | (refine Vc.stp ?_; intros; (conv => whnf)) | (refine Vc.spl ?_ ?_ <;> (intro _; (conv => whnf))))))
  exact ⟨rfl, h⟩
/-- what a walk over parts holds between two of them -/
structure WK (base : Nat) (H : Heap) (b2 b4 b5 b6 bs D : Nat) (l : List Bs) (a : Option Addr) (cap : Nat) (rst : Bs) : Prop where
  own : Own H base 9 1 a l.length cap (strs l)
  k2 : Blk H b2 #[.slice a l.length cap] 46
  k4 : Blk H b4 #[.slice none 0 0] 46
  k5 : Blk H b5 #[.int .i64 0] 32
  k6 : Blk H b6 #[.int .i64 0] 3
  ks : Blk H bs #[.string (mkS rst)] 9
  kp : Blk H (bs + 1) #[.string (mkS [47])] 9
  kn : Blk H (bs + 2) #[.int .i64 0] 3
  de : DefO H D
  sz : base ≤ H.size
theorem WK.but {base : Nat} {H H' : Heap} {b2 b4 b5 b6 bs D g : Nat} {l : List Bs} {a : Option Addr} {cap : Nat} {rst : Bs} (h : WK base H b2 b4 b5 b6 bs D l a cap rst) (k : But g H H') (hg : g < base) (hne : g ≠ b2 ∧ g ≠ b4 ∧ g ≠ b5 ∧ g ≠ b6 ∧ g ≠ bs ∧ g ≠ bs + 1 ∧ g ≠ bs + 2 ∧ g ≠ D) : WK base H' b2 b4 b5 b6 bs D l a cap rst := by
  obtain ⟨n2, n4, n5, n6, ns, np, nn, nd⟩ := hne
  exact ⟨h.own.keep k fun p hp e => by have := (h.own.block p hp).1; omega, h.k2.but k (Ne.symm n2), h.k4.but k (Ne.symm n4), h.k5.but k (Ne.symm n5), h.k6.but k (Ne.symm n6), h.ks.but k (Ne.symm ns), h.kp.but k (Ne.symm np), h.kn.but k (Ne.symm nn), h.de.keep k (Ne.symm nd), Nat.le_trans h.sz k.size⟩
def WalkV (H' : Heap) (base : Nat) (v : Value) (r : List Bs × Nat) : Prop :=
  (r.2 = 0 ∧ ∃ a cap, v = .tuple #[.slice a r.1.length cap, .int .i64 0] ∧ Own H' base 9 1 a r.1.length cap (strs r.1)) ∨ (r.2 ≠ 0 ∧ v = .tuple #[.slice none 0 0, .int .i64 r.2])
theorem walk0_any (s : Bs) (hl : s.length ≤ 1000000) (hh : s.head? ≠ some 47) (H : Heap) : CallH Tryz.prog 117 [.slice none 0 0, .string (mkS s)] H fun v H' => WalkV H' H.size v (walkF 0 [] (splitF 47 s)) ∧ Ext H H' := by
  have hpre : ∀ H, CallH Tryz.prog 62 [.string (mkS s), .string (mkS [47])] H fun v H' => v = .bool false ∧ H = H' := fun H => (pre_any s [47] (by omega) (by decide) H).mono fun v H' ⟨h1, h2⟩ => ⟨by
    rw [h1]; congr 1
    cases s with
    | nil => rfl
    | cons c t => have : c ≠ 47 := fun e => hh (by rw [e]; rfl)
                  simp [List.isPrefixOf, this.symm], h2⟩
  refine Vc.CallH.bodyR Tryz.func117 Tryz.call117 rfl (by decide +kernel) (by decide +kernel) rfl ?_
  ((conv => whnf); repeat (any_goals (first | ((refine (hpre _).mono ?_; rintro _ _ ⟨rfl, rfl⟩); (conv => whnf)) | ((refine (SplitSeq_any s _).mono ?_; rintro _ H5 ⟨rfl, ks, kp, kn, hz5, hx5⟩); (conv => whnf)) | (refine Vc.stp ?_; intros; (conv => whnf)) | (refine Vc.spl ?_ ?_ <;> (intro _; (conv => whnf))))))
  rename_i H1 z1 b1 x1 H2 z2 b2 x2 H3 z3 b3 x3 Ha za ba xa Hb zb bb xb
  refine ⟨⟨152, _, rfl, Tryz.call152, ?_⟩⟩
  intro r H6 hrt hag hps hra hrb hz6 hx6 hde hlo
  have q1 : H1.size = H.size + 1 := z1
  have q2 : H2.size = H.size + 2 := by omega
  have q3 : H3.size = H.size + 3 := by omega
  have qb : Hb.size = H.size + 4 := by omega
  have q6 : H6.size = H.size + 9 := by omega
  have xH6 : Ext H H6 := by
    have : Ext H Hb := (((x1.trans x2).trans x3).trans xa).but xb (by omega)
    exact (this.trans hx5).trans hx6
  have hwk0 : WK H6.size H6 H.size H1.size H2.size H3.size Hb.size H5.size [] none 0 s := by
    have y5 : Ext Hb H6 := hx5.trans hx6
    exact ⟨Vc.Own.nil _ _ _ _, (((((b1.ext x2).ext x3).ext xa).but xb (by omega)).ext y5), ((((b2.ext x3).ext xa).but xb (by omega)).ext y5), (((b3.ext xa).but xb (by omega)).ext y5), bb.ext y5, ks.ext hx6, kp.ext hx6, kn.ext hx6, hde, Nat.le_refl _⟩
  let J : List Bs → Bs → Heap → Prop := fun pre rst Hx => ∃ (l : List Bs) (a : Option Addr) (cap : Nat), (∀ t, splitF 47 s = pre ++ t → walkF 0 [] (splitF 47 s) = walkF 0 l t) ∧ l.length ≤ pre.length ∧ WK H6.size Hx H.size H1.size H2.size H3.size Hb.size H5.size l a cap rst ∧ LoopO Hx (H5.size + 1) .ready none r ∧ Ext H Hx
  let Jx : List Bs → Heap → Prop := fun _ Hx => ∃ e : Nat, e ≠ 0 ∧ walkF 0 [] (splitF 47 s) = ([], e) ∧ Blk Hx H1.size #[.slice none 0 0] 46 ∧ Blk Hx H2.size #[.int .i64 e] 32 ∧ LoopO Hx (H5.size + 1) .done (some .ret) r ∧ DefO Hx H5.size ∧ Ext H Hx
  refine (seq1_any (H5.size + 1) s (Hb.size + 1) Hb.size (Hb.size + 2) J Jx H6 (by omega) ?_ ?_ ?_ ?_).mono ?_
  · rintro pre rst Hx ⟨l, a, cap, _, _, k, _⟩
    exact ⟨k.kp, k.ks, k.kn⟩
  · rintro pre rst rst' Hx Hx' ⟨l, a, cap, hw, hll, k, hl1, hxx⟩ hb hk
    exact ⟨l, a, cap, hw, hll, ⟨k.own.keep hb fun p hp e => by have := (k.own.block p hp).1; omega, k.k2.but hb (by omega), k.k4.but hb (by omega), k.k5.but hb (by omega), k.k6.but hb (by omega), hk, k.kp.but hb (by omega), k.kn.but hb (by omega), k.de.keep hb (by omega), Nat.le_trans k.sz hb.size⟩, hl1.keep hb (by omega), hxx.but hb (by omega)⟩
  · rintro pre x rst Hr ⟨l, a, cap, hw, hll, k, hl1, hxr⟩ ⟨t, ht⟩
    refine YieldH.round hl1 hrt hag hps hra hrb (by decide) (by decide +kernel) (by decide +kernel) (by decide +kernel) (by decide +kernel) ?_
    ((conv => whnf); repeat (any_goals (first | (refine Vc.stp ?_; intros; (conv => whnf)) | (refine Vc.spl ?_ ?_ <;> (intro _; (conv => whnf))))))
    refine ⟨rfl, hl1, fun Hy hzy hly hxy => ?_⟩
    have ky := k.but hxy (by omega) (by omega)
    have hxy' : Ext H Hy := hxr.but hxy (by omega)
    have hzr := k.sz
    have hxl : x.length ≤ s.length := by
      have := glen_split s
      rw [ht, glen_append, show glen (x :: t) = x.length + 1 + glen t by simp [glen]] at this; omega
    have hpl : pre.length ≤ s.length := by
      have := glen_split s
      have h1 : ∀ m : List Bs, m.length ≤ glen m := fun m => by
        induction m with
        | nil => exact Nat.zero_le _
        | cons y m ih => rw [show glen (y :: m) = y.length + 1 + glen m by simp [glen], List.length_cons]; omega
      have := h1 pre
      rw [ht, glen_append, show glen (x :: t) = x.length + 1 + glen t by simp [glen]] at *; omega
    have hnor : ∀ Hz l' a' cap', (∀ t', walkF 0 l (x :: t') = walkF 0 l' t') → l'.length ≤ pre.length + 1 → WK H6.size Hz H.size H1.size H2.size H3.size Hb.size H5.size l' a' cap' rst → LoopO Hz (H5.size + 1) .busy none r → Ext H Hz →
        (LoopO Hz (H5.size + 1) .busy none r ∧ ∀ H4, H4.size = Hz.size → LoopO H4 (H5.size + 1) .ready none r → But (H5.size + 1) Hz H4 → (Value.bool true = .bool true ∧ J (pre ++ [x]) rst H4) ∨ (Value.bool true = .bool false ∧ Jx (pre ++ [x]) H4)) :=
      fun Hz l' a' cap' g1 g2 g3 g4 g5 => ⟨g4, fun H4 f1 f2 f3 => .inl ⟨rfl, l', a', cap', fun t' e => by rw [hw (x :: t') (by rw [e]; simp), g1], by simpa using g2, g3.but f3 (by omega) (by omega), f2, g5.but f3 (by omega)⟩⟩
    have hret : ∀ Hz (e : Nat), e ≠ 0 → walkF 0 l (x :: t) = ([], e) → Blk Hz H1.size #[.slice none 0 0] 46 → Blk Hz H2.size #[.int .i64 e] 32 → LoopO Hz (H5.size + 1) .busy none r → DefO Hz H5.size → Ext H Hz →
        (LoopO Hz (H5.size + 1) .busy none r ∧ ∀ H4, H4.size = Hz.size → LoopO H4 (H5.size + 1) .done (some .ret) r → But (H5.size + 1) Hz H4 → (Value.bool false = .bool true ∧ J (pre ++ [x]) rst H4) ∨ (Value.bool false = .bool false ∧ Jx (pre ++ [x]) H4)) :=
      fun Hz e g0 g1 g2 g3 g4 g5 g6 => ⟨g4, fun H4 f1 f2 f3 => .inr ⟨rfl, e, g0, by rw [hw (x :: t) ht, g1], g2.but f3 (by omega), g3.but f3 (by omega), f2, g5.keep f3 (by omega), g6.but f3 (by omega)⟩⟩
    have k2 := ky.k2
    have k4 := ky.k4
    have k5 := ky.k5
    have k6 := ky.k6
    have hzy2 := ky.sz
    have q0 : ((mkS x).toList == (⟨#[]⟩ : ByteArray).toList) = decide (x = []) := by rw [show (⟨#[]⟩ : ByteArray) = mkS [] from rfl, str_beq]; simp [mkS_inj]
    have q1' : ((mkS x).toList == (⟨#[46]⟩ : ByteArray).toList) = decide (x = [46]) := by rw [show (⟨#[46]⟩ : ByteArray) = mkS [46] from rfl, str_beq]; simp [mkS_inj]
    have q2' : ((mkS x).toList == (⟨#[46, 46]⟩ : ByteArray).toList) = decide (x = [46, 46]) := by rw [show (⟨#[46, 46]⟩ : ByteArray) = mkS [46, 46] from rfl, str_beq]; simp [mkS_inj]
    by_cases h0 : x = [] ∨ x = [46]
    · have hst : ∀ t', walkF 0 l (x :: t') = walkF 0 l t' := fun t' => by rw [walkF, if_pos h0]
      by_cases h00 : x = []
      · rw [decide_eq_true h00] at q0
        ((conv => whnf); repeat (any_goals (first | (refine Vc.stp ?_; intros; (conv => whnf)) | (refine Vc.spl ?_ ?_ <;> (intro _; (conv => whnf))))))
        exact hnor Hy l a cap hst (by omega) ky hly hxy'
      · rw [decide_eq_false h00] at q0
        rw [decide_eq_true (h0.resolve_left h00)] at q1'
        ((conv => whnf); repeat (any_goals (first | (refine Vc.stp ?_; intros; (conv => whnf)) | (refine Vc.spl ?_ ?_ <;> (intro _; (conv => whnf))))))
        exact hnor Hy l a cap hst (by omega) ky hly hxy'
    rw [not_or] at h0
    rw [decide_eq_false h0.1] at q0
    rw [decide_eq_false h0.2] at q1'
    have hst0 : ∀ t', walkF 0 l (x :: t') = if x = [46, 46] then (if l.length ≤ 0 then ([], 51) else walkF 0 l.dropLast t') else if badP x = true then ([], 50) else walkF 0 (l ++ [x]) t' := fun t' => by rw [walkF, if_neg (fun h => h.elim h0.1 h0.2)]
    by_cases h2 : x = [46, 46]
    · rw [decide_eq_true h2] at q2'
      by_cases hl0 : l.length = 0
      · ((conv => whnf); repeat (any_goals (first | (refine Vc.stp ?_; intros; (conv => whnf)) | (refine Vc.spl ?_ ?_ <;> (intro _; (conv => whnf))))))
        rename_i Hc zc bc xc Hd zd bd xd
        exact hret Hd 51 (by omega) (by rw [hst0, if_pos h2, if_pos (by omega)]) (bc.but xd (by omega)) bd ((hly.keep xc (by omega)).keep xd (by omega)) ((ky.de.keep xc (by omega)).keep xd (by omega)) ((hxy'.but xc (by omega)).but xd (by omega))
      · ((conv => whnf); repeat (any_goals (first | ((refine BndH.nat (l.length - 1) (by omega) (by have := ky.own.cap_le; omega) ?_); (conv => whnf)) | (refine Vc.stp ?_; intros; (conv => whnf)) | (refine Vc.spl ?_ ?_ <;> (intro _; (conv => whnf))))))
        rename_i Hd zd bd xd
        have hdl : l.dropLast.length = l.length - 1 := List.length_dropLast
        have hcut := ky.own.cut (l.length - 1) (by omega)
        have ecut : (strs l).take ((l.length - 1) * 1) = strs l.dropLast := by rw [Nat.mul_one, List.dropLast_eq_take]; simp [strs, List.map_take]
        rw [ecut, ← hdl] at hcut
        rw [← hdl] at bd
        exact hnor Hd l.dropLast a cap (fun t' => by rw [hst0, if_pos h2, if_neg (by omega)]) (by omega)
          ⟨hcut.keep xd (fun p hp e => by have := (ky.own.block p hp).1; omega), bd, k4.but xd (by omega), k5.but xd (by omega), k6.but xd (by omega), ky.ks.but xd (by omega), ky.kp.but xd (by omega), ky.kn.but xd (by omega), ky.de.keep xd (by omega), by omega⟩
          (hly.keep xd (by omega)) (hxy'.but xd (by omega))
    rw [decide_eq_false h2] at q2'
    have hpt := fun H => part_any x (by omega) H
    by_cases hb : badP x = true
    · rw [if_pos hb] at hpt
      ((conv => whnf); repeat (any_goals (first | ((refine (hpt _).mono ?_; rintro _ _ ⟨rfl, rfl⟩); (conv => whnf)) | (refine Vc.stp ?_; intros; (conv => whnf)) | (refine Vc.spl ?_ ?_ <;> (intro _; (conv => whnf))))))
      rename_i Hc zc bc xc Hd zd bd xd
      exact hret Hd 50 (by omega) (by rw [hst0, if_neg h2, if_pos hb]) (bc.but xd (by omega)) bd ((hly.keep xc (by omega)).keep xd (by omega)) ((ky.de.keep xc (by omega)).keep xd (by omega)) ((hxy'.but xc (by omega)).but xd (by omega))
    · rw [if_neg hb] at hpt
      ((conv => whnf); repeat (any_goals (first | ((refine (hpt _).mono ?_; rintro _ _ ⟨rfl, rfl⟩); (conv => whnf)) | ((refine NextH.push1b (by assumption) (ky.own.ext (by assumption)) (by omega) (by omega) rfl ⟨_, rfl, fun _ h => by cases h⟩ rfl rfl rfl rfl rfl rfl rfl ?_; intro a5 c5 H9 ho9 hz9 hw9; have kk2 := (k2.ext (by assumption)).keep hw9 (ky.own.low (by omega))); (conv => whnf)) | (refine Vc.stp ?_; intros; (conv => whnf)) | (refine Vc.spl ?_ ?_ <;> (intro _; (conv => whnf))))))
      rename_i Hc zc bc xc Hd zd bd xd
      have lo9 : ∀ b, b < H6.size → ¬ ∃ p, a = some p ∧ p.block = b := fun b hb => ky.own.low hb
      have hln : (l ++ [x]).length = l.length + 1 := by simp
      have ho10 := own_snocS rfl ho9
      rw [← hln] at bd
      exact hnor Hd (l ++ [x]) a5 c5 (fun t' => by rw [hst0, if_neg h2, if_neg hb]) (by omega)
        ⟨ho10.keep xd (fun p hp e => by have := (ho9.block p hp).1; omega), bd, ((k4.ext xc).keep hw9 (lo9 _ (by omega))).but xd (by omega), ((k5.ext xc).keep hw9 (lo9 _ (by omega))).but xd (by omega), ((k6.ext xc).keep hw9 (lo9 _ (by omega))).but xd (by omega),
          ((ky.ks.ext xc).keep hw9 (lo9 _ (by omega))).but xd (by omega), ((ky.kp.ext xc).keep hw9 (lo9 _ (by omega))).but xd (by omega), ((ky.kn.ext xc).keep hw9 (lo9 _ (by omega))).but xd (by omega), ((ky.de.ext xc).keep hw9 (lo9 _ (by omega))).keep xd (by omega), by omega⟩
        (((hly.ext xc).keep hw9 (lo9 _ (by omega))).keep xd (by omega)) (((hxy'.trans xc).wr (ky.own.ext xc) (by omega) hw9).but xd (by omega))
  · exact ⟨[], none, 0, fun t ht => by rw [ht]; rfl, Nat.zero_le _, hwk0, hlo, xH6⟩
  · rintro v H7 (⟨rst, l, a, cap, hw, hll, k, hl1, hx7⟩ | ⟨pre, hpn, hpp, e, he, hw, k4, k5, hl1, hde7, hx7⟩)
    · refine ⟨.ready, none, by simp, hl1, fun H8 hz8 hx8 => ?_⟩
      have kz := k.sz
      have k8 := k.but hx8 (by omega) (by omega)
      have k2 := k8.k2
      have k4 := k8.k4
      have k5 := k8.k5
      have kd := k8.de
      have hw := hw [] (by simp)
      have hx8' : Ext H H8 := hx7.but hx8 (by omega)
      have hlb : l.length ≤ s.length + 1 := by
        have h1 : ∀ m : List Bs, m.length ≤ glen m := fun m => by
          induction m with
          | nil => exact Nat.zero_le _
          | cons y m ih => rw [show glen (y :: m) = y.length + 1 + glen m by simp [glen], List.length_cons]; omega
        have := h1 (splitF 47 s)
        rw [glen_split] at this; omega
      by_cases hdp : 12 < l.length
      · rw [walkF, if_pos hdp] at hw
        ((conv => whnf); repeat (any_goals (first | (refine Vc.stp ?_; intros; (conv => whnf)) | (refine Vc.spl ?_ ?_ <;> (intro _; (conv => whnf))))))
        rename_i Hc zc bc xc Hd zd bd xd
        refine ⟨(kd.keep xc (by omega)).keep xd (by omega), fun Hf hzf hxf => ?_⟩
        have f4 := (bc.but xd (by omega)).but hxf (by omega)
        have f5 := bd.but hxf (by omega)
        ((conv => whnf); repeat (any_goals (first | (refine Vc.stp ?_; intros; (conv => whnf)) | (refine Vc.spl ?_ ?_ <;> (intro _; (conv => whnf))))))
        exact ⟨.inr ⟨by rw [hw]; simp, by rw [hw]; rfl⟩, ((hx8'.but xc (by omega)).but xd (by omega)).but hxf (by omega)⟩
      · rw [walkF, if_neg hdp] at hw
        ((conv => whnf); repeat (any_goals (first | (refine Vc.stp ?_; intros; (conv => whnf)) | (refine Vc.spl ?_ ?_ <;> (intro _; (conv => whnf))))))
        rename_i Hc zc bc xc Hd zd bd xd
        refine ⟨(kd.keep xc (by omega)).keep xd (by omega), fun Hf hzf hxf => ?_⟩
        have f4 := (bc.but xd (by omega)).but hxf (by omega)
        have f5 := bd.but hxf (by omega)
        ((conv => whnf); repeat (any_goals (first | (refine Vc.stp ?_; intros; (conv => whnf)) | (refine Vc.spl ?_ ?_ <;> (intro _; (conv => whnf))))))
        exact ⟨.inl ⟨by rw [hw], a, cap, by rw [hw]; rfl, by rw [hw]; exact ((((k8.own.keep xc fun p hp e => by have := (k8.own.block p hp).1; omega).keep xd fun p hp e => by have := (k8.own.block p hp).1; omega).keep hxf fun p hp e => by have := (k8.own.block p hp).1; omega).base (by omega))⟩, ((hx8'.but xc (by omega)).but xd (by omega)).but hxf (by omega)⟩
    · refine ⟨.done, some .ret, by simp, hl1, fun H8 hz8 hx8 => ?_⟩
      have g4 := k4.but hx8 (by omega)
      have g5 := k5.but hx8 (by omega)
      ((conv => whnf); repeat (any_goals (first | (refine Vc.stp ?_; intros; (conv => whnf)) | (refine Vc.spl ?_ ?_ <;> (intro _; (conv => whnf))))))
      refine ⟨hde7.keep hx8 (by omega), fun Hf hzf hxf => ?_⟩
      have f4 := g4.but hxf (by omega)
      have f5 := g5.but hxf (by omega)
      ((conv => whnf); repeat (any_goals (first | (refine Vc.stp ?_; intros; (conv => whnf)) | (refine Vc.spl ?_ ?_ <;> (intro _; (conv => whnf))))))
      exact ⟨.inr ⟨by rw [hw]; exact he, by rw [hw]; rfl⟩, (hx7.but hx8 (by omega)).but hxf (by omega)⟩
end Go.Proofs.YtihopeogaeinhaaGreatDoor
