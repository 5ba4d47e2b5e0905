import Derived.Test.YtihopeogaeinhaaGreatDoorKe
import Derived.Test.YtihopeogaeinhaaGreatDoorKb
set_option linter.unusedVariables false
set_option linter.unusedSimpArgs false
set_option maxRecDepth 100000
/- Lists of files held against one another. -/
namespace Go.Proofs.YtihopeogaeinhaaGreatDoor
open Go Go.Vc Go.Scr Go.Pth Go.Tre
theorem hfiles_any (A B : Tr) (a b : Option Addr) (n m ca cb : Nat) (H : Heap) (hra : RowF H a A) (hrb : RowF H b B) (hn : A.length = n) (hm : B.length = m) (hl : n ≤ 1000000000) (hl2 : m ≤ 1000000000) : CallH Tryz.prog 24 [.slice a n ca, .slice b m cb] H fun v H' => v = .bool (decide (A = B)) ∧ H = H' := by
  refine Vc.CallH.body Tryz.func24 Tryz.call24 rfl (by decide +kernel) rfl ?_
  by_cases hnm : n = m
  · subst hnm
    ((conv => whnf); repeat (any_goals (first | (refine Vc.stp ?_; intros; (conv => whnf)))))
    refine LoopH.intro (fun (i : Nat) => [(5, .int .i64 i)]) (fun i H' => H = H' ∧ i ≤ n ∧ (A = B ↔ A.drop i = B.drop i)) (fun i => n - i) 0 ⟨rfl, trivial⟩ ⟨rfl, Nat.zero_le _, Iff.rfl⟩ ?_
    rintro i _ ⟨rfl, hi, hinv⟩
    by_cases hlt : i < n
    · obtain ⟨x, hx⟩ : ∃ x, A[i]? = some x := ⟨_, List.getElem?_eq_getElem (by omega)⟩
      obtain ⟨y, hy⟩ : ∃ y, B[i]? = some y := ⟨_, List.getElem?_eq_getElem (by omega)⟩
      have hda : A.drop i = x :: A.drop (i + 1) := by
        rw [List.drop_eq_getElem_cons (by omega)]; congr 1; rw [List.getElem?_eq_getElem (by omega)] at hx; exact Option.some.inj hx
      have hdb : B.drop i = y :: B.drop (i + 1) := by
        rw [List.drop_eq_getElem_cons (by omega)]; congr 1; rw [List.getElem?_eq_getElem (by omega)] at hy; exact Option.some.inj hy
      rw [hda, hdb, List.cons.injEq] at hinv
      obtain ⟨xp, xd, xb⟩ := x
      obtain ⟨yp, yd, yb⟩ := y
      have e1 : ((mkS xp).toList == (mkS yp).toList) = decide (xp = yp) := by rw [str_beq]; simp [mkS_inj]
      have e3 : ((mkS xb).toList == (mkS yb).toList) = decide (xb = yb) := by rw [str_beq]; simp [mkS_inj]
      have no : ¬ (xp = yp ∧ xd = yd ∧ xb = yb) → (Vc.one [Value.bool false] = Value.bool (decide (A = B))) := by
        intro h
        rw [decide_eq_false (fun e => h (by have := (hinv.1 e).1; simpa using this))]; rfl
      by_cases hp : xp = yp
      · rw [decide_eq_true hp] at e1
        by_cases hd : xd = yd
        · have e2 : (xd == yd) = true := by rw [hd]; exact beq_self_eq_true _
          by_cases hb : xb = yb
          · rw [decide_eq_true hb] at e3
            ((conv => whnf); repeat (any_goals (first | ((refine IdxA.file hra hn i (xp, xd, xb) rfl hx ?_; intro bi oi ai ci hri hci; have hc0 := hci 0 _ rfl; have hc1 := hci 1 _ rfl; have hc2 := hci 2 _ rfl); (conv => whnf)) | ((refine IdxA.file hrb hm i (yp, yd, yb) rfl hy ?_; intro bj oj aj cj hrj hcj; have hd0 := hcj 0 _ rfl; have hd1 := hcj 1 _ rfl; have hd2 := hcj 2 _ rfl); (conv => whnf)) | ((refine to_string' rfl rfl rfl hri rfl ?_); (conv => whnf)) | ((refine to_string' rfl rfl rfl hrj rfl ?_); (conv => whnf)) | (refine Vc.stp ?_; intros; (conv => whnf)))))
            exact ⟨i + 1, ⟨rfl, trivial⟩, ⟨rfl, hlt, hinv.trans ⟨fun h => h.2, fun h => ⟨by rw [hp, hd, hb], h⟩⟩⟩, by omega⟩
          · rw [decide_eq_false hb] at e3
            ((conv => whnf); repeat (any_goals (first | ((refine IdxA.file hra hn i (xp, xd, xb) rfl hx ?_; intro bi oi ai ci hri hci; have hc0 := hci 0 _ rfl; have hc1 := hci 1 _ rfl; have hc2 := hci 2 _ rfl); (conv => whnf)) | ((refine IdxA.file hrb hm i (yp, yd, yb) rfl hy ?_; intro bj oj aj cj hrj hcj; have hd0 := hcj 0 _ rfl; have hd1 := hcj 1 _ rfl; have hd2 := hcj 2 _ rfl); (conv => whnf)) | ((refine to_string' rfl rfl rfl hri rfl ?_); (conv => whnf)) | ((refine to_string' rfl rfl rfl hrj rfl ?_); (conv => whnf)) | (refine Vc.stp ?_; intros; (conv => whnf)))))
            exact ⟨no (fun h => hb h.2.2), rfl⟩
        · have e2 : (xd == yd) = false := by simpa using hd
          ((conv => whnf); repeat (any_goals (first | ((refine IdxA.file hra hn i (xp, xd, xb) rfl hx ?_; intro bi oi ai ci hri hci; have hc0 := hci 0 _ rfl; have hc1 := hci 1 _ rfl; have hc2 := hci 2 _ rfl); (conv => whnf)) | ((refine IdxA.file hrb hm i (yp, yd, yb) rfl hy ?_; intro bj oj aj cj hrj hcj; have hd0 := hcj 0 _ rfl; have hd1 := hcj 1 _ rfl; have hd2 := hcj 2 _ rfl); (conv => whnf)) | ((refine to_string' rfl rfl rfl hri rfl ?_); (conv => whnf)) | ((refine to_string' rfl rfl rfl hrj rfl ?_); (conv => whnf)) | (refine Vc.stp ?_; intros; (conv => whnf)))))
          exact ⟨no (fun h => hd h.2.1), rfl⟩
      · rw [decide_eq_false hp] at e1
        ((conv => whnf); repeat (any_goals (first | ((refine IdxA.file hra hn i (xp, xd, xb) rfl hx ?_; intro bi oi ai ci hri hci; have hc0 := hci 0 _ rfl; have hc1 := hci 1 _ rfl; have hc2 := hci 2 _ rfl); (conv => whnf)) | ((refine IdxA.file hrb hm i (yp, yd, yb) rfl hy ?_; intro bj oj aj cj hrj hcj; have hd0 := hcj 0 _ rfl; have hd1 := hcj 1 _ rfl; have hd2 := hcj 2 _ rfl); (conv => whnf)) | ((refine to_string' rfl rfl rfl hri rfl ?_); (conv => whnf)) | ((refine to_string' rfl rfl rfl hrj rfl ?_); (conv => whnf)) | (refine Vc.stp ?_; intros; (conv => whnf)))))
        exact ⟨no (fun h => hp h.1), rfl⟩
    · rw [List.drop_of_length_le (by omega), List.drop_of_length_le (by omega)] at hinv
      ((conv => whnf); repeat (any_goals (first | (refine Vc.stp ?_; intros; (conv => whnf)) | (refine Vc.spl ?_ ?_ <;> (intro _; (conv => whnf))))))
      exact ⟨by rw [decide_eq_true (hinv.2 rfl)]; rfl, rfl⟩
  · ((conv => whnf); repeat (any_goals (first | (refine Vc.stp ?_; intros; (conv => whnf)) | (refine Vc.spl ?_ ?_ <;> (intro _; (conv => whnf))))))
    exact ⟨by rw [decide_eq_false (fun e => hnm (by rw [← hn, ← hm, e]))]; rfl, rfl⟩
end Go.Proofs.YtihopeogaeinhaaGreatDoor
/- Law 8's known: the chapter's example. -/
namespace Go.Proofs.YtihopeogaeinhaaGreatDoor
open Go Go.Vc Go.Scr Go.Pth Go.Tre
def kn1 : Tr := [([97], true, []), ([97, 47, 98], false, [120])]
def kn2 : Tr := [([99], true, []), ([99, 47, 98], false, [120])]
theorem kn_w1 : writeF [] [97, 47, 98] [120] = (kn1, 0) := by decide
theorem kn_w2 : writeF kn1 [97] [] = (kn1, 54) := by decide
theorem kn_r : Tre.twoF kn1 [97] [99] false = (kn2, 0) := by decide
theorem kn_b : readF kn2 [99, 47, 98] = ([120], 0) := by decide
theorem kn_e1 : existsF kn2 [99] = true := by decide
theorem kn_e2 : existsF kn2 [97] = false := by decide
theorem kn_s : sizeT kn2 = 1 := by decide
/-- []byte of a literal: the row that was laid gets the run-time's mark behind its last cell -/
theorem marked {P : Program} {t e : TypeId} {A H : Heap} {g n cap : Nat} {c : Array Value} {ty : TypeId} {K : Value → Heap → Prop} (ht : P.underlying t = some (.slice e)) (he : P.underlying e = some (.int .u8)) (hb : Blk H g c ty) (hx : Ext A H) (hg : A.size ≤ g)
    (hk : ∀ H', H'.size = H.size → Row H' (some ⟨g, 0, none⟩) c.toList → Ext A H' → K (.slice (some ⟨g, 0, none⟩) n cap) H') : SemH P (convert t t (.slice (some ⟨g, 0, none⟩) n cap)) H K := by
  obtain ⟨fr, h1, _⟩ := hb.out
  refine ⟨fun w hw => ⟨_, w.freeze ⟨g, c.size, none⟩ 1, ?_, ⟨rfl, rfl, rfl⟩, hk _ ?_ ?_ ?_⟩⟩
  · have hsh : w.shape? g = some (ty, c.size) := by
      unfold World.shape?
      rw [hw, h1]
    simp [convert, underlying_of ht, underlying_of he, markStringish, hsh]
  · subst hw; simp [World.freeze]
  · subst hw
    refine ⟨.inr ⟨g, 0, rfl, fun j v hv => ?_⟩⟩
    have hgt := hb.lt
    simp only [hcell, World.freeze, Nat.zero_add]
    simp [Array.getElem?_modify, h1]
    simpa using hv
  · subst hw
    refine ⟨by simpa [World.freeze] using hx.size, fun b h _ => ?_⟩
    rw [← hx.same b h id]
    have hne : g ≠ b := by omega
    simp [World.freeze, Array.getElem?_modify, hne]
theorem kn_w3 : writeF [] [99, 47, 98] [120] = (kn2, 0) := by decide
theorem kn_ok1 : Okay kn1 := by have := Okay.nil.writeF [97, 47, 98] [120]; rwa [kn_w1] at this
theorem kn_ok2 : Okay kn2 := by have := Okay.nil.writeF [99, 47, 98] [120]; rwa [kn_w3] at this
/-- what an own tree's writes leave alone -/
theorem ext_t {A B C : Heap} {b mb : Nat} (h : Ext A B) (k : ButT b mb B C) (hb : A.size ≤ b) (hm : A.size ≤ mb) : Ext A C := Only.trans h k fun x hx e => by rcases e with rfl | rfl <;> omega
theorem known_any (H : Heap) : CallH Tryz.prog 27 [] H fun v H' => v = .bool true ∧ Ext H H' := by
  refine Vc.CallH.body Tryz.func27 Tryz.call27 rfl (by decide +kernel) rfl ?_
  ((conv => whnf); repeat (any_goals (first | ((refine (new_any _).mono ?_; rintro _ H1 ⟨⟨b, mb, rfl, ht1, hb1, hm1⟩, hx1⟩; have hz1 := hx1.size); (conv => whnf)) | ((refine marked rfl rfl (by assumption) (by assumption) (by omega) ?_; intro H2 hz2 hr2 hx2); (conv => whnf)) | ((refine (write_any (ht1.ext hx2) Okay.nil [97, 47, 98] [120] _ _ _ hr2 rfl (by decide)).mono ?_; rintro v3 H3 hd3; rw [kn_w1] at hd3; (have hv3 : v3 = .int .i64 0 := hd3.code); subst hv3; have ht3 := hd3.tree; have hx3 := ext_t (hx1.trans hx2) hd3.only hb1 hm1; have hz3 := hx3.size; clear hd3); (conv => whnf)) | ((refine (write_any ht3 kn_ok1 [97] [] _ _ _ (Row.nil _ _) rfl (by decide)).mono ?_; rintro v4 H4 hd4; rw [kn_w2] at hd4; (have hv4 : v4 = .int .i64 54 := hd4.code); subst hv4; have ht4 := hd4.tree; have hx4 := ext_t hx3 hd4.only hb1 hm1; have hz4 := hx4.size; clear hd4); (conv => whnf)) | ((refine (rename_any ht4 kn_ok1 [97] [99]).mono ?_; rintro v5 H5 hd5; rw [kn_r] at hd5; (have hv5 : v5 = .int .i64 0 := hd5.code); subst hv5; have ht5 := hd5.tree; have hx5 := ext_t hx4 hd5.only hb1 hm1; have hz5 := hx5.size; clear hd5); (conv => whnf)) | ((refine (read_any ht5 kn_ok2 [99, 47, 98]).mono ?_; rintro _ H6 ⟨⟨a6, c6, rfl, ho6⟩, hx6⟩; rw [kn_b] at ho6 ⊢; have hr6 := ho6.row; have hz6 := hx6.size); (conv => whnf)) | ((refine (files_any (ht5.ext hx6) kn_ok2.sorted (by decide) (fun k n h => Nat.le_trans (kn_ok2.file k n h).1 (by decide))).mono ?_; rintro _ H7 ⟨⟨a7, c7, rfl, hc7, hr7, _⟩, hx7⟩; have hz7 := hx7.size; have ht7 := (ht5.ext hx6).ext hx7); (conv => whnf)) | ((refine to_string' (l := [120]) rfl rfl rfl (hr6.ext hx7) rfl ?_); (conv => whnf)) | ((refine IdxA.file hr7 rfl 0 ([99], true, []) rfl rfl ?_; intro bi oi ai ci hri hci; have hc0 := hci 0 _ rfl; have hc1 := hci 1 _ rfl); (conv => whnf)) | ((refine (exists_any ht7 [99]).mono ?_; rintro _ H8 ⟨rfl, hx8⟩; rw [kn_e1]; have hz8 := hx8.size); (conv => whnf)) | ((refine (exists_any (ht7.ext hx8) [97]).mono ?_; rintro _ H9 ⟨rfl, hx9⟩; rw [kn_e2]; have hz9 := hx9.size); (conv => whnf)) | ((refine (size_any ((ht7.ext hx8).ext hx9)).mono ?_; rintro _ _ ⟨rfl, rfl⟩; rw [kn_s]); (conv => whnf)) | (refine Vc.stp ?_; intros; (conv => whnf)))))
  exact ⟨rfl, (((hx5.trans hx6).trans hx7).trans hx8).trans hx9⟩
end Go.Proofs.YtihopeogaeinhaaGreatDoor
/- Law 8's names of files. -/
namespace Go.Proofs.YtihopeogaeinhaaGreatDoor
open Go Go.Vc Go.Scr Go.Pth Go.Tre
def dirs : List Bs := [[], [97, 47], [98, 47, 99, 47], [98, 47, 100, 47]]
def nameD (k : Nat) : Bs := dirs.getD (k / 64) []
def nameF (k : Nat) : Bs := nameD k ++ [102] ++ [UInt8.ofNat (97 + k % 26)]
theorem QuoH.u8 {a c : Int} {K : Int → Prop} (h : (0 ≤ a ∧ a < 256) ∧ 0 < c) (hk : K (a / c)) : QuoH .u8 a c K := by
  refine ⟨by omega, ?_⟩
  rw [Int.tdiv_eq_ediv_of_nonneg h.1.1]
  have h1 : 0 ≤ a / c := Int.ediv_nonneg h.1.1 (by omega)
  have h2 : a / c ≤ a := Int.ediv_le_self _ h.1.1
  rw [Go.Vc.wrap_small .u8 rfl h1 (by simp [IntKind.bits]; omega)]
  exact hk
theorem name_any (k : Nat) (hk : k < 256) (H : Heap) : CallH Tryz.prog 30 [.int .u8 k] H fun v H' => v = .string (mkS (nameF k)) ∧ Ext H H' := by
  have hw : dirs[k / 64]? = some (nameD k) := by
    have : k / 64 = 0 ∨ k / 64 = 1 ∨ k / 64 = 2 ∨ k / 64 = 3 := by omega
    rcases this with e | e | e | e <;> simp [nameD, dirs, e]
  have hq : (k : Int) / 64 = ((k / 64 : Nat) : Int) := by omega
  have hlen : (nameD k).length ≤ 4 := by
    have : k / 64 = 0 ∨ k / 64 = 1 ∨ k / 64 = 2 ∨ k / 64 = 3 := by omega
    rcases this with e | e | e | e <;> simp [nameD, dirs, e]
  obtain ⟨u, hu, huk⟩ : ∃ u : UInt8, 97 + (k : Int) % 26 = (u.toNat : Int) ∧ u = UInt8.ofNat (97 + k % 26) := ⟨_, by rw [UInt8.toNat_ofNat']; omega, rfl⟩
  have hsz : (mkS (nameD k)).size = (nameD k).length := by simp [mkS, ByteArray.size]
  unfold nameF
  rw [← huk]
  refine Vc.CallH.body Tryz.func30 Tryz.call30 rfl (by decide +kernel) rfl ?_
  ((conv => whnf); repeat (any_goals (first | ((refine QuoH.u8 (by omega) ?_; rw [hq]); (conv => whnf)) | ((refine RemH.pos (by omega) ?_); (conv => whnf)) | ((refine ArithH.u8 (by omega) ?_; rw [hu]); (conv => whnf)) | ((refine IdxA.strv (ws := dirs) (Blk.row (by assumption)) rfl (k / 64) (nameD k) rfl hw ?_; intro b o hbo hao hc0); (conv => whnf)) | ((refine NeedH.mk ⟨by (show (mkS (nameD k)).size + 1 ≤ _; rw [hsz]; omega), ?_⟩); (conv => whnf)) | ((refine NeedH.mk ⟨by (rw [ByteArray.size_append, hsz]; show _ + 1 + 1 ≤ _; omega), ?_⟩); (conv => whnf)) | ((refine to_string' (l := [u]) rfl rfl rfl (Blk.row (c := strV [u]) (by assumption)) rfl ?_); (conv => whnf)) | (refine Vc.stp ?_; intros; (conv => whnf)))))
  rename_i H1 z1 b1 x1 H2 z2 b2 x2
  exact ⟨by rw [← mkS_app, ← mkS_app]; rfl, x1.trans x2⟩
end Go.Proofs.YtihopeogaeinhaaGreatDoor
/- TreeOrder: the walk. -/
namespace Go.Proofs.YtihopeogaeinhaaGreatDoor
open Go Go.Vc Go.Scr Go.Pth Go.Tre
def wrF (A : Tr) (k : UInt8) : Tr := (writeF A (nameF k.toNat) (nameF k.toNat)).1
def ordF (l : List UInt8) : Tr := l.foldl wrF []
def rotF (l : List UInt8) (t : Nat) : List UInt8 := (List.range l.length).map fun i => l.getD ((i + t) % l.length) 0
theorem ordF_okay (l : List UInt8) : Okay (ordF l) := by
  have : ∀ (l : List UInt8) (A : Tr), Okay A → Okay (l.foldl wrF A) := by
    intro l
    induction l with
    | nil => intro A h; exact h
    | cons x l ih => intro A h; exact ih _ (h.writeF _ _)
  exact this l [] .nil
theorem ordF_snoc (l : List UInt8) (x : UInt8) : ordF (l ++ [x]) = wrF (ordF l) x := by simp [ordF, List.foldl_append]
structure Good (l : List UInt8) : Prop where out : ∀ i x, l[i]? = some x → (writeF (ordF (l.take i)) (nameF x.toNat) (nameF x.toNat)).2 = 0
theorem byteN {H : Heap} {a : Option Addr} {l : List UInt8} {n : Nat} {i : Int} {K : Addr → Prop} (h : Row H a (strV l)) (hn : l.length = n) (j : Nat) (x : UInt8) (hi : i = j) (hx : l[j]? = some x)
    (hk : ∀ b o, hcell H ⟨b, o + j, none⟩ = some (.int .u8 x.toNat) → K ⟨b, o + j, none⟩) : IdxA a n 1 i K := by
  have hj := (List.getElem?_eq_some_iff.1 hx).1
  subst hi
  refine Go.Vc.IdxA.bytes h hn (by omega) (by omega) fun b o _ hc => ?_
  have e : l.getD j 0 = x := by simp [List.getD, hx]
  simp only [Int.toNat_natCast] at hc ⊢
  rw [e] at hc
  exact hk b o hc
theorem name_bytes {P : Program} {H : Heap} {s d e : TypeId} {l : Bs} {K : Value → Heap → Prop} (hs : P.underlying s = some .string) (hd : P.underlying d = some (.slice e)) (he : P.underlying e = some (.int .u8)) (hm : l.length ≤ 1000000)
    (hk : ∀ a cap H', Row H' a (strV l) → Ext H H' → K (.slice a l.length cap) H') : SemH P (convert s d (.string (mkS l))) H K := by
  refine Go.Vc.SemH.of_string hs hd he (by rw [mkS_size]; simp [maxLen]; omega) fun cap H' ho hx => ?_
  exact hk _ cap H' (by simpa [mkS] using ho.row) hx
theorem nameF_len (k : Nat) : (nameF k).length ≤ 10 := by
  have : k / 64 = 0 ∨ k / 64 = 1 ∨ k / 64 = 2 ∨ 3 ≤ k / 64 := by omega
  unfold nameF nameD
  rcases this with e | e | e | e
  · simp [dirs, e]
  · simp [dirs, e]
  · simp [dirs, e]
  · by_cases h : k / 64 = 3
    · simp [dirs, h]
    · have : dirs.getD (k / 64) [] = [] := by rw [List.getD_eq_getElem?_getD, List.getElem?_eq_none (by simp [dirs]; omega)]; rfl
      rw [this]; simp
theorem order_walk (l : List UInt8) (t : Nat) (ht : t < 256) (a : Option Addr) (n cap : Nat) (H : Heap) (hr : Row H a (strV l)) (hn : l.length = n) (hl : n ≤ 12) (g1 : Good l) (g2 : Good (rotF l t)) (ge : ordF l = ordF (rotF l t)) :
    CallH Tryz.prog 8 [.slice a n cap, .int .u8 t] H fun v H' => v = .bool true ∧ Ext H H' := by
  refine Vc.CallH.body Tryz.func8 Tryz.call8 rfl (by decide +kernel) rfl ?_
  have c1 := fun H => known_any H
  ((conv => whnf); repeat (any_goals (first | ((refine (known_any _).mono ?_; rintro _ H1 ⟨rfl, hx1⟩; have hz1 := hx1.size); (conv => whnf)) | ((refine (new_any _).mono ?_; rintro _ H2 ⟨⟨b, mb, rfl, ht2, hb2, hm2⟩, hx2⟩; have hz2 := hx2.size); (conv => whnf)) | (((with_reducible refine Vc.DrawH.held [0, 1, 2, 3, 4, 6, 7, 8, 9, 5, 10, 11, 12, 13, 14, 15, 16, 17, 18, 19, 21, 22, 23, 24, 20, 25, 26, 27, 28, 29] [(5, [9]), (20, [24])] mixed (by decide +kernel) ?_)); (conv => whnf)) | (refine Vc.stp ?_; intros; (conv => whnf)))))
  rename_i A2 xa ba ma ta hba hma hza
  have hx12 : Ext H1 H2 := xa.trans hx2
  refine LoopH.intro (fun (i : Nat) => [(7, .int .i64 i)]) (fun i H' => i ≤ n ∧ TreeO no H' ba ma (ordF (l.take i)) ∧ TreeO no H' b mb (ordF ((rotF l t).take i)) ∧ Ext H1 H') (fun i => n - i) 0 ⟨rfl, trivial⟩ ⟨Nat.zero_le _, ta.ext hx2, ht2, hx12⟩ ?_
  have hne : ba ≠ b := by have := (ta.blk).lt; omega
  have hnm : ma ≠ mb := by have := (ta.map).lt; omega
  have hrl : (rotF l t).length = n := by simp [rotF, hn]
  rintro i H3 ⟨hi, hta, htb, hx3⟩
  have hz3 := hx3.size
  by_cases hlt : i < n
  · obtain ⟨x, hx⟩ : ∃ x, l[i]? = some x := ⟨_, List.getElem?_eq_getElem (by omega)⟩
    obtain ⟨y, hy⟩ : ∃ y, l[(i + t) % n]? = some y := ⟨_, List.getElem?_eq_getElem (by rw [hn]; exact Nat.mod_lt _ (by omega))⟩
    have hy2 : (rotF l t)[i]? = some y := by
      simp [rotF, hn, hlt, hy]
    have hm : ((i : Int) + (t : Int)) % (n : Int) = (((i + t) % n : Nat) : Int) := by rw [Int.natCast_emod, Int.natCast_add]
    have k1 := g1.out i x hx
    have k2 := g2.out i y hy2
    have hxl := x.toNat_lt
    have hyl := y.toNat_lt
    have hlx := nameF_len x.toNat
    have hly := nameF_len y.toNat
    have e1 : ordF (l.take (i + 1)) = wrF (ordF (l.take i)) x := by rw [← ordF_snoc, List.take_add_one, hx]; rfl
    have e2 : ordF ((rotF l t).take (i + 1)) = wrF (ordF ((rotF l t).take i)) y := by rw [← ordF_snoc, List.take_add_one, hy2]; rfl
    ((conv => whnf); repeat (any_goals (first | ((refine byteN (hr.ext (hx1.trans (by (repeat (first | assumption | exact Vc.Ext.refl _ | ((with_reducible apply Vc.Ext.trans); (case k => assumption)) | ((with_reducible apply Vc.Ext.but); (case k => assumption); (case hb => omega))))))) hn i x rfl hx ?_; intro bo oo hcx); (conv => whnf)) | ((refine byteN (hr.ext (hx1.trans (by (repeat (first | assumption | exact Vc.Ext.refl _ | ((with_reducible apply Vc.Ext.trans); (case k => assumption)) | ((with_reducible apply Vc.Ext.but); (case k => assumption); (case hb => omega))))))) hn ((i + t) % n) y rfl hy ?_; intro bp op hcy); (conv => whnf)) | ((refine RemH.pos (by omega) ?_; rw [hm]); (conv => whnf)) | ((refine (name_any x.toNat hxl _).mono ?_; rintro _ H4 ⟨rfl, hx4⟩; have hz4 := hx4.size); (conv => whnf)) | ((refine (name_any y.toNat hyl _).mono ?_; rintro _ H8 ⟨rfl, hx8⟩; have hz8 := hx8.size); (conv => whnf)) | ((refine name_bytes (l := nameF x.toNat) rfl rfl rfl (by omega) ?_; intro a5 c5 H5 hr5 hx5; have hz5 := hx5.size); (conv => whnf)) | ((refine name_bytes (l := nameF y.toNat) rfl rfl rfl (by omega) ?_; intro a9 c9 H9 hr9 hx9; have hz9 := hx9.size); (conv => whnf)) | ((refine (write_any (hta.ext (by (repeat (first | assumption | exact Vc.Ext.refl _ | ((with_reducible apply Vc.Ext.trans); (case k => assumption)) | ((with_reducible apply Vc.Ext.but); (case k => assumption); (case hb => omega)))))) (ordF_okay _) (nameF x.toNat) (nameF x.toNat) _ _ _ hr5 rfl (by omega)).mono ?_; rintro v6 H6 hd6; have hta6 := hd6.tree; (have hv6 := hd6.code); rw [k1] at hv6; subst hv6; have htb6 := (htb.ext (show Ext H3 H5 by (repeat (first | assumption | exact Vc.Ext.refl _ | ((with_reducible apply Vc.Ext.trans); (case k => assumption)) | ((with_reducible apply Vc.Ext.but); (case k => assumption); (case hb => omega)))))).other (hta.ext (show Ext H3 H5 by (repeat (first | assumption | exact Vc.Ext.refl _ | ((with_reducible apply Vc.Ext.trans); (case k => assumption)) | ((with_reducible apply Vc.Ext.but); (case k => assumption); (case hb => omega)))))) hne.symm hnm.symm hd6.only; have hx6 := ext_t (show Ext H1 H5 by (repeat (first | assumption | exact Vc.Ext.refl _ | ((with_reducible apply Vc.Ext.trans); (case k => assumption)) | ((with_reducible apply Vc.Ext.but); (case k => assumption); (case hb => omega))))) hd6.only hba hma; have hz6 := hx6.size; clear hd6); (conv => whnf)) | ((refine (write_any (htb6.ext (by (repeat (first | assumption | exact Vc.Ext.refl _ | ((with_reducible apply Vc.Ext.trans); (case k => assumption)) | ((with_reducible apply Vc.Ext.but); (case k => assumption); (case hb => omega)))))) (ordF_okay _) (nameF y.toNat) (nameF y.toNat) _ _ _ hr9 rfl (by omega)).mono ?_; rintro v10 H10 hd10; have htb10 := hd10.tree; (have hv10 := hd10.code); rw [k2] at hv10; subst hv10; have hta10 := (hta6.ext (show Ext H6 H9 by (repeat (first | assumption | exact Vc.Ext.refl _ | ((with_reducible apply Vc.Ext.trans); (case k => assumption)) | ((with_reducible apply Vc.Ext.but); (case k => assumption); (case hb => omega)))))).other (htb6.ext (show Ext H6 H9 by (repeat (first | assumption | exact Vc.Ext.refl _ | ((with_reducible apply Vc.Ext.trans); (case k => assumption)) | ((with_reducible apply Vc.Ext.but); (case k => assumption); (case hb => omega)))))) hne hnm hd10.only; have hx10 := ext_t (show Ext H1 H9 by (repeat (first | assumption | exact Vc.Ext.refl _ | ((with_reducible apply Vc.Ext.trans); (case k => assumption)) | ((with_reducible apply Vc.Ext.but); (case k => assumption); (case hb => omega))))) hd10.only (by omega) (by omega); have hz10 := hx10.size; clear hd10); (conv => whnf)) | (((with_reducible refine Vc.DrawH.held [0, 1, 2, 3, 4, 6, 7, 8, 9, 5, 10, 11, 12, 13, 14, 15, 16, 17, 18, 19, 21, 22, 23, 24, 20, 25, 26, 27, 28, 29] [(5, [9]), (20, [24])] mixed (by decide +kernel) ?_)); (conv => whnf)) | (refine Vc.stp ?_; intros; (conv => whnf)))))
    exact ⟨i + 1, ⟨rfl, trivial⟩, ⟨by omega, by rw [e1]; exact hta10, by rw [e2]; exact htb10, hx10⟩, by omega⟩
  · rw [List.take_of_length_le (by omega)] at hta htb
    rw [← ge] at htb
    have ok := ordF_okay l
    have okf : ∀ k n, mget (ordF l) k = some n → n.2.length ≤ 1000000000 := fun k n h => Nat.le_trans (ok.file k n h).1 (by decide)
    have okc := ok.count
    ((conv => whnf); repeat (any_goals (first | ((refine (files_any (hta.ext (by (repeat (first | assumption | exact Vc.Ext.refl _ | ((with_reducible apply Vc.Ext.trans); (case k => assumption)) | ((with_reducible apply Vc.Ext.but); (case k => assumption); (case hb => omega)))))) ok.sorted (by omega) okf).mono ?_; rintro _ H4 ⟨⟨a4, c4, rfl, hc4, hr4, _⟩, hx4⟩; have hz4 := hx4.size); (conv => whnf)) | ((refine (files_any (htb.ext (by (repeat (first | assumption | exact Vc.Ext.refl _ | ((with_reducible apply Vc.Ext.trans); (case k => assumption)) | ((with_reducible apply Vc.Ext.but); (case k => assumption); (case hb => omega)))))) ok.sorted (by omega) okf).mono ?_; rintro _ H5 ⟨⟨a5, c5, rfl, hc5, hr5, _⟩, hx5⟩; have hz5 := hx5.size); (conv => whnf)) | ((refine (hfiles_any (ordF l) (ordF l) a4 a5 _ _ c4 c5 _ (hr4.ext (by (repeat (first | assumption | exact Vc.Ext.refl _ | ((with_reducible apply Vc.Ext.trans); (case k => assumption)) | ((with_reducible apply Vc.Ext.but); (case k => assumption); (case hb => omega)))))) (hr5.ext (by (repeat (first | assumption | exact Vc.Ext.refl _ | ((with_reducible apply Vc.Ext.trans); (case k => assumption)) | ((with_reducible apply Vc.Ext.but); (case k => assumption); (case hb => omega)))))) rfl rfl (by omega) (by omega)).mono ?_; rintro _ _ ⟨rfl, rfl⟩; rw [decide_eq_true rfl]); (conv => whnf)) | ((refine (size_any (hta.ext (by (repeat (first | assumption | exact Vc.Ext.refl _ | ((with_reducible apply Vc.Ext.trans); (case k => assumption)) | ((with_reducible apply Vc.Ext.but); (case k => assumption); (case hb => omega))))))).mono ?_; rintro _ _ ⟨rfl, rfl⟩); (conv => whnf)) | ((refine (size_any (htb.ext (by (repeat (first | assumption | exact Vc.Ext.refl _ | ((with_reducible apply Vc.Ext.trans); (case k => assumption)) | ((with_reducible apply Vc.Ext.but); (case k => assumption); (case hb => omega))))))).mono ?_; rintro _ _ ⟨rfl, rfl⟩); (conv => whnf)) | (((with_reducible refine Vc.DrawH.held [0, 1, 2, 3, 4, 6, 7, 8, 9, 5, 10, 11, 12, 13, 14, 15, 16, 17, 18, 19, 21, 22, 23, 24, 20, 25, 26, 27, 28, 29] [(5, [9]), (20, [24])] mixed (by decide +kernel) ?_)); (conv => whnf)) | (refine Vc.stp ?_; intros; (conv => whnf)))))
    exact ⟨by simp [Vc.one], hx1.trans ((hx3.trans hx4).trans hx5)⟩
theorem order_long (l : List UInt8) (t : Nat) (a : Option Addr) (n cap : Nat) (H : Heap) (hl : ¬ n ≤ 12) :
    CallH Tryz.prog 8 [.slice a n cap, .int .u8 t] H fun v H' => v = .bool true ∧ Ext H H' := by
  refine Vc.CallH.body Tryz.func8 Tryz.call8 rfl (by decide +kernel) rfl ?_
  ((conv => whnf); repeat (any_goals (first | ((refine (known_any _).mono ?_; rintro _ H1 ⟨rfl, hx1⟩; have hz1 := hx1.size); (conv => whnf)) | (((with_reducible refine Vc.DrawH.held [0, 1, 2, 3, 4, 6, 7, 8, 9, 5, 10, 11, 12, 13, 14, 15, 16, 17, 18, 19, 21, 22, 23, 24, 20, 25, 26, 27, 28, 29] [(5, [9]), (20, [24])] mixed (by decide +kernel) ?_)); (conv => whnf)) | (refine Vc.stp ?_; intros; (conv => whnf)) | (refine Vc.spl ?_ ?_ <;> (intro _; (conv => whnf))))))
  exact ⟨rfl, hx1⟩
end Go.Proofs.YtihopeogaeinhaaGreatDoor
/- TreeOrder: the plain law. -/
namespace Go.Proofs.YtihopeogaeinhaaGreatDoor
open Go Go.Vc Go.Scr Go.Pth Go.Tre
def dirL : List Bs := [[97], [98], [98, 47, 99], [98, 47, 100]]
def finB (k : Nat) : Bool := decide (cleanF (nameF k) = (nameF k, 0)) && ((pars (nameF k)).all fun d => dirL.contains d) && !dirL.contains (nameF k) && !(nameF k == []) && decide ((pars (nameF k)).length ≤ 2)
theorem fin_all : (List.range 256).all finB = true := by kernel_rfl
structure Fin (k : Nat) : Prop where
  clean : cleanF (nameF k) = (nameF k, 0)
  pars : ∀ d ∈ pars (nameF k), d ∈ dirL
  no : nameF k ∉ dirL
  ne : nameF k ≠ []
  few : (Go.Pth.pars (nameF k)).length ≤ 2
theorem fin_at (k : Nat) (hk : k < 256) : Fin k := by
  have := List.all_eq_true.1 fin_all k (List.mem_range.2 hk)
  simp only [finB, Bool.and_eq_true, decide_eq_true_eq, List.all_eq_true, Bool.not_eq_true', List.contains_iff_mem] at this
  obtain ⟨⟨⟨⟨h1, h2⟩, h3⟩, h4⟩, h5⟩ := this
  exact ⟨h1, h2, by simpa using h3, by simpa using h4, h5⟩
def nmL (l : List UInt8) : List Bs := l.map fun x => nameF x.toNat
def dpL (l : List UInt8) : List Bs := l.flatMap fun x => pars (nameF x.toNat)
def spF (l : List UInt8) (q : Bs) : Option Tre.Node := if q ∈ nmL l then some (false, q) else if q ∈ dpL l then some (true, []) else none
theorem dp_dir {l : List UInt8} {q : Bs} (h : q ∈ dpL l) : q ∈ dirL := by
  obtain ⟨x, _, h⟩ := List.mem_flatMap.1 h
  exact (fin_at x.toNat x.toNat_lt).pars q h
theorem nm_no {l : List UInt8} {q : Bs} (h : q ∈ dirL) : q ∉ nmL l := by
  intro h2
  obtain ⟨x, _, h2⟩ := List.mem_map.1 h2
  subst h2
  exact (fin_at x.toNat x.toNat_lt).no h
theorem makeF_le : ∀ (l : List Txt) {A : Tr}, Sorted A → (makeF A l).length ≤ A.length + l.length := by
  intro l
  induction l with
  | nil => intro A h; exact Nat.le_refl _
  | cons d l ih =>
    intro A h
    have h1 := ih (putF_sorted h d (true, []))
    have h2 := putF_len h d (true, [])
    show (makeF (putF A d (true, [])) l).length ≤ _
    simp only [List.length_cons]
    split at h2 <;> omega
structure Ch (A : Tr) (l : List UInt8) : Prop where
  get : ∀ q, mget A q = spF l q
  sorted : Sorted A
  len : A.length ≤ 3 * l.length
  size : sizeT A ≤ 10 * l.length
theorem ch_step {A : Tr} {l : List UInt8} (h : Ch A l) (hl : l.length ≤ 12) (x : UInt8) : (writeF A (nameF x.toNat) (nameF x.toNat)).2 = 0 ∧ Ch (wrF A x) (l ++ [x]) := by
  have f := fin_at x.toNat x.toNat_lt
  have hlen := nameF_len x.toNat
  have hnl : nmL (l ++ [x]) = nmL l ++ [nameF x.toNat] := by simp [nmL]
  have hdl : dpL (l ++ [x]) = dpL l ++ pars (nameF x.toNat) := by simp [dpL]
  unfold wrF
  generalize hp : nameF x.toNat = p at *
  have f1 : cleanF p = (p, 0) := hp ▸ f.clean
  have f2 : ∀ d ∈ pars p, d ∈ dirL := hp ▸ f.pars
  have f3 : p ∉ dirL := hp ▸ f.no
  have f4 : p ≠ [] := hp ▸ f.ne
  have f5 : (pars p).length ≤ 2 := hp ▸ f.few
  have hdir : dirF A p = false := by
    unfold dirF
    rw [h.get p]
    have : (p == []) = false := by simpa using f4
    rw [this]
    unfold spF
    by_cases h1 : p ∈ nmL l
    · simp [h1]
    · by_cases h2 : p ∈ dpL l
      · exact absurd (dp_dir h2) f3
      · simp [h1, h2]
  have hfile : fileF A p = false := by
    unfold fileF
    rw [List.any_eq_false]
    intro d hd
    rw [h.get d]
    unfold spF
    rw [if_neg (nm_no (f2 d hd))]
    by_cases h2 : d ∈ dpL l <;> simp [h2]
  have hlk : (lackF A p).length ≤ 2 := Nat.le_trans (List.length_filter_le _ _) f5
  have hmore : moreF A p ≤ 3 := by unfold moreF; split <;> omega
  have h1 := h.len
  have h2 := h.size
  have hw : writeF A p p = (putF (makeF A (lackF A p)) p (false, p), 0) := by
    unfold writeF
    rw [f1, if_pos rfl]
    show writeP A p p = _
    unfold writeP
    rw [if_neg (by rw [hdir, hfile]; simp), if_neg (by omega)]
  rw [hw]
  have hlm : ∀ d, d ∈ lackF A p ↔ d ∈ pars p ∧ mget A d = none := by
    intro d
    unfold lackF
    rw [List.mem_filter, Option.isNone_iff_eq_none]
  have hms := makeF_sorted (lackF A p) h.sorted
  refine ⟨rfl, ⟨fun q => ?_, putF_sorted hms _ _, ?_, ?_⟩⟩
  · show mget (putF (makeF A (lackF A p)) p (false, p)) q = _
    rw [mget_putF, mget_makeF]
    unfold spF
    rw [hnl, hdl]
    by_cases hq : q = p
    · subst hq; simp
    · rw [if_neg hq]
      have g := h.get q
      unfold spF at g
      by_cases n1 : q ∈ nmL l
      · rw [if_pos n1] at g
        rw [if_neg (fun k => by rw [((hlm q).1 k).2] at g; cases g), g, if_pos (by simp [n1])]
      · rw [if_neg n1] at g
        have n2 : q ∉ nmL l ++ [p] := by simp [n1, hq]
        rw [if_neg n2]
        by_cases d1 : q ∈ lackF A p
        · rw [if_pos d1, if_pos (by simp [((hlm q).1 d1).1])]
        · rw [if_neg d1, g]
          by_cases d2 : q ∈ dpL l
          · rw [if_pos d2, if_pos (by simp [d2])]
          · rw [if_neg d2] at g ⊢
            rw [if_neg]
            intro k
            rcases List.mem_append.1 k with k | k
            · exact d2 k
            · exact d1 ((hlm q).2 ⟨k, g⟩)
  · have a1 := makeF_le (lackF A p) h.sorted
    have a2 := putF_len hms p (false, p)
    show (putF (makeF A (lackF A p)) p (false, p)).length ≤ _
    simp only [List.length_append, List.length_singleton]
    split at a2 <;> omega
  · have a1 : sizeT (makeF A (lackF A p)) = sizeT A := makeF_size h.sorted fun d hd => ((hlm d).1 hd).2
    have a2 := putF_size hms p (false, p)
    show sizeT (putF (makeF A (lackF A p)) p (false, p)) ≤ _
    simp only [List.length_append, List.length_singleton] at a2 ⊢
    omega
theorem ch_all (l : List UInt8) (hl : l.length ≤ 12) : ∀ i ≤ l.length, Ch (ordF (l.take i)) (l.take i) := by
  intro i
  induction i with
  | zero => intro _; exact ⟨fun q => by simp [ordF, spF, nmL, dpL, mget], List.Pairwise.nil, by simp [ordF], by simp [ordF, sizeT]⟩
  | succ i ih =>
    intro hi
    have h := ih (by omega)
    have hx : l[i]? = some l[i] := List.getElem?_eq_getElem (by omega)
    rw [List.take_add_one, hx]
    show Ch (ordF (l.take i ++ [l[i]])) (l.take i ++ [l[i]])
    rw [ordF_snoc]
    exact (ch_step h (by rw [List.length_take]; omega) _).2
theorem good_all (l : List UInt8) (hl : l.length ≤ 12) : Good l := ⟨fun i x hx => by
  have hi := (List.getElem?_eq_some_iff.1 hx).1
  exact (ch_step (ch_all l hl i (by omega)) (by rw [List.length_take]; omega) x).1⟩
theorem rot_mem (l : List UInt8) (t : Nat) (x : UInt8) : x ∈ rotF l t ↔ x ∈ l := by
  unfold rotF
  rw [List.mem_map]
  constructor
  · rintro ⟨i, hi, rfl⟩
    have hi := List.mem_range.1 hi
    have hm : (i + t) % l.length < l.length := Nat.mod_lt _ (by omega)
    rw [List.getD_eq_getElem?_getD, List.getElem?_eq_getElem hm]
    exact List.getElem_mem hm
  · intro hx
    obtain ⟨j, hj, rfl⟩ := List.mem_iff_getElem.1 hx
    have ht : t % l.length < l.length := Nat.mod_lt _ (by omega)
    refine ⟨(j + (l.length - t % l.length)) % l.length, List.mem_range.2 (Nat.mod_lt _ (by omega)), ?_⟩
    have e : ((j + (l.length - t % l.length)) % l.length + t) % l.length = j := by
      have h := Nat.mod_add_div t l.length
      have e1 : j + (l.length - t % l.length) + t = j + (l.length * (t / l.length) + l.length) := by omega
      rw [Nat.mod_add_mod, e1, ← Nat.mul_succ, Nat.add_mul_mod_self_left, Nat.mod_eq_of_lt hj]
    rw [e, List.getD_eq_getElem?_getD, List.getElem?_eq_getElem hj]; rfl
theorem ord_same (l : List UInt8) (t : Nat) (hl : l.length ≤ 12) : ordF l = ordF (rotF l t) := by
  have hr : (rotF l t).length = l.length := by simp [rotF]
  have a := ch_all l hl l.length (Nat.le_refl _)
  have b := ch_all (rotF l t) (by omega) (rotF l t).length (Nat.le_refl _)
  rw [List.take_length] at a b
  refine sorted_ext a.sorted b.sorted fun q => ?_
  rw [a.get, b.get]
  have m1 : q ∈ nmL (rotF l t) ↔ q ∈ nmL l := by simp only [nmL, List.mem_map, rot_mem]
  have m2 : q ∈ dpL (rotF l t) ↔ q ∈ dpL l := by simp only [dpL, List.mem_flatMap, rot_mem]
  unfold spF
  simp only [m1, m2]
end Go.Proofs.YtihopeogaeinhaaGreatDoor
/- Files of one content under the names of numbers: what stands where. -/
namespace Go.Proofs.YtihopeogaeinhaaGreatDoor
open Go Go.Vc Go.Scr Go.Pth Go.Tre
def spC (c : Bs) (l : List UInt8) (q : Bs) : Option Tre.Node := if q ∈ nmL l then some (false, c) else if q ∈ dpL l then some (true, []) else none
structure ChC (c : Bs) (A : Tr) (l : List UInt8) : Prop where
  get : ∀ q, mget A q = spC c l q
  sorted : Sorted A
  len : A.length ≤ 3 * l.length
  size : sizeT A ≤ 10 * l.length
theorem chc_step {c : Bs} {A : Tr} {l : List UInt8} (hc : c.length ≤ 10) (h : ChC c A l) (hl : l.length ≤ 15) (x : UInt8) : (writeF A (nameF x.toNat) c).2 = 0 ∧ ChC c (writeF A (nameF x.toNat) c).1 (l ++ [x]) := by
  have f := fin_at x.toNat x.toNat_lt
  have hlen := nameF_len x.toNat
  have hnl : nmL (l ++ [x]) = nmL l ++ [nameF x.toNat] := by simp [nmL]
  have hdl : dpL (l ++ [x]) = dpL l ++ pars (nameF x.toNat) := by simp [dpL]
  generalize hp : nameF x.toNat = p at *
  have f1 : cleanF p = (p, 0) := hp ▸ f.clean
  have f2 : ∀ d ∈ pars p, d ∈ dirL := hp ▸ f.pars
  have f3 : p ∉ dirL := hp ▸ f.no
  have f4 : p ≠ [] := hp ▸ f.ne
  have f5 : (pars p).length ≤ 2 := hp ▸ f.few
  have hdir : dirF A p = false := by
    unfold dirF
    rw [h.get p]
    have : (p == []) = false := by simpa using f4
    rw [this]
    unfold spC
    by_cases h1 : p ∈ nmL l
    · simp [h1]
    · by_cases h2 : p ∈ dpL l
      · exact absurd (dp_dir h2) f3
      · simp [h1, h2]
  have hfile : fileF A p = false := by
    unfold fileF
    rw [List.any_eq_false]
    intro d hd
    rw [h.get d]
    unfold spC
    rw [if_neg (nm_no (f2 d hd))]
    by_cases h2 : d ∈ dpL l <;> simp [h2]
  have hlk : (lackF A p).length ≤ 2 := Nat.le_trans (List.length_filter_le _ _) f5
  have hmore : moreF A p ≤ 3 := by unfold moreF; split <;> omega
  have h1 := h.len
  have h2 := h.size
  have hw : writeF A p c = (putF (makeF A (lackF A p)) p (false, c), 0) := by
    unfold writeF
    rw [f1, if_pos rfl]
    show writeP A p c = _
    unfold writeP
    rw [if_neg (by rw [hdir, hfile]; simp), if_neg (by omega)]
  rw [hw]
  have hlm : ∀ d, d ∈ lackF A p ↔ d ∈ pars p ∧ mget A d = none := by
    intro d
    unfold lackF
    rw [List.mem_filter, Option.isNone_iff_eq_none]
  have hms := makeF_sorted (lackF A p) h.sorted
  refine ⟨rfl, ⟨fun q => ?_, putF_sorted hms _ _, ?_, ?_⟩⟩
  · show mget (putF (makeF A (lackF A p)) p (false, c)) q = _
    rw [mget_putF, mget_makeF]
    unfold spC
    rw [hnl, hdl]
    by_cases hq : q = p
    · subst hq; simp
    · rw [if_neg hq]
      have g := h.get q
      unfold spC at g
      by_cases n1 : q ∈ nmL l
      · rw [if_pos n1] at g
        rw [if_neg (fun k => by rw [((hlm q).1 k).2] at g; cases g), g, if_pos (by simp [n1])]
      · rw [if_neg n1] at g
        have n2 : q ∉ nmL l ++ [p] := by simp [n1, hq]
        rw [if_neg n2]
        by_cases d1 : q ∈ lackF A p
        · rw [if_pos d1, if_pos (by simp [((hlm q).1 d1).1])]
        · rw [if_neg d1, g]
          by_cases d2 : q ∈ dpL l
          · rw [if_pos d2, if_pos (by simp [d2])]
          · rw [if_neg d2] at g ⊢
            rw [if_neg]
            intro k
            rcases List.mem_append.1 k with k | k
            · exact d2 k
            · exact d1 ((hlm q).2 ⟨k, g⟩)
  · have a1 := makeF_le (lackF A p) h.sorted
    have a2 := putF_len hms p (false, c)
    show (putF (makeF A (lackF A p)) p (false, c)).length ≤ _
    simp only [List.length_append, List.length_singleton]
    split at a2 <;> omega
  · have a1 : sizeT (makeF A (lackF A p)) = sizeT A := makeF_size h.sorted fun d hd => ((hlm d).1 hd).2
    have a2 := putF_size hms p (false, c)
    show sizeT (putF (makeF A (lackF A p)) p (false, c)) ≤ _
    simp only [List.length_append, List.length_singleton] at a2 ⊢
    omega
def wrL (c : Bs) (l : List UInt8) : Tr := l.foldl (fun A k => (writeF A (nameF k.toNat) c).1) []
theorem wrL_snoc (c : Bs) (l : List UInt8) (x : UInt8) : wrL c (l ++ [x]) = (writeF (wrL c l) (nameF x.toNat) c).1 := by simp [wrL, List.foldl_append]
theorem wrL_okay (c : Bs) (l : List UInt8) : Okay (wrL c l) := by
  have : ∀ (l : List UInt8) (A : Tr), Okay A → Okay (l.foldl (fun A k => (writeF A (nameF k.toNat) c).1) A) := by
    intro l
    induction l with
    | nil => intro A h; exact h
    | cons x l ih => intro A h; exact ih _ (h.writeF _ _)
  exact this l [] .nil
theorem chc_all {c : Bs} (hc : c.length ≤ 10) (l : List UInt8) (hl : l.length ≤ 15) : ∀ i ≤ l.length, ChC c (wrL c (l.take i)) (l.take i) := by
  intro i
  induction i with
  | zero => intro _; exact ⟨fun q => by simp [wrL, spC, nmL, dpL, mget], List.Pairwise.nil, by simp [wrL], by simp [wrL, sizeT]⟩
  | succ i ih =>
    intro hi
    have h := ih (by omega)
    have hx : l[i]? = some l[i] := List.getElem?_eq_getElem (by omega)
    rw [List.take_add_one, hx]
    show ChC c (wrL c (l.take i ++ [l[i]])) (l.take i ++ [l[i]])
    rw [wrL_snoc]
    exact (chc_step hc h (by rw [List.length_take]; omega) _).2
theorem wrL_read {c : Bs} (hc : c.length ≤ 10) (l : List UInt8) (hl : l.length ≤ 15) {x : UInt8} (hx : x ∈ l) : readF (wrL c l) (nameF x.toNat) = (c, 0) := by
  have h := chc_all hc l hl l.length (Nat.le_refl _)
  rw [List.take_length] at h
  have f := fin_at x.toNat x.toNat_lt
  have hg : mget (wrL c l) (nameF x.toNat) = some (false, c) := by
    rw [h.get]; unfold spC; rw [if_pos (show nameF x.toNat ∈ nmL l from List.mem_map.2 ⟨x, hx, rfl⟩)]
  have ok := wrL_okay c l
  have hd : dirF (wrL c l) (nameF x.toNat) = false := by
    unfold dirF; rw [hg]
    have : (nameF x.toNat == []) = false := by simpa using f.ne
    rw [this]; rfl
  have hf := (lack_nil ok hg).2
  unfold readF
  rw [f.clean, if_pos rfl, if_neg (by rw [hd, hf]; simp), hg]
end Go.Proofs.YtihopeogaeinhaaGreatDoor
