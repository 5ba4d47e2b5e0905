import Derived.Test.YtjcmcmogbkdjcaaGreatDoorKe
import Derived.Test.YtjcmcmogbkdjcaaGreatDoorKb
set_option linter.unusedVariables false
set_option linter.unusedSimpArgs false
set_option maxRecDepth 100000
/- Lists of files held against one another. -/
namespace Go.Proofs.YtjcmcmogbkdjcaaGreatDoor
open Go Go.Vc Go.Scr Go.Pth Go.Tre
theorem hfiles_any (A B : Tr) (a b : Option Addr) (n m ca cb : Nat) (H : Heap) (hra : RowF H a A) (hrb : RowF H b B) (hn : A.length = n) (hm : B.length = m) (hl : n ≤ 1000000000) (hl2 : m ≤ 1000000000) : CallH Tryz.prog 9 [.slice a n ca, .slice b m cb] H fun v H' => v = .bool (decide (A = B)) ∧ H = H' := by
  refine Vc.CallH.body Tryz.func9 Tryz.call9 rfl (by decide +kernel) rfl ?_
  by_cases hnm : n = m
  · subst hnm
    ((conv => whnf); repeat (any_goals (first | (refine Vc.stp ?_; intros; (conv => whnf)))))
    refine LoopH.intro (fun (i : Nat) => [(5, .int .i64 i)]) (fun i H' => H = H' ∧ i ≤ n ∧ (A = B ↔ A.drop i = B.drop i)) (fun i => n - i) 0 ⟨rfl, trivial⟩ ⟨rfl, Nat.zero_le _, Iff.rfl⟩ ?_
    rintro i _ ⟨rfl, hi, hinv⟩
    by_cases hlt : i < n
    · obtain ⟨x, hx⟩ : ∃ x, A[i]? = some x := ⟨_, List.getElem?_eq_getElem (by omega)⟩
      obtain ⟨y, hy⟩ : ∃ y, B[i]? = some y := ⟨_, List.getElem?_eq_getElem (by omega)⟩
      have hda : A.drop i = x :: A.drop (i + 1) := by
        rw [List.drop_eq_getElem_cons (by omega)]; congr 1; rw [List.getElem?_eq_getElem (by omega)] at hx; exact Option.some.inj hx
      have hdb : B.drop i = y :: B.drop (i + 1) := by
        rw [List.drop_eq_getElem_cons (by omega)]; congr 1; rw [List.getElem?_eq_getElem (by omega)] at hy; exact Option.some.inj hy
      rw [hda, hdb, List.cons.injEq] at hinv
      obtain ⟨xp, xd, xb⟩ := x
      obtain ⟨yp, yd, yb⟩ := y
      have e1 : ((mkS xp).toList == (mkS yp).toList) = decide (xp = yp) := by rw [str_beq]; simp [mkS_inj]
      have e3 : ((mkS xb).toList == (mkS yb).toList) = decide (xb = yb) := by rw [str_beq]; simp [mkS_inj]
      have no : ¬ (xp = yp ∧ xd = yd ∧ xb = yb) → (Vc.one [Value.bool false] = Value.bool (decide (A = B))) := by
        intro h
        rw [decide_eq_false (fun e => h (by have := (hinv.1 e).1; simpa using this))]; rfl
      by_cases hp : xp = yp
      · rw [decide_eq_true hp] at e1
        by_cases hd : xd = yd
        · have e2 : (xd == yd) = true := by rw [hd]; exact beq_self_eq_true _
          by_cases hb : xb = yb
          · rw [decide_eq_true hb] at e3
            ((conv => whnf); repeat (any_goals (first | ((refine IdxA.file hra hn i (xp, xd, xb) rfl hx ?_; intro bi oi ai ci hri hci; have hc0 := hci 0 _ rfl; have hc1 := hci 1 _ rfl; have hc2 := hci 2 _ rfl); (conv => whnf)) | ((refine IdxA.file hrb hm i (yp, yd, yb) rfl hy ?_; intro bj oj aj cj hrj hcj; have hd0 := hcj 0 _ rfl; have hd1 := hcj 1 _ rfl; have hd2 := hcj 2 _ rfl); (conv => whnf)) | ((refine to_string' rfl rfl rfl hri rfl ?_); (conv => whnf)) | ((refine to_string' rfl rfl rfl hrj rfl ?_); (conv => whnf)) | (refine Vc.stp ?_; intros; (conv => whnf)))))
            exact ⟨i + 1, ⟨rfl, trivial⟩, ⟨rfl, hlt, hinv.trans ⟨fun h => h.2, fun h => ⟨by rw [hp, hd, hb], h⟩⟩⟩, by omega⟩
          · rw [decide_eq_false hb] at e3
            ((conv => whnf); repeat (any_goals (first | ((refine IdxA.file hra hn i (xp, xd, xb) rfl hx ?_; intro bi oi ai ci hri hci; have hc0 := hci 0 _ rfl; have hc1 := hci 1 _ rfl; have hc2 := hci 2 _ rfl); (conv => whnf)) | ((refine IdxA.file hrb hm i (yp, yd, yb) rfl hy ?_; intro bj oj aj cj hrj hcj; have hd0 := hcj 0 _ rfl; have hd1 := hcj 1 _ rfl; have hd2 := hcj 2 _ rfl); (conv => whnf)) | ((refine to_string' rfl rfl rfl hri rfl ?_); (conv => whnf)) | ((refine to_string' rfl rfl rfl hrj rfl ?_); (conv => whnf)) | (refine Vc.stp ?_; intros; (conv => whnf)))))
            exact ⟨no (fun h => hb h.2.2), rfl⟩
        · have e2 : (xd == yd) = false := by simpa using hd
          ((conv => whnf); repeat (any_goals (first | ((refine IdxA.file hra hn i (xp, xd, xb) rfl hx ?_; intro bi oi ai ci hri hci; have hc0 := hci 0 _ rfl; have hc1 := hci 1 _ rfl; have hc2 := hci 2 _ rfl); (conv => whnf)) | ((refine IdxA.file hrb hm i (yp, yd, yb) rfl hy ?_; intro bj oj aj cj hrj hcj; have hd0 := hcj 0 _ rfl; have hd1 := hcj 1 _ rfl; have hd2 := hcj 2 _ rfl); (conv => whnf)) | ((refine to_string' rfl rfl rfl hri rfl ?_); (conv => whnf)) | ((refine to_string' rfl rfl rfl hrj rfl ?_); (conv => whnf)) | (refine Vc.stp ?_; intros; (conv => whnf)))))
          exact ⟨no (fun h => hd h.2.1), rfl⟩
      · rw [decide_eq_false hp] at e1
        ((conv => whnf); repeat (any_goals (first | ((refine IdxA.file hra hn i (xp, xd, xb) rfl hx ?_; intro bi oi ai ci hri hci; have hc0 := hci 0 _ rfl; have hc1 := hci 1 _ rfl; have hc2 := hci 2 _ rfl); (conv => whnf)) | ((refine IdxA.file hrb hm i (yp, yd, yb) rfl hy ?_; intro bj oj aj cj hrj hcj; have hd0 := hcj 0 _ rfl; have hd1 := hcj 1 _ rfl; have hd2 := hcj 2 _ rfl); (conv => whnf)) | ((refine to_string' rfl rfl rfl hri rfl ?_); (conv => whnf)) | ((refine to_string' rfl rfl rfl hrj rfl ?_); (conv => whnf)) | (refine Vc.stp ?_; intros; (conv => whnf)))))
        exact ⟨no (fun h => hp h.1), rfl⟩
    · rw [List.drop_of_length_le (by omega), List.drop_of_length_le (by omega)] at hinv
      ((conv => whnf); repeat (any_goals (first | (refine Vc.stp ?_; intros; (conv => whnf)) | (refine Vc.spl ?_ ?_ <;> (intro _; (conv => whnf))))))
      exact ⟨by rw [decide_eq_true (hinv.2 rfl)]; rfl, rfl⟩
  · ((conv => whnf); repeat (any_goals (first | (refine Vc.stp ?_; intros; (conv => whnf)) | (refine Vc.spl ?_ ?_ <;> (intro _; (conv => whnf))))))
    exact ⟨by rw [decide_eq_false (fun e => hnm (by rw [← hn, ← hm, e]))]; rfl, rfl⟩
end Go.Proofs.YtjcmcmogbkdjcaaGreatDoor
/- Law 8's known: the chapter's example. -/
namespace Go.Proofs.YtjcmcmogbkdjcaaGreatDoor
open Go Go.Vc Go.Scr Go.Pth Go.Tre
def kn1 : Tr := [([97], true, []), ([97, 47, 98], false, [120])]
def kn2 : Tr := [([99], true, []), ([99, 47, 98], false, [120])]
theorem kn_w1 : writeF [] [97, 47, 98] [120] = (kn1, 0) := by decide
theorem kn_w2 : writeF kn1 [97] [] = (kn1, 54) := by decide
theorem kn_r : Tre.twoF kn1 [97] [99] false = (kn2, 0) := by decide
theorem kn_b : readF kn2 [99, 47, 98] = ([120], 0) := by decide
theorem kn_e1 : existsF kn2 [99] = true := by decide
theorem kn_e2 : existsF kn2 [97] = false := by decide
theorem kn_s : sizeT kn2 = 1 := by decide
/-- []byte of a literal: the row that was laid gets the run-time's mark behind its last cell -/
theorem marked {P : Program} {t e : TypeId} {A H : Heap} {g n cap : Nat} {c : Array Value} {ty : TypeId} {K : Value → Heap → Prop} (ht : P.underlying t = some (.slice e)) (he : P.underlying e = some (.int .u8)) (hb : Blk H g c ty) (hx : Ext A H) (hg : A.size ≤ g)
    (hk : ∀ H', H'.size = H.size → Row H' (some ⟨g, 0, none⟩) c.toList → Ext A H' → K (.slice (some ⟨g, 0, none⟩) n cap) H') : SemH P (convert t t (.slice (some ⟨g, 0, none⟩) n cap)) H K := by
  obtain ⟨fr, h1, _⟩ := hb.out
  refine ⟨fun w hw => ⟨_, w.freeze ⟨g, c.size, none⟩ 1, ?_, ⟨rfl, rfl, rfl⟩, hk _ ?_ ?_ ?_⟩⟩
  · have hsh : w.shape? g = some (ty, c.size) := by
      unfold World.shape?
      rw [hw, h1]
    simp [convert, underlying_of ht, underlying_of he, markStringish, hsh]
  · subst hw; simp [World.freeze]
  · subst hw
    refine ⟨.inr ⟨g, 0, rfl, fun j v hv => ?_⟩⟩
    have hgt := hb.lt
    simp only [hcell, World.freeze, Nat.zero_add]
    simp [Array.getElem?_modify, h1]
    simpa using hv
  · subst hw
    refine ⟨by simpa [World.freeze] using hx.size, fun b h _ => ?_⟩
    rw [← hx.same b h id]
    have hne : g ≠ b := by omega
    simp [World.freeze, Array.getElem?_modify, hne]
theorem kn_w3 : writeF [] [99, 47, 98] [120] = (kn2, 0) := by decide
theorem kn_ok1 : Okay kn1 := by have := Okay.nil.writeF [97, 47, 98] [120]; rwa [kn_w1] at this
theorem kn_ok2 : Okay kn2 := by have := Okay.nil.writeF [99, 47, 98] [120]; rwa [kn_w3] at this
/-- what an own tree's writes leave alone -/
theorem ext_t {A B C : Heap} {b mb : Nat} (h : Ext A B) (k : ButT b mb B C) (hb : A.size ≤ b) (hm : A.size ≤ mb) : Ext A C := Only.trans h k fun x hx e => by rcases e with rfl | rfl <;> omega
end Go.Proofs.YtjcmcmogbkdjcaaGreatDoor
/- Law 8's names of files. -/
namespace Go.Proofs.YtjcmcmogbkdjcaaGreatDoor
open Go Go.Vc Go.Scr Go.Pth Go.Tre
def dirs : List Bs := [[], [97, 47], [98, 47, 99, 47], [98, 47, 100, 47]]
def nameD (k : Nat) : Bs := dirs.getD (k / 64) []
def nameF (k : Nat) : Bs := nameD k ++ [102] ++ [UInt8.ofNat (97 + k % 26)]
theorem QuoH.u8 {a c : Int} {K : Int → Prop} (h : (0 ≤ a ∧ a < 256) ∧ 0 < c) (hk : K (a / c)) : QuoH .u8 a c K := by
  refine ⟨by omega, ?_⟩
  rw [Int.tdiv_eq_ediv_of_nonneg h.1.1]
  have h1 : 0 ≤ a / c := Int.ediv_nonneg h.1.1 (by omega)
  have h2 : a / c ≤ a := Int.ediv_le_self _ h.1.1
  rw [Go.Vc.wrap_small .u8 rfl h1 (by simp [IntKind.bits]; omega)]
  exact hk
end Go.Proofs.YtjcmcmogbkdjcaaGreatDoor
/- TreeOrder: the walk. -/
namespace Go.Proofs.YtjcmcmogbkdjcaaGreatDoor
open Go Go.Vc Go.Scr Go.Pth Go.Tre
def wrF (A : Tr) (k : UInt8) : Tr := (writeF A (nameF k.toNat) (nameF k.toNat)).1
def ordF (l : List UInt8) : Tr := l.foldl wrF []
def rotF (l : List UInt8) (t : Nat) : List UInt8 := (List.range l.length).map fun i => l.getD ((i + t) % l.length) 0
theorem ordF_okay (l : List UInt8) : Okay (ordF l) := by
  have : ∀ (l : List UInt8) (A : Tr), Okay A → Okay (l.foldl wrF A) := by
    intro l
    induction l with
    | nil => intro A h; exact h
    | cons x l ih => intro A h; exact ih _ (h.writeF _ _)
  exact this l [] .nil
theorem ordF_snoc (l : List UInt8) (x : UInt8) : ordF (l ++ [x]) = wrF (ordF l) x := by simp [ordF, List.foldl_append]
structure Good (l : List UInt8) : Prop where out : ∀ i x, l[i]? = some x → (writeF (ordF (l.take i)) (nameF x.toNat) (nameF x.toNat)).2 = 0
theorem byteN {H : Heap} {a : Option Addr} {l : List UInt8} {n : Nat} {i : Int} {K : Addr → Prop} (h : Row H a (strV l)) (hn : l.length = n) (j : Nat) (x : UInt8) (hi : i = j) (hx : l[j]? = some x)
    (hk : ∀ b o, hcell H ⟨b, o + j, none⟩ = some (.int .u8 x.toNat) → K ⟨b, o + j, none⟩) : IdxA a n 1 i K := by
  have hj := (List.getElem?_eq_some_iff.1 hx).1
  subst hi
  refine Go.Vc.IdxA.bytes h hn (by omega) (by omega) fun b o _ hc => ?_
  have e : l.getD j 0 = x := by simp [List.getD, hx]
  simp only [Int.toNat_natCast] at hc ⊢
  rw [e] at hc
  exact hk b o hc
theorem name_bytes {P : Program} {H : Heap} {s d e : TypeId} {l : Bs} {K : Value → Heap → Prop} (hs : P.underlying s = some .string) (hd : P.underlying d = some (.slice e)) (he : P.underlying e = some (.int .u8)) (hm : l.length ≤ 1000000)
    (hk : ∀ a cap H', Row H' a (strV l) → Ext H H' → K (.slice a l.length cap) H') : SemH P (convert s d (.string (mkS l))) H K := by
  refine Go.Vc.SemH.of_string hs hd he (by rw [mkS_size]; simp [maxLen]; omega) fun cap H' ho hx => ?_
  exact hk _ cap H' (by simpa [mkS] using ho.row) hx
theorem nameF_len (k : Nat) : (nameF k).length ≤ 10 := by
  have : k / 64 = 0 ∨ k / 64 = 1 ∨ k / 64 = 2 ∨ 3 ≤ k / 64 := by omega
  unfold nameF nameD
  rcases this with e | e | e | e
  · simp [dirs, e]
  · simp [dirs, e]
  · simp [dirs, e]
  · by_cases h : k / 64 = 3
    · simp [dirs, h]
    · have : dirs.getD (k / 64) [] = [] := by rw [List.getD_eq_getElem?_getD, List.getElem?_eq_none (by simp [dirs]; omega)]; rfl
      rw [this]; simp
end Go.Proofs.YtjcmcmogbkdjcaaGreatDoor
