import Derived.Test.YtjcmcmogbkdjcaaDoorKe
import Derived.Test.YtjcmcmogbkdjcaaDoorKb
set_option linter.unusedVariables false
set_option linter.unusedSimpArgs false
set_option maxRecDepth 100000
/- Lists of files held against one another. -/
namespace Go.Proofs.YtjcmcmogbkdjcaaDoor
open Go Go.Vc Go.Scr Go.Pth Go.Tre
end Go.Proofs.YtjcmcmogbkdjcaaDoor
/- Law 8's known: the chapter's example. -/
namespace Go.Proofs.YtjcmcmogbkdjcaaDoor
open Go Go.Vc Go.Scr Go.Pth Go.Tre
def kn1 : Tr := [([97], true, []), ([97, 47, 98], false, [120])]
def kn2 : Tr := [([99], true, []), ([99, 47, 98], false, [120])]
theorem kn_w1 : writeF [] [97, 47, 98] [120] = (kn1, 0) := by decide
theorem kn_w2 : writeF kn1 [97] [] = (kn1, 54) := by decide
theorem kn_r : Tre.twoF kn1 [97] [99] false = (kn2, 0) := by decide
theorem kn_b : readF kn2 [99, 47, 98] = ([120], 0) := by decide
theorem kn_e1 : existsF kn2 [99] = true := by decide
theorem kn_e2 : existsF kn2 [97] = false := by decide
theorem kn_s : sizeT kn2 = 1 := by decide
/-- []byte of a literal: the row that was laid gets the run-time's mark behind its last cell -/
theorem marked {P : Program} {t e : TypeId} {A H : Heap} {g n cap : Nat} {c : Array Value} {ty : TypeId} {K : Value → Heap → Prop} (ht : P.underlying t = some (.slice e)) (he : P.underlying e = some (.int .u8)) (hb : Blk H g c ty) (hx : Ext A H) (hg : A.size ≤ g)
    (hk : ∀ H', H'.size = H.size → Row H' (some ⟨g, 0, none⟩) c.toList → Ext A H' → K (.slice (some ⟨g, 0, none⟩) n cap) H') : SemH P (convert t t (.slice (some ⟨g, 0, none⟩) n cap)) H K := by
  obtain ⟨fr, h1, _⟩ := hb.out
  refine ⟨fun w hw => ⟨_, w.freeze ⟨g, c.size, none⟩ 1, ?_, ⟨rfl, rfl, rfl⟩, hk _ ?_ ?_ ?_⟩⟩
  · have hsh : w.shape? g = some (ty, c.size) := by
      unfold World.shape?
      rw [hw, h1]
    simp [convert, underlying_of ht, underlying_of he, markStringish, hsh]
  · subst hw; simp [World.freeze]
  · subst hw
    refine ⟨.inr ⟨g, 0, rfl, fun j v hv => ?_⟩⟩
    have hgt := hb.lt
    simp only [hcell, World.freeze, Nat.zero_add]
    simp [Array.getElem?_modify, h1]
    simpa using hv
  · subst hw
    refine ⟨by simpa [World.freeze] using hx.size, fun b h _ => ?_⟩
    rw [← hx.same b h id]
    have hne : g ≠ b := by omega
    simp [World.freeze, Array.getElem?_modify, hne]
theorem kn_w3 : writeF [] [99, 47, 98] [120] = (kn2, 0) := by decide
theorem kn_ok1 : Okay kn1 := by have := Okay.nil.writeF [97, 47, 98] [120]; rwa [kn_w1] at this
theorem kn_ok2 : Okay kn2 := by have := Okay.nil.writeF [99, 47, 98] [120]; rwa [kn_w3] at this
/-- what an own tree's writes leave alone -/
theorem ext_t {A B C : Heap} {b mb : Nat} (h : Ext A B) (k : ButT b mb B C) (hb : A.size ≤ b) (hm : A.size ≤ mb) : Ext A C := Only.trans h k fun x hx e => by rcases e with rfl | rfl <;> omega
end Go.Proofs.YtjcmcmogbkdjcaaDoor
/- Law 8's names of files. -/
namespace Go.Proofs.YtjcmcmogbkdjcaaDoor
open Go Go.Vc Go.Scr Go.Pth Go.Tre
def dirs : List Bs := [[], [97, 47], [98, 47, 99, 47], [98, 47, 100, 47]]
def nameD (k : Nat) : Bs := dirs.getD (k / 64) []
def nameF (k : Nat) : Bs := nameD k ++ [102] ++ [UInt8.ofNat (97 + k % 26)]
theorem QuoH.u8 {a c : Int} {K : Int → Prop} (h : (0 ≤ a ∧ a < 256) ∧ 0 < c) (hk : K (a / c)) : QuoH .u8 a c K := by
  refine ⟨by omega, ?_⟩
  rw [Int.tdiv_eq_ediv_of_nonneg h.1.1]
  have h1 : 0 ≤ a / c := Int.ediv_nonneg h.1.1 (by omega)
  have h2 : a / c ≤ a := Int.ediv_le_self _ h.1.1
  rw [Go.Vc.wrap_small .u8 rfl h1 (by simp [IntKind.bits]; omega)]
  exact hk
end Go.Proofs.YtjcmcmogbkdjcaaDoor
/- TreeOrder: the walk. -/
namespace Go.Proofs.YtjcmcmogbkdjcaaDoor
open Go Go.Vc Go.Scr Go.Pth Go.Tre
def wrF (A : Tr) (k : UInt8) : Tr := (writeF A (nameF k.toNat) (nameF k.toNat)).1
def ordF (l : List UInt8) : Tr := l.foldl wrF []
def rotF (l : List UInt8) (t : Nat) : List UInt8 := (List.range l.length).map fun i => l.getD ((i + t) % l.length) 0
theorem ordF_okay (l : List UInt8) : Okay (ordF l) := by
  have : ∀ (l : List UInt8) (A : Tr), Okay A → Okay (l.foldl wrF A) := by
    intro l
    induction l with
    | nil => intro A h; exact h
    | cons x l ih => intro A h; exact ih _ (h.writeF _ _)
  exact this l [] .nil
theorem ordF_snoc (l : List UInt8) (x : UInt8) : ordF (l ++ [x]) = wrF (ordF l) x := by simp [ordF, List.foldl_append]
structure Good (l : List UInt8) : Prop where out : ∀ i x, l[i]? = some x → (writeF (ordF (l.take i)) (nameF x.toNat) (nameF x.toNat)).2 = 0
theorem byteN {H : Heap} {a : Option Addr} {l : List UInt8} {n : Nat} {i : Int} {K : Addr → Prop} (h : Row H a (strV l)) (hn : l.length = n) (j : Nat) (x : UInt8) (hi : i = j) (hx : l[j]? = some x)
    (hk : ∀ b o, hcell H ⟨b, o + j, none⟩ = some (.int .u8 x.toNat) → K ⟨b, o + j, none⟩) : IdxA a n 1 i K := by
  have hj := (List.getElem?_eq_some_iff.1 hx).1
  subst hi
  refine Go.Vc.IdxA.bytes h hn (by omega) (by omega) fun b o _ hc => ?_
  have e : l.getD j 0 = x := by simp [List.getD, hx]
  simp only [Int.toNat_natCast] at hc ⊢
  rw [e] at hc
  exact hk b o hc
theorem name_bytes {P : Program} {H : Heap} {s d e : TypeId} {l : Bs} {K : Value → Heap → Prop} (hs : P.underlying s = some .string) (hd : P.underlying d = some (.slice e)) (he : P.underlying e = some (.int .u8)) (hm : l.length ≤ 1000000)
    (hk : ∀ a cap H', Row H' a (strV l) → Ext H H' → K (.slice a l.length cap) H') : SemH P (convert s d (.string (mkS l))) H K := by
  refine Go.Vc.SemH.of_string hs hd he (by rw [mkS_size]; simp [maxLen]; omega) fun cap H' ho hx => ?_
  exact hk _ cap H' (by simpa [mkS] using ho.row) hx
theorem nameF_len (k : Nat) : (nameF k).length ≤ 10 := by
  have : k / 64 = 0 ∨ k / 64 = 1 ∨ k / 64 = 2 ∨ 3 ≤ k / 64 := by omega
  unfold nameF nameD
  rcases this with e | e | e | e
  · simp [dirs, e]
  · simp [dirs, e]
  · simp [dirs, e]
  · by_cases h : k / 64 = 3
    · simp [dirs, h]
    · have : dirs.getD (k / 64) [] = [] := by rw [List.getD_eq_getElem?_getD, List.getElem?_eq_none (by simp [dirs]; omega)]; rfl
      rw [this]; simp
end Go.Proofs.YtjcmcmogbkdjcaaDoor
