import Derived.Test.YtihopeogaeinhaaGreatDoorSt
import Derived.Test.YtihopeogaeinhaaGreatDoorRows
import Derived.KernelRfl
import Derived.Test.YtihopeogaeinhaaGreatDoorTq
set_option linter.unusedVariables false
set_option linter.unusedSimpArgs false
set_option maxRecDepth 100000
/- Small laws of strings and rows that all the texts behind share. -/
namespace Go.Proofs.YtihopeogaeinhaaGreatDoor
open Go Go.Vc Go.Scr
theorem mixed : Tryz.prog.follows .mixedOrders = true := by kernel_rfl
theorem ne_nat (n : Nat) (hn : n < 256) {c : UInt8} (h : c ≠ UInt8.ofNat n) : c.toNat ≠ n := fun e => h (UInt8.toNat_inj.1 (by rw [UInt8.toNat_ofNat']; omega))
theorem drop_get {l : Bs} {i : Nat} (h : i < l.length) : ∃ c, (mkS l).data.toList.getD i 0 = c ∧ l.drop i = c :: l.drop (i + 1) := ⟨l[i], by show l.getD i 0 = _; rw [List.getD_eq_getElem?_getD, List.getElem?_eq_getElem h]; rfl, List.drop_eq_getElem_cons h⟩
theorem own_snoc {H : Heap} {b : Nat} {e : TypeId} {a : Option Addr} {cap : Nat} {l : Bs} {c : UInt8} (h : Own H b e 1 a (l.length + 1) cap (strV l ++ [.int .u8 c.toNat])) : Own H b e 1 a (l ++ [c]).length cap (strV (l ++ [c])) := by
  rw [strV_append, List.length_append]; exact h
theorem sl_snoc (a : Option Addr) (l : Bs) (c : UInt8) (cap : Nat) : Value.slice a (l.length + 1) cap = Value.slice a (l ++ [c]).length cap := by rw [List.length_append]; rfl
theorem ne_empty (c : UInt8) (t : Bs) : ((mkS (c :: t)).toList == (⟨#[]⟩ : ByteArray).toList) = false := by
  rw [str_beq, decide_eq_false_iff_not]
  intro h
  have := congrArg ByteArray.size h
  cases this
theorem own_snocS {H : Heap} {b : Nat} {e : TypeId} {a : Option Addr} {cap : Nat} {l : List Bs} {c : Bs} {s : ByteArray} (hs : s = mkS c) (h : Own H b e 1 a (l.length + 1) cap (strs l ++ [.string s])) : Own H b e 1 a (l ++ [c]).length cap (strs (l ++ [c])) := by
  rw [strs_append, List.length_append]; subst hs; exact h
theorem sl_snocS (a : Option Addr) (l : List Bs) (c : Bs) (cap : Nat) : Value.slice a (l.length + 1) cap = Value.slice a (l ++ [c]).length cap := by rw [List.length_append]; rfl
theorem own_lit {H : Heap} {g base : Nat} {e : TypeId} {xs : List Value} {n : Nat} (h : Blk H g xs.toArray e) (hb : base ≤ g) (hn : xs.length = n) (hm : n ≤ 1000000) : Own H base e 1 (some ⟨g, 0, none⟩) n n xs :=
  ⟨by omega, .inr ⟨g, xs.toArray, rfl, hb, h, Nat.le_refl _, by unfold maxLen; omega, by simp [hn], by simp [← hn]⟩⟩
theorem getD_drop (l : Bs) (i j : Nat) : (l.drop i).getD j 0 = l.getD (i + j) 0 := by rw [List.getD_eq_getElem?_getD, List.getD_eq_getElem?_getD, List.getElem?_drop]
theorem drop_getD {l : Bs} {i : Nat} {c : UInt8} {t : Bs} (h : l.drop i = c :: t) : l.getD i 0 = c := by
  have := getD_drop l i 0
  rw [h] at this; simpa using this.symm
end Go.Proofs.YtihopeogaeinhaaGreatDoor
