import Derived.Test.YtihopeogaeinhaaGreatDoorHr
import Derived.Test.YtihopeogaeinhaaGreatDoorSpl
import Derived.Laws.Strings
set_option linter.unusedVariables false
set_option linter.unusedSimpArgs false
set_option maxRecDepth 100000
/- Walks that go by themselves: conditions told apart, facts of old heaps found again. -/
namespace Go.Vc
theorem CondH.dec {p : Prop} [Decidable p] {A B : Prop} (h1 : p → A) (h2 : ¬ p → B) : CondH (decide p) A B := ⟨fun e => h1 (of_decide_eq_true e), fun e => h2 (of_decide_eq_false e)⟩
theorem CondH.beqI {a b : Int} {A B : Prop} (h1 : a = b → A) (h2 : a ≠ b → B) : CondH (a == b) A B := ⟨fun e => h1 (by simpa using e), fun e => h2 (by simpa using e)⟩
theorem CondH.bneI {a b : Int} {A B : Prop} (h1 : a ≠ b → A) (h2 : a = b → B) : CondH (a != b) A B := ⟨fun e => h1 (by simpa using e), fun e => h2 (by simpa using e)⟩
theorem CondH.bool {b : Bool} {A B : Prop} (h1 : b = true → A) (h2 : b = false → B) : CondH b A B := ⟨h1, h2⟩
theorem SplitH.dec {p : Prop} [Decidable p] {K : Bool → Prop} (h1 : p → K true) (h2 : ¬ p → K false) : SplitH (decide p) K := ⟨fun e => h1 (of_decide_eq_true e), fun e => h2 (of_decide_eq_false e)⟩
theorem SplitH.beqI {a b : Int} {K : Bool → Prop} (h1 : a = b → K true) (h2 : a ≠ b → K false) : SplitH (a == b) K := ⟨fun e => h1 (by simpa using e), fun e => h2 (by simpa using e)⟩
theorem SplitH.bneI {a b : Int} {K : Bool → Prop} (h1 : a ≠ b → K true) (h2 : a = b → K false) : SplitH (a != b) K := ⟨fun e => h1 (by simpa using e), fun e => h2 (by simpa using e)⟩
theorem SplitH.bool {b : Bool} {K : Bool → Prop} (h1 : b = true → K true) (h2 : b = false → K false) : SplitH b K := ⟨h1, h2⟩
theorem SplitH.notT {b : Bool} {K : Bool → Prop} (hb : b = true) (h : K false) : SplitH (!b) K := SplitH.neg (by rw [hb]; rfl) h
theorem SplitH.notF {b : Bool} {K : Bool → Prop} (hb : b = false) (h : K true) : SplitH (!b) K := SplitH.pos (by rw [hb]; rfl) h
theorem SplitH.bnot {b : Bool} {K : Bool → Prop} (h1 : b = false → K true) (h2 : b = true → K false) : SplitH (!b) K := ⟨fun e => h1 (by simpa using e), fun e => h2 (by simpa using e)⟩
/-- equality of strings -/
theorem str_beq {s t : ByteArray} : (s.toList == t.toList) = decide (s = t) := by
  rw [Bool.eq_iff_iff, beq_iff_eq, decide_eq_true_eq, ByteArray.toList_eq, ByteArray.toList_eq]
  constructor
  · intro h; exact ByteArray.ext (Array.toList_inj.1 h)
  · intro h; rw [h]
theorem CondH.str {s t : ByteArray} {A B : Prop} (h1 : s = t → A) (h2 : s ≠ t → B) : CondH (s.toList == t.toList) A B := by rw [str_beq]; exact CondH.dec h1 h2
theorem SplitH.str {s t : ByteArray} {K : Bool → Prop} (h1 : s = t → K true) (h2 : s ≠ t → K false) : SplitH (s.toList == t.toList) K := by rw [str_beq]; exact SplitH.dec h1 h2
theorem str_self (s : ByteArray) : (s.toList == s.toList) = true := beq_self_eq_true _
theorem CondH.same {s : ByteArray} {A B : Prop} (h : A) : CondH (s.toList == s.toList) A B := CondH.pos (str_self s) h
theorem SplitH.same {s : ByteArray} {K : Bool → Prop} (h : K true) : SplitH (s.toList == s.toList) K := SplitH.pos (str_self s) h
theorem SplitH.nsame {s : ByteArray} {K : Bool → Prop} (h : K false) : SplitH (!(s.toList == s.toList)) K := SplitH.neg (by rw [str_self]; rfl) h
theorem CondH.eqI {a : Int} {A B : Prop} (h : A) : CondH (a == a) A B := CondH.pos (beq_self_eq_true _) h
theorem CondH.neI {a : Int} {A B : Prop} (h : B) : CondH (a != a) A B := CondH.neg (bne_self_eq_false a) h
theorem SplitH.eqI {a : Int} {K : Bool → Prop} (h : K true) : SplitH (a == a) K := SplitH.pos (beq_self_eq_true _) h
theorem SplitH.neI {a : Int} {K : Bool → Prop} (h : K false) : SplitH (a != a) K := SplitH.neg (bne_self_eq_false a) h
theorem DoH.store1' {P : Program} {H : Heap} {t e : TypeId} {i : TypeInfo} {b o : Nat} {c : Array Value} {v : Value} {K : Heap → Prop} (hb : Blk H b c e) (hi : P.info? t = some i) (hn : i.size = 1) (hp : plainV v = true) (hl : Nat.blt o c.size = true)
    (hk : ∀ H', H'.size = H.size → Blk H' b (c.setIfInBounds o v) e → But b H H' → K H') : DoH P (Instr.storeAt t (.pointer (some ⟨b, o, none⟩)) v) H K :=
  DoH.store1 hb hi hn hp (Nat.le_of_ble_eq_true hl) hk
/-- one cell, its value computed -/
theorem SemH.load_n {P : Program} {H : Heap} {t e : TypeId} {b o : Nat} {c : Array Value} {v : Value} {K : Value → Heap → Prop} (hb : Blk H b c e) (hT : aggB P t = some false) (hv : nth c.toList o = some v) (hk : K v H) : SemH P (Instr.loadAt t (.pointer (some ⟨b, o, none⟩))) H K :=
  SemH.load_at hb hT (by rw [nth_eq] at hv; simpa using hv) hk
theorem Ext.butz {A B C : Heap} {b : Nat} (h : Ext A B) (k : But b B C) (hb : A.size ≤ b) : Ext A C := h.but k hb
end Go.Vc
