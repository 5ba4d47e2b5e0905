import Derived.Test.YtihopeogaeinhaaGreatDoorHq
import Derived.OpenShut
import Derived.Laws.Tables
set_option linter.unusedVariables false
set_option linter.unusedSimpArgs false
set_option maxRecDepth 100000
/- Heaps, more: small laws. -/
namespace Go.Vc
theorem made_strV (n : Nat) : (madeCells (Value.int .u8 0).cells (n * 1)).toList = strV (List.replicate n 0) := by
  apply List.ext_getElem?
  intro j
  rw [Nat.mul_one, Array.getElem?_toList]
  simp only [madeCells, Array.getElem?_map, Array.getElem?_range, strV, List.map_replicate, List.getElem?_replicate]
  split
  · show some ((#[Value.int .u8 0])[j % 1]!) = _; rw [Nat.mod_one]; rfl
  · simp
theorem strV_set (l : List UInt8) (k : Nat) (v : Int) (h0 : 0 ≤ v) (h1 : v < 256) : (strV l).set k (.int .u8 v) = strV (l.set k (UInt8.ofNat v.toNat)) := by
  unfold strV
  rw [List.map_set]
  congr 2
  rw [UInt8.toNat_ofNat']
  omega
theorem IdxA.at1 {g o n : Nat} {i : Int} {K : Addr → Prop} (j : Nat) (hi : i = j) (hj : j < n) (hk : K ⟨g, o + j, none⟩) : IdxA (some ⟨g, o, none⟩) n 1 i K := by
  subst hi
  exact ⟨by omega, by omega, _, rfl, by rw [addk, Int.toNat_natCast, Nat.mul_one]; exact hk⟩
theorem tmod_bound (a : Int) (n : Nat) : -(n : Int) ≤ a.tmod (n + 1) ∧ a.tmod (n + 1) ≤ n := by
  have h1 := Int.tmod_lt_of_pos a (b := (n : Int) + 1) (by omega)
  have h2 := Int.tmod_lt_of_pos (-a) (b := (n : Int) + 1) (by omega)
  rw [Int.neg_tmod] at h2
  omega

theorem Own.hcell {H : Heap} {base g n cap : Nat} {e : TypeId} {size : Nat} {xs : List Value} (h : Own H base e size (some ⟨g, 0, none⟩) n cap xs) {i : Nat} {v : Value} (hv : xs[i]? = some v) : hcell H ⟨g, 0 + i, none⟩ = some v := by
  rcases h.row.out with h0 | ⟨b, o, ha, hc⟩
  · subst h0; cases hv
  · cases ha; exact hc i v hv
theorem to_string' {P : Program} {H : Heap} {s d e : TypeId} {a : Option Addr} {n c : Nat} {l : List UInt8} {K : Value → Heap → Prop} (hs : P.underlying s = some (.slice e)) (he : P.underlying e = some (.int .u8)) (hd : P.underlying d = some .string)
    (hr : Row H a (strV l)) (hn : l.length = n) (hk : K (.string ⟨l.toArray⟩) H) : SemH P (convert s d (.slice a n c)) H K := by
  subst hn; exact SemH.to_string hs he hd hr hk
theorem xor_u8 (x y : Int) : 0 ≤ bitB .u8 .xor x y ∧ bitB .u8 .xor x y < 256 := by
  have h := bounds_u8 (wf_bits .xor .u8 x y)
  have e : bitB .u8 .xor x y = bits .xor .u8 x y := rfl
  omega
theorem bytes_mk (s : ByteArray) : (⟨s.data.toList.toArray⟩ : ByteArray) = s := by cases s; simp


theorem SemH.load_cut {P : Program} {H : Heap} {t e : TypeId} {i : TypeInfo} {b o : Nat} {c cs : Array Value} {K : Value → Heap → Prop} (hb : Blk H b c e) (hT : aggB P t = some true) (hi : P.info? t = some i) (hn : o + i.size ≤ c.size)
    (he : c.extract o (o + i.size) = cs) (hk : K (.agg cs) H) : SemH P (Instr.loadAt t (.pointer (some ⟨b, o, none⟩))) H K := SemH.load_part hb hT hi hn (by rw [he]; exact hk)
theorem own_new {H : Heap} {g base : Nat} {e : TypeId} {size : Nat} (h : Blk H g #[] e) (hb : base ≤ g) : Own H base e size (some ⟨g, 0, none⟩) 0 0 [] :=
  ⟨by simp, .inr ⟨g, #[], rfl, hb, h, Nat.le_refl _, Nat.zero_le _, by simp, by simp⟩⟩
theorem PureH.build {P : Program} {t : TypeId} {parts : Array (Nat × Value)} {K : Value → Prop} (cells : Array Value) (h : P.built t parts.toList = some cells) (hk : K (.agg cells)) : PureH P (Instr.build t parts) K :=
  ⟨_, fun w => run_build w t parts cells h, hk⟩
/-- a whole variable, its cells written out -/
theorem DoH.put_all {P : Program} {H : Heap} {t e : TypeId} {i : TypeInfo} {b : Nat} {c cs : Array Value} {K : Heap → Prop} (hb : Blk H b c e) (hi : P.info? t = some i) (hn : cs.size = i.size) (hc : c.size = cs.size) (hp : cs.toList.all plainV = true)
    (hk : ∀ H', H'.size = H.size → Blk H' b cs e → But b H H' → K H') : DoH P (Instr.storeAt t (.pointer (some ⟨b, 0, none⟩)) (.agg cs)) H K := DoH.store_all hb hi hn hc (List.all_eq_true.1 hp) hk
end Go.Vc
