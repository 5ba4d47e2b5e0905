import Derived.Test.YtjcmcmogbkdjcaaDoorKb
import Derived.Test.YtjcmcmogbkdjcaaDoorKe
import Derived.Test.YtjcmcmogbkdjcaaDoorKc
import Derived.Test.YtjcmcmogbkdjcaaDoorKg
import Derived.Recover
import Derived.Test.YtjcmcmogbkdjcaaDoorKf
import Derived.Test.YtjcmcmogbkdjcaaDoorKj
set_option linter.unusedVariables false
set_option linter.unusedSimpArgs false
set_option maxRecDepth 100000
/- []byte of a literal: the row that was laid gets the run-time's mark behind its last cell, and stays a row of the call's own. -/
namespace Go.Vc
variable {P : Program}
/-- a block that has just been laid -/
structure Blk0 (H : Heap) (b : Nat) (c : Array Value) (t : TypeId) : Prop where out : H[b]? = some (.cells c t (0, 0))
theorem SemH.buildSlice0 {H : Heap} {t e : TypeId} {i : TypeInfo} {z : Value} {n : Nat} {parts : Array (Nat × Value)} {cs : Array Value} {K : Value → Heap → Prop} (ht : P.underlying t = some (.slice e)) (hi : P.info? e = some i) (hz : i.zero = some z) (hsm : ¬ n * i.size > 2 ^ 24)
    (hf : Instr.fill (fun j => some (j * i.size, i.size)) ((Array.range (n * i.size)).map ((if n * i.size = 0 then #[] else z.cells)[· % (if n * i.size = 0 then #[] else z.cells).size]!)) parts.toList = some cs)
    (hk : ∀ H', H'.size = H.size + 1 → Blk0 H' H.size cs e → Ext H H' → K (.slice (some ⟨H.size, 0, none⟩) n n) H') : SemH P (Instr.buildSlice t n parts) H K := by
  refine ⟨fun w hw => ⟨.slice (some ⟨w.heap.size, 0, none⟩) n n, { w with heap := w.heap.push (.cells cs e) }, ?_, ⟨rfl, rfl, rfl⟩, ?_⟩⟩
  · simp only [Instr.buildSlice, Sem.run_bind, underlying_of ht, Result.andThen_ok, sizeOf_of hi, if_neg hsm]
    by_cases h0 : n * i.size = 0
    · simp only [if_pos h0] at hf ⊢
      simp only [Sem.run_bind, Sem.run_pure, Result.andThen_ok]
      rw [hf]
      simp only [Sem.run_bind, newRow, run_newObj, Result.andThen_ok, Sem.run_pure]
    · simp only [if_neg h0] at hf ⊢
      simp only [Sem.run_bind, zeroValue, typeInfo_of hi, hz, Sem.run_pure, Result.andThen_ok]
      rw [hf]
      simp only [Sem.run_bind, newRow, run_newObj, Result.andThen_ok, Sem.run_pure]
  · subst hw
    exact hk _ (by simp) ⟨push_last _ _⟩ (Only.push _ _ _)
theorem SemH.lit0 {H : Heap} {t e : TypeId} {i : TypeInfo} {z : Value} {n : Nat} {parts : Array (Nat × Value)} (vs : List Value) {K : Value → Heap → Prop} (ht : P.underlying t = some (.slice e)) (hi : P.info? e = some i) (hz : i.zero = some z) (hn : vs.length = n)
    (hp : parts.toList = (List.range' 0 vs.length).zip vs) (hsm : Nat.ble (n * i.size) 16777216 = true) (hc : (vs.all fun v => Nat.beq v.cells.size i.size) = true)
    (hk : ∀ H', H'.size = H.size + 1 → Blk0 H' H.size (vs.flatMap fun v => v.cells.toList).toArray e → Ext H H' → K (.slice (some ⟨H.size, 0, none⟩) n n) H') : SemH P (Instr.buildSlice t n parts) H K := by
  have hsm := Nat.le_of_ble_eq_true hsm
  have hc : ∀ v ∈ vs, v.cells.size = i.size := fun v hv => Nat.eq_of_beq_eq_true (List.all_eq_true.1 hc v hv)
  refine SemH.buildSlice0 (cs := (vs.flatMap fun v => v.cells.toList).toArray) ht hi hz (by omega) ?_ hk
  rw [hp, fill_parts i.size vs 0 _ hc (by rw [hn]; simp)]
  congr 1
  have h0 : 0 * i.size = 0 := Nat.zero_mul _
  rw [h0]
  refine over_all _ (vs.flatMap fun v => v.cells.toList).toArray ?_
  simp only [List.size_toArray, Array.size_map, Array.size_range]
  rw [flat_len hc, hn]
/-- the literal, marked -/
theorem SemH.mark0 {t e : TypeId} {A H : Heap} {g n cap : Nat} {c : Array Value} {ty : TypeId} {K : Value → Heap → Prop} (ht : P.underlying t = some (.slice e)) (he : P.underlying e = some (.int .u8)) (hb : Blk0 H g c ty) (hx : Ext A H) (hg : A.size ≤ g)
    (hk : ∀ H', H'.size = H.size → Blk H' g c ty → Ext A H' → K (.slice (some ⟨g, 0, none⟩) n cap) H') : SemH P (convert t t (.slice (some ⟨g, 0, none⟩) n cap)) H K := by
  have h1 := hb.out
  refine ⟨fun w hw => ⟨_, w.freeze ⟨g, c.size, none⟩ 1, ?_, ⟨rfl, rfl, rfl⟩, hk _ ?_ ?_ ?_⟩⟩
  · have hsh : w.shape? g = some (ty, c.size) := by
      unfold World.shape?
      rw [hw, h1]
    simp [convert, underlying_of ht, underlying_of he, markStringish, hsh]
  · subst hw; simp [World.freeze]
  · subst hw
    refine ⟨(c.size, c.size + 1), ?_, .inr (Nat.le_refl _)⟩
    simp [World.freeze, Array.getElem?_modify, h1]
  · subst hw
    refine ⟨by simpa [World.freeze] using hx.size, fun b h _ => ?_⟩
    rw [← hx.same b h id]
    have hne : g ≠ b := by omega
    simp [World.freeze, Array.getElem?_modify, hne]
end Go.Vc
/- Archives: numbers as bytes, the highest first. -/
namespace Go.Arc
open Go.Scr Go.Pth Go.Tre
/-- the bytes of a number, the highest first -/
def byteB (n k i : Nat) : UInt8 := UInt8.ofNat (n / 2 ^ (8 * (k - 1 - i)) % 256)
def numB (n k : Nat) : Txt := (List.range k).map (byteB n k)
theorem numB_len (n k : Nat) : (numB n k).length = k := by simp [numB]
theorem numB_take (n k i : Nat) (h : i < k) : (numB n k).take (i + 1) = (numB n k).take i ++ [byteB n k i] := by
  rw [List.take_add_one]
  have : (numB n k)[i]? = some (byteB n k i) := by simp [numB, h]
  rw [this]; rfl
end Go.Arc
namespace Go.Proofs.YtjcmcmogbkdjcaaDoor
open Go Go.Vc Go.Scr Go.Pth Go.Tre Go.Arc
theorem shr_byte (n k i : Nat) (hi : i < k) (hk : k ≤ 8) : shrB .u64 (n : Int) (8 * ((k : Int) - 1 - (i : Int))) % 256 = ((byteB n k i).toNat : Int) := by
  have e : (8 * ((k : Int) - 1 - (i : Int))).toNat = 8 * (k - 1 - i) := by omega
  unfold shrB byteB
  rw [e, show min (8 * (k - 1 - i)) IntKind.u64.bits = 8 * (k - 1 - i) from Nat.min_eq_left (by show _ ≤ 64; omega), Int.fdiv_eq_ediv_of_nonneg _ (by exact Int.le_of_lt (Int.pow_pos (by decide)))]
  rw [UInt8.toNat_ofNat']
  have : ((n : Int) / 2 ^ (8 * (k - 1 - i))) = ((n / 2 ^ (8 * (k - 1 - i)) : Nat) : Int) := by
    rw [Int.natCast_ediv, Int.natCast_pow]; rfl
  rw [this]
  omega
/-- from H to H' only blocks of bytes from base on have been written -/
abbrev Upd (base : Nat) (H H' : Heap) : Prop := Only (fun x => base ≤ x ∧ ∃ c, Blk H x c 5) H H'
theorem Upd.wr {base n cap : Nat} {a : Option Addr} {xs : List Value} {H H' : Heap} (ho : Own H base 5 1 a n cap xs) (hw : Wr a H H') : Upd base H H' := hw.mono fun x ⟨p, hp, e⟩ => by
  rcases ho.out with ⟨h1, _⟩ | ⟨g, cur, h1, hb, hg, _⟩
  · rw [h1] at hp; cases hp
  · rw [h1] at hp; cases hp
    exact e ▸ ⟨hb, cur, hg⟩
theorem Upd.then {base : Nat} {A B C : Heap} (h : Upd base A B) (k : Upd base B C) : Upd base A C := Only.trans h k fun b hb ⟨h1, c, h2⟩ => by
  by_cases hf : base ≤ b ∧ ∃ c, Blk A b c 5
  · exact hf
  · obtain ⟨fr, e1, e2⟩ := h2.out
    exact ⟨h1, c, ⟨fr, by rw [← h.same b hb hf]; exact e1, e2⟩⟩
theorem Upd.blk {base g : Nat} {H H' : Heap} {c : Array Value} {t : TypeId} (h : Blk H g c t) (k : Upd base H H') (ht : t ≠ 5) : Blk H' g c t := h.keep k fun ⟨_, d, hd⟩ => ht (blk_one h hd).1
theorem Upd.ext {base : Nat} {H0 H H' : Heap} (k : Upd base H H') (h : Ext H0 H) (hb : H0.size ≤ base) : Ext H0 H' := Only.trans h k fun b h1 ⟨h2, _⟩ => by omega
structure PuS where
  i : Nat
  a : Option Addr
  cap : Nat
theorem put_bytes (l : Bs) (a : Option Addr) (m cap base n k : Nat) (H : Heap) (ho : Own H base 5 1 a m cap (strV l)) (hb : base ≤ H.size) (hl : l.length = m) (hm : m ≤ 1000000000) (hn : n ≤ 1000000000000) (hk : k ≤ 8) :
    CallH Tryd.prog 17 [.slice a m cap, .int .i64 n, .int .i64 k] H fun v H' => (∃ a' cap', v = .slice a' (m + k) cap' ∧ Own H' base 5 1 a' (m + k) cap' (strV (l ++ numB n k))) ∧ Upd base H H' := by
  refine Vc.CallH.body Tryd.func17 Tryd.call17 rfl (by decide +kernel) rfl ?_
  ((conv => whnf); repeat (any_goals (first | (refine Vc.stp ?_; intros; (conv => whnf)) | (refine Vc.spl ?_ ?_ <;> (intro _; (conv => whnf))))))
  refine LoopH.intro (fun (s : PuS) => [(9, .int .i64 s.i), (0, .slice s.a (m + s.i) s.cap)]) (fun s H' => s.i ≤ k ∧ Own H' base 5 1 s.a (m + s.i) s.cap (strV (l ++ (numB n k).take s.i)) ∧ base ≤ H'.size ∧ Upd base H H') (fun s => k - s.i) ⟨0, a, cap⟩ ⟨rfl, rfl, trivial⟩ ⟨Nat.zero_le _, by simpa using ho, hb, Only.refl _ _⟩ ?_
  rintro ⟨i, sa, sc⟩ H1 ⟨hi, ho1, hb1, hx1⟩
  dsimp only at hi ho1 ⊢
  by_cases hlt : i < k
  · have hsh := shr_byte n k i hlt hk
    have htl : ((numB n k).take i).length = i := by rw [List.length_take, numB_len]; omega
    ((conv => whnf); repeat (any_goals (first | ((refine ArithH.u8m ?_; rw [hsh]); (conv => whnf)) | ((rename_i Hl zl bl xl; refine NextH.push1b bl (ho1.ext xl) (by omega) (by omega) rfl ⟨_, rfl, fun _ h => by cases h⟩ rfl rfl rfl rfl rfl rfl rfl ?_; intro a2 c2 H2 ho2 hz2 hw2); (conv => whnf)) | (refine Vc.stp ?_; intros; (conv => whnf)))))
    refine ⟨⟨i + 1, a2, c2⟩, ⟨rfl, rfl, trivial⟩, ⟨by show i + 1 ≤ k; omega, ?_, by omega, (hx1.then xl.only).then (Upd.wr (ho1.ext xl) hw2)⟩, by show k - (i + 1) < k - i; omega⟩
    show Own H2 base _ 1 a2 (m + (i + 1)) c2 _
    rw [numB_take n k i hlt, ← List.append_assoc, strV_append, ← Nat.add_assoc]; exact ho2
  · obtain rfl : i = k := by omega
    rw [List.take_of_length_le (by rw [numB_len]; exact Nat.le_refl _)] at ho1
    ((conv => whnf); repeat (any_goals (first | (refine Vc.stp ?_; intros; (conv => whnf)))))
    exact ⟨⟨sa, sc, rfl, ho1⟩, hx1⟩
end Go.Proofs.YtjcmcmogbkdjcaaDoor
/- Archives: files are packed. -/
namespace Go.Arc
open Go.Scr Go.Pth Go.Tre
def entB (f : Txt × Tre.Node) : Txt := [if f.2.1 = true then 1 else 0] ++ numB (min f.1.length 65535) 2 ++ f.1.take 65535 ++ (if f.2.1 = true then [] else numB f.2.2.length 8 ++ f.2.2)
def packP (L : List (Txt × Tre.Node)) (i : Nat) : Txt := [80, 65, 75, 49] ++ (L.take i).flatMap entB
def packF (L : List (Txt × Tre.Node)) : Txt := packP L L.length ++ [255]
theorem packP_snoc (L : List (Txt × Tre.Node)) (i : Nat) (f : Txt × Tre.Node) (h : L[i]? = some f) : packP L (i + 1) = packP L i ++ entB f := by
  unfold packP
  rw [List.take_add_one, h, List.flatMap_append]; simp
theorem entB_len (f : Txt × Tre.Node) (hb : f.2.2.length ≤ 1000000) : (entB f).length ≤ 1100000 := by
  unfold entB
  simp only [List.length_append, List.length_singleton, numB_len, List.length_take]
  split
  · simp; omega
  · simp [numB_len]; omega
theorem packP_len (L : List (Txt × Tre.Node)) (hb : ∀ f ∈ L, f.2.2.length ≤ 1000000) : ∀ i, i ≤ L.length → (packP L i).length ≤ 4 + 1100000 * i
  | 0, _ => by simp [packP]
  | i + 1, h => by
    have hf : L[i]? = some L[i] := List.getElem?_eq_getElem (by omega)
    have h1 := packP_len L hb i (by omega)
    have h2 := entB_len L[i] (hb _ (List.getElem_mem _))
    rw [packP_snoc L i _ hf, List.length_append]; omega
end Go.Arc
namespace Go.Proofs.YtjcmcmogbkdjcaaDoor
open Go Go.Vc Go.Scr Go.Pth Go.Tre Go.Arc
/-- bytes behind bytes -/
theorem NextH.appB {H : Heap} {u ty : TypeId} {a : Option Addr} {n cap base m : Nat} {l y : Bs} {x : Value} {cb : Array Bool} {K : Value → Heap → Prop}
    (hown : Own H base 5 1 a n cap (strV l)) (hsrc : Src Tryd.prog H x 1 m (strV y)) (hn : n ≤ 1000000000000) (hm : m ≤ 1000000000000) (hb : base ≤ H.size) (hu : ∃ d, Tryd.prog.underlying u = some d ∧ (∀ k, d ≠ .int k))
    (hk : ∀ a' cap' H', Own H' base 5 1 a' (n + m) cap' (strV (l ++ y)) → Wr a H H' → K (.slice a' (n + m) cap') H') : NextH Tryd.prog (builtin .append #[24, u] ty cb #[.slice a n cap, x]) H K := by
  refine Go.Vc.NextH.append (i := Tryd.t5) (z := .int .u8 0) rfl hu rfl rfl rfl hown hsrc (by unfold maxLen; omega) ?_ hb fun a' cap' H' h1 h2 _ => hk a' cap' H' (by rw [strV_append]; exact h1) h2
  show (n + m) * 1 ≤ _
  omega
structure PkS where
  i : Nat
  a : Option Addr
  cap : Nat
theorem pack_any (L : Tr) (a : Option Addr) (n cap : Nat) (H : Heap) (hr : RowF H a L) (hn : L.length = n) (hn1 : n ≤ 600) (hb : ∀ f ∈ L, f.2.2.length ≤ 1000000) : CallH Tryd.prog 7 [.slice a n cap] H fun v H' =>
    (∃ a' cap', v = .slice a' (packF L).length cap' ∧ Own H' H.size 5 1 a' (packF L).length cap' (strV (packF L))) ∧ Ext H H' := by
  refine Vc.CallH.body Tryd.func7 Tryd.call7 rfl (by decide +kernel) rfl ?_
  ((conv => whnf); repeat (any_goals (first | (((with_reducible apply SemH.lit0 [.int .u8 80, .int .u8 65, .int .u8 75, .int .u8 49]); (focus (rfl)); (focus (rfl)); (focus (rfl)); (focus (rfl)); (focus (rfl)); (focus (rfl)); (focus (rfl)); (focus ((intro H1 hz1 hb1 hx1; (conv => whnf))))); (conv => whnf)) | ((refine SemH.mark0 rfl rfl hb1 hx1 (Nat.le_refl _) ?_; intro H2 hz2 hb2 hx2); (conv => whnf)) | (refine Vc.stp ?_; intros; (conv => whnf)))))
  have ho2 : Own H2 H.size 5 1 (some ⟨H.size, 0, none⟩) 4 4 (strV [80, 65, 75, 49]) := own_lit hb2 (Nat.le_refl _) rfl (by decide)
  have hpl := packP_len L hb
  refine LoopH.intro (fun (s : PkS) => [(12, .int .i64 s.i), (3, .slice s.a (packP L s.i).length s.cap)]) (fun s H' => s.i ≤ n ∧ Own H' H.size 5 1 s.a (packP L s.i).length s.cap (strV (packP L s.i)) ∧ Ext H H') (fun s => n - s.i) ⟨0, some ⟨H.size, 0, none⟩, 4⟩ ⟨rfl, rfl, trivial⟩ ⟨Nat.zero_le _, ho2, hx2⟩ ?_
  rintro ⟨i, sa, sc⟩ H3 ⟨hi, ho3, hx3⟩
  dsimp only at hi ho3 ⊢
  have hz3 := hx3.size
  have hrow := hr.ext hx3
  have hpi := hpl i (by omega)
  by_cases hlt : i < n
  · obtain ⟨f, hf⟩ : ∃ f, L[i]? = some f := ⟨_, List.getElem?_eq_getElem (by omega)⟩
    have hfb := hb f (List.mem_of_getElem? hf)
    have hsn := packP_snoc L i f hf
    have hsz : (mkS f.1).size = f.1.length := rfl
    obtain ⟨m, hm⟩ : ∃ m, m = min f.1.length 65535 := ⟨_, rfl⟩
    have hml : m ≤ 65535 ∧ m ≤ f.1.length := by omega
    have htk : (mkS f.1).extract 0 m = mkS (f.1.take m) := mkS_take _ _
    have htl : (f.1.take m).length = m := by rw [List.length_take]; omega
    have hts : (mkS (f.1.take m)).size = m := htl
    have hem : f.1.take 65535 = f.1.take m := by
      rcases Nat.le_total f.1.length 65535 with h | h
      · rw [show m = f.1.length by omega, List.take_of_length_le h, List.take_length]
      · rw [show m = 65535 by omega]
    have hmi : min ((f.1.length : Nat) : Int) 65535 = (m : Int) := by omega
    have hee : entB f = [if f.2.1 = true then 1 else 0] ++ numB m 2 ++ f.1.take m ++ (if f.2.1 = true then [] else numB f.2.2.length 8 ++ f.2.2) := by unfold entB; rw [← hm, hem]
    by_cases hd : f.2.1 = true
    · rw [if_pos hd, if_pos hd] at hee
      obtain ⟨KB, hKB⟩ : ∃ k : UInt8, k = 1 := ⟨_, rfl⟩
      ((conv => whnf); repeat (any_goals (first | ((refine IdxA.file hr hn i f (by omega) hf ?_; intro bi oi ai ci hri hci); (conv => whnf)) | (((with_reducible apply SemH.load_file); (focus ((exact hci))); (focus ((exact hx3))); (focus ((conv => whnf)))); (conv => whnf)) | ((refine BndH.nat m hmi hml.2 ?_; (conv => whnf); rw [htk]); (conv => whnf)) | ((rename_i Ha za ba xa Hx zx bx xx Hl zl bl xl; have x3l : Ext H3 Hl := (xa.but xx (by omega)).trans xl; have hol := ho3.ext x3l; have bfl : Blk Hl H3.size #[.string (mkS f.1), .bool f.2.1, .slice ai f.2.2.length ci] 26 := bx.ext xl; have blk : Blk Hl Hx.size (strV [KB]).toArray 5 := (by rw [hKB]; exact bl); refine NextH.appB (y := [KB]) hol (Src.row (Blk.row (c := strV [KB]) blk) rfl (strV_plain _)) (by omega) (by decide) (by omega) ⟨_, rfl, fun _ h => by cases h⟩ ?_; intro a4 c4 H4 ho4 hw4; have u4 := Upd.wr hol hw4; have bf4 := Upd.blk bfl u4 (by decide); have hx04 := Upd.ext u4 (hx3.trans x3l) (Nat.le_refl _); have hz4 := hx04.size); (conv => whnf)) | ((rw [hts]; refine (put_bytes (packP L i ++ [KB]) a4 _ c4 H.size m 2 H4 ho4 hz4 (by simp) (by omega) (by omega) (by decide)).mono ?_; rintro _ H5 ⟨⟨a5, c5, rfl, ho5⟩, u5⟩; have bf5 := Upd.blk bf4 u5 (by decide); have hx05 := Upd.ext u5 hx04 (Nat.le_refl _); have hz5 := hx05.size); (conv => whnf)) | ((refine NextH.appB (y := f.1.take m) (m := (mkS (f.1.take m)).size) ho5 (Src.str (mkS (f.1.take m))) (by omega) (by omega) (by omega) ⟨_, rfl, fun _ h => by cases h⟩ ?_; intro a6 c6 H6 ho6 hw6; have u6 := Upd.wr ho5 hw6; have bf6 := Upd.blk bf5 u6 (by decide); have hx06 := Upd.ext u6 hx05 (Nat.le_refl _); have hz6 := hx06.size); (conv => whnf)) | (refine Vc.stp ?_; intros; (conv => whnf)))))
      have hfin : packP L (i + 1) = packP L i ++ [KB] ++ numB m 2 ++ f.1.take m := by rw [hsn, hee, hKB]; simp
      have hfl : (packP L (i + 1)).length = (packP L i).length + 1 + 2 + (mkS (f.1.take m)).size := by rw [hfin, hts]; simp [numB_len, htl]; omega
      exact ⟨⟨i + 1, a6, c6⟩, ⟨rfl, by dsimp only; rw [hfl]; rfl, trivial⟩, ⟨by show i + 1 ≤ n; omega, by dsimp only; rw [hfl, hfin]; exact ho6, hx06⟩, by show n - (i + 1) < n - i; omega⟩
    · rw [if_neg hd, if_neg hd] at hee
      have hdf : f.2.1 = false := by simpa using hd
      obtain ⟨KB, hKB⟩ : ∃ k : UInt8, k = 0 := ⟨_, rfl⟩
      ((conv => whnf); repeat (any_goals (first | ((refine IdxA.file hr hn i f (by omega) hf ?_; intro bi oi ai ci hri hci); (conv => whnf)) | (((with_reducible apply SemH.load_file); (focus ((exact hci))); (focus ((exact hx3))); (focus ((conv => whnf)))); (conv => whnf)) | ((refine BndH.nat m hmi hml.2 ?_; (conv => whnf); rw [htk]); (conv => whnf)) | ((rename_i Ha za ba xa Hx zx bx xx Hl zl bl xl; have x3l : Ext H3 Hl := (xa.but xx (by omega)).trans xl; have hol := ho3.ext x3l; have bfl : Blk Hl H3.size #[.string (mkS f.1), .bool f.2.1, .slice ai f.2.2.length ci] 26 := bx.ext xl; have blk : Blk Hl Hx.size (strV [KB]).toArray 5 := (by rw [hKB]; exact bl); refine NextH.appB (y := [KB]) hol (Src.row (Blk.row (c := strV [KB]) blk) rfl (strV_plain _)) (by omega) (by decide) (by omega) ⟨_, rfl, fun _ h => by cases h⟩ ?_; intro a4 c4 H4 ho4 hw4; have u4 := Upd.wr hol hw4; have bf4 := Upd.blk bfl u4 (by decide); have hx04 := Upd.ext u4 (hx3.trans x3l) (Nat.le_refl _); have hz4 := hx04.size); (conv => whnf)) | ((rw [hts]; refine (put_bytes (packP L i ++ [KB]) a4 _ c4 H.size m 2 H4 ho4 hz4 (by simp) (by omega) (by omega) (by decide)).mono ?_; rintro _ H5 ⟨⟨a5, c5, rfl, ho5⟩, u5⟩; have bf5 := Upd.blk bf4 u5 (by decide); have hx05 := Upd.ext u5 hx04 (Nat.le_refl _); have hz5 := hx05.size); (conv => whnf)) | ((refine NextH.appB (y := f.1.take m) (m := (mkS (f.1.take m)).size) ho5 (Src.str (mkS (f.1.take m))) (by omega) (by omega) (by omega) ⟨_, rfl, fun _ h => by cases h⟩ ?_; intro a6 c6 H6 ho6 hw6; have u6 := Upd.wr ho5 hw6; have bf6 := Upd.blk bf5 u6 (by decide); have hx06 := Upd.ext u6 hx05 (Nat.le_refl _); have hz6 := hx06.size); (conv => whnf)) | ((refine (put_bytes (packP L i ++ [KB] ++ numB m 2 ++ f.1.take m) a6 _ c6 H.size f.2.2.length 8 H6 ho6 hz6 (by simp [numB_len]; omega) (by omega) (by omega) (by decide)).mono ?_; rintro _ H7 ⟨⟨a7, c7, rfl, ho7⟩, u7⟩; have bf7 := Upd.blk bf6 u7 (by decide); have hx07 := Upd.ext u7 hx06 (Nat.le_refl _); have hz7 := hx07.size); (conv => whnf)) | ((refine NextH.appB (y := f.2.2) (m := f.2.2.length) ho7 (Src.row (hri.ext hx07) (by rw [strV_length]; exact (Nat.mul_one _).symm) (strV_plain _)) (by omega) (by omega) (by omega) ⟨_, rfl, fun _ h => by cases h⟩ ?_; intro a8 c8 H8 ho8 hw8; have u8 := Upd.wr ho7 hw8; have hx08 := Upd.ext u8 hx07 (Nat.le_refl _)); (conv => whnf)) | (refine Vc.stp ?_; intros; (conv => whnf)))))
      have hfin : packP L (i + 1) = packP L i ++ [KB] ++ numB m 2 ++ f.1.take m ++ numB f.2.2.length 8 ++ f.2.2 := by rw [hsn, hee, hKB]; simp
      have hfl : (packP L (i + 1)).length = (packP L i).length + 1 + 2 + (mkS (f.1.take m)).size + 8 + f.2.2.length := by rw [hfin, hts]; simp [numB_len, htl]; omega
      exact ⟨⟨i + 1, a8, c8⟩, ⟨rfl, by dsimp only; rw [hfl]; rfl, trivial⟩, ⟨by show i + 1 ≤ n; omega, by dsimp only; rw [hfl, hfin]; exact ho8, hx08⟩, by show n - (i + 1) < n - i; omega⟩
  · obtain rfl : i = n := by omega
    ((conv => whnf); repeat (any_goals (first | ((rename_i Hl zl bl xl; refine NextH.appB (y := [255]) (ho3.ext xl) (Src.row (Blk.row (c := strV [255]) bl) rfl (strV_plain _)) (by omega) (by decide) (by omega) ⟨_, rfl, fun _ h => by cases h⟩ ?_; intro a4 c4 H4 ho4 hw4); (conv => whnf)) | (refine Vc.stp ?_; intros; (conv => whnf)))))
    have e : packF L = packP L L.length ++ [255] := rfl
    have el : (packF L).length = (packP L L.length).length + 1 := by rw [e, List.length_append]; rfl
    rw [hn] at e el
    rw [el, e]
    exact ⟨⟨a4, c4, rfl, ho4⟩, (hx3.trans xl).wr (ho3.ext xl) (Nat.le_refl _) hw4⟩
end Go.Proofs.YtjcmcmogbkdjcaaDoor
/- Archives: files are packed by the reference. -/
namespace Go.Proofs.YtjcmcmogbkdjcaaDoor
open Go Go.Vc Go.Scr Go.Pth Go.Tre Go.Arc
theorem rnumber_bytes (l : Bs) (a : Option Addr) (m cap base n k : Nat) (H : Heap) (ho : Own H base 5 1 a m cap (strV l)) (hb : base ≤ H.size) (hl : l.length = m) (hm : m ≤ 1000000000000) (hn : n ≤ 1000000000000) (hk : k ≤ 8) :
    CallH Tryd.prog 16 [.slice a m cap, .int .u64 n, .int .i64 k] H fun v H' => (∃ a' cap', v = .slice a' (m + k) cap' ∧ Own H' base 5 1 a' (m + k) cap' (strV (l ++ numB n k))) ∧ Upd base H H' := by
  refine Vc.CallH.body Tryd.func16 Tryd.call16 rfl (by decide +kernel) rfl ?_
  ((conv => whnf); repeat (any_goals (first | (refine Vc.stp ?_; intros; (conv => whnf)) | (refine Vc.spl ?_ ?_ <;> (intro _; (conv => whnf))))))
  refine LoopH.intro (fun (s : PuS) => [(7, .int .i64 ((k : Int) - 1 - s.i)), (0, .slice s.a (m + s.i) s.cap)]) (fun s H' => s.i ≤ k ∧ Own H' base 5 1 s.a (m + s.i) s.cap (strV (l ++ (numB n k).take s.i)) ∧ base ≤ H'.size ∧ Upd base H H') (fun s => k - s.i) ⟨0, a, cap⟩ ⟨by (show Value.int .i64 ((k : Int) - 1) = .int .i64 ((k : Int) - 1 - ((0 : Nat) : Int))); congr 1; omega, rfl, trivial⟩ ⟨Nat.zero_le _, by simpa using ho, hb, Only.refl _ _⟩ ?_
  rintro ⟨i, sa, sc⟩ H1 ⟨hi, ho1, hb1, hx1⟩
  dsimp only at hi ho1 ⊢
  by_cases hlt : i < k
  · have hsh := shr_byte n k i hlt hk
    have htl : ((numB n k).take i).length = i := by rw [List.length_take, numB_len]; omega
    ((conv => whnf); repeat (any_goals (first | ((refine ArithH.u8m ?_; rw [hsh]); (conv => whnf)) | ((rename_i Hl zl bl xl; refine NextH.push1b bl (ho1.ext xl) (by omega) (by omega) rfl ⟨_, rfl, fun _ h => by cases h⟩ rfl rfl rfl rfl rfl rfl rfl ?_; intro a2 c2 H2 ho2 hz2 hw2); (conv => whnf)) | (refine Vc.stp ?_; intros; (conv => whnf)))))
    refine ⟨⟨i + 1, a2, c2⟩, ⟨by (show Value.int .i64 ((k : Int) - 1 - (i : Int) - 1) = .int .i64 ((k : Int) - 1 - ((i + 1 : Nat) : Int))); congr 1; omega, rfl, trivial⟩, ⟨by show i + 1 ≤ k; omega, ?_, by omega, (hx1.then xl.only).then (Upd.wr (ho1.ext xl) hw2)⟩, by show k - (i + 1) < k - i; omega⟩
    show Own H2 base _ 1 a2 (m + (i + 1)) c2 _
    rw [numB_take n k i hlt, ← List.append_assoc, strV_append, ← Nat.add_assoc]; exact ho2
  · obtain rfl : i = k := by omega
    rw [List.take_of_length_le (by rw [numB_len]; exact Nat.le_refl _)] at ho1
    ((conv => whnf); repeat (any_goals (first | (refine Vc.stp ?_; intros; (conv => whnf)))))
    exact ⟨⟨sa, sc, rfl, ho1⟩, hx1⟩
set_option maxHeartbeats 1000000 in
theorem rpack_any (L : Tr) (a : Option Addr) (n cap : Nat) (H : Heap) (hr : RowF H a L) (hn : L.length = n) (hn1 : n ≤ 600) (hb : ∀ f ∈ L, f.2.2.length ≤ 1000000) : CallH Tryd.prog 6 [.slice a n cap] H fun v H' =>
    (∃ a' cap', v = .slice a' (packF L).length cap' ∧ Own H' H.size 5 1 a' (packF L).length cap' (strV (packF L))) ∧ Ext H H' := by
  refine Vc.CallH.body Tryd.func6 Tryd.call6 rfl (by decide +kernel) rfl ?_
  ((conv => whnf); repeat (any_goals (first | (((with_reducible apply SemH.lit0 [.int .u8 80, .int .u8 65, .int .u8 75, .int .u8 49]); (focus (rfl)); (focus (rfl)); (focus (rfl)); (focus (rfl)); (focus (rfl)); (focus (rfl)); (focus (rfl)); (focus ((intro H1 hz1 hb1 hx1; (conv => whnf))))); (conv => whnf)) | ((refine SemH.mark0 rfl rfl hb1 hx1 (Nat.le_refl _) ?_; intro H2 hz2 hb2 hx2); (conv => whnf)) | (refine Vc.stp ?_; intros; (conv => whnf)))))
  have ho2 : Own H2 H.size 5 1 (some ⟨H.size, 0, none⟩) 4 4 (strV [80, 65, 75, 49]) := own_lit hb2 (Nat.le_refl _) rfl (by decide)
  have hpl := packP_len L hb
  refine LoopH.intro (fun (s : PkS) => [(4, .int .i64 s.i), (3, .slice s.a (packP L s.i).length s.cap)]) (fun s H' => s.i ≤ n ∧ Own H' H.size 5 1 s.a (packP L s.i).length s.cap (strV (packP L s.i)) ∧ Ext H H') (fun s => n - s.i) ⟨0, some ⟨H.size, 0, none⟩, 4⟩ ⟨rfl, rfl, trivial⟩ ⟨Nat.zero_le _, ho2, hx2⟩ ?_
  rintro ⟨i, sa, sc⟩ H3 ⟨hi, ho3, hx3⟩
  dsimp only at hi ho3 ⊢
  have hz3 := hx3.size
  have hpi := hpl i (by omega)
  by_cases hlt : i < n
  · obtain ⟨f, hf⟩ : ∃ f, L[i]? = some f := ⟨_, List.getElem?_eq_getElem (by omega)⟩
    have hfb := hb f (List.mem_of_getElem? hf)
    have hsn := packP_snoc L i f hf
    have hsz : (mkS f.1).size = f.1.length := rfl
    by_cases hlong : f.1.length ≤ 65535
    · obtain ⟨P0, hP0⟩ : ∃ P0, P0 = f.1 := ⟨_, rfl⟩
      have hts : (mkS P0).size = P0.length := rfl
      have hpl0 : P0.length ≤ 65535 := by rw [hP0]; exact hlong
      have hee : entB f = [if f.2.1 = true then 1 else 0] ++ numB P0.length 2 ++ P0 ++ (if f.2.1 = true then [] else numB f.2.2.length 8 ++ f.2.2) := by unfold entB; rw [Nat.min_eq_left hlong, List.take_of_length_le hlong, hP0]
      by_cases hd : f.2.1 = true
      · rw [if_pos hd, if_pos hd] at hee
        obtain ⟨KB, hKB⟩ : ∃ k : UInt8, k = 1 := ⟨_, rfl⟩
        ((conv => whnf); repeat (any_goals (first | ((refine IdxA.file hr hn i f (by omega) hf ?_; intro bi oi ai ci hri hci; have hd0 := hci 0 _ rfl; have hd1 := hci 1 _ rfl; have hd2 := hci 2 _ rfl; try rw [← hP0] at hd0); (conv => whnf)) | ((rename_i Hl zl bl xl; have hol := ho3.ext xl; have blk : Blk Hl H3.size (strV [KB]).toArray 5 := (by rw [hKB]; exact bl); refine NextH.appB (y := [KB]) hol (Src.row (Blk.row (c := strV [KB]) blk) rfl (strV_plain _)) (by omega) (by decide) (by omega) ⟨_, rfl, fun _ h => by cases h⟩ ?_; intro a4 c4 H4 ho4 hw4; have u4 := Upd.wr hol hw4; have hx04 := Upd.ext u4 (hx3.trans xl) (Nat.le_refl _); have hz4 := hx04.size); (conv => whnf)) | ((refine (rnumber_bytes (packP L i ++ [KB]) a4 _ c4 H.size P0.length 2 H4 ho4 hz4 (by simp) (by omega) (by omega) (by decide)).mono ?_; rintro _ H5 ⟨⟨a5, c5, rfl, ho5⟩, u5⟩; have hx05 := Upd.ext u5 hx04 (Nat.le_refl _); have hz5 := hx05.size); (conv => whnf)) | ((refine NextH.appB (y := P0) (m := (mkS (P0)).size) ho5 (Src.str (mkS (P0))) (by omega) (by omega) (by omega) ⟨_, rfl, fun _ h => by cases h⟩ ?_; intro a6 c6 H6 ho6 hw6; have u6 := Upd.wr ho5 hw6; have hx06 := Upd.ext u6 hx05 (Nat.le_refl _); have hz6 := hx06.size); (conv => whnf)) | (((with_reducible refine Vc.DrawH.held [0, 1, 2, 3, 4, 5, 6, 7, 9, 10, 11, 12, 13, 8, 14, 15] [(8, [13])] mixed (by decide +kernel) ?_)); (conv => whnf)) | (refine Vc.stp ?_; intros; (conv => whnf)))))
        have hfin : packP L (i + 1) = packP L i ++ [KB] ++ numB P0.length 2 ++ P0 := by rw [hsn, hee, hKB]; simp
        have hfl : (packP L (i + 1)).length = (packP L i).length + 1 + 2 + (mkS P0).size := by rw [hfin, hts]; simp [numB_len]; omega
        exact ⟨⟨i + 1, a6, c6⟩, ⟨rfl, by dsimp only; rw [hfl]; rfl, trivial⟩, ⟨by show i + 1 ≤ n; omega, by dsimp only; rw [hfl, hfin]; exact ho6, hx06⟩, by show n - (i + 1) < n - i; omega⟩
      · rw [if_neg hd, if_neg hd] at hee
        have hdf : f.2.1 = false := by simpa using hd
        obtain ⟨KB, hKB⟩ : ∃ k : UInt8, k = 0 := ⟨_, rfl⟩
        ((conv => whnf); repeat (any_goals (first | ((refine IdxA.file hr hn i f (by omega) hf ?_; intro bi oi ai ci hri hci; have hd0 := hci 0 _ rfl; have hd1 := hci 1 _ rfl; have hd2 := hci 2 _ rfl; try rw [← hP0] at hd0); (conv => whnf)) | ((rename_i Hl zl bl xl; have hol := ho3.ext xl; have blk : Blk Hl H3.size (strV [KB]).toArray 5 := (by rw [hKB]; exact bl); refine NextH.appB (y := [KB]) hol (Src.row (Blk.row (c := strV [KB]) blk) rfl (strV_plain _)) (by omega) (by decide) (by omega) ⟨_, rfl, fun _ h => by cases h⟩ ?_; intro a4 c4 H4 ho4 hw4; have u4 := Upd.wr hol hw4; have hx04 := Upd.ext u4 (hx3.trans xl) (Nat.le_refl _); have hz4 := hx04.size); (conv => whnf)) | ((refine (rnumber_bytes (packP L i ++ [KB]) a4 _ c4 H.size P0.length 2 H4 ho4 hz4 (by simp) (by omega) (by omega) (by decide)).mono ?_; rintro _ H5 ⟨⟨a5, c5, rfl, ho5⟩, u5⟩; have hx05 := Upd.ext u5 hx04 (Nat.le_refl _); have hz5 := hx05.size); (conv => whnf)) | ((refine NextH.appB (y := P0) (m := (mkS (P0)).size) ho5 (Src.str (mkS (P0))) (by omega) (by omega) (by omega) ⟨_, rfl, fun _ h => by cases h⟩ ?_; intro a6 c6 H6 ho6 hw6; have u6 := Upd.wr ho5 hw6; have hx06 := Upd.ext u6 hx05 (Nat.le_refl _); have hz6 := hx06.size); (conv => whnf)) | ((refine (rnumber_bytes (packP L i ++ [KB] ++ numB P0.length 2 ++ P0) a6 _ c6 H.size f.2.2.length 8 H6 ho6 hz6 (by simp [numB_len]; omega) (by omega) (by omega) (by decide)).mono ?_; rintro _ H7 ⟨⟨a7, c7, rfl, ho7⟩, u7⟩; have hx07 := Upd.ext u7 hx06 (Nat.le_refl _); have hz7 := hx07.size); (conv => whnf)) | ((refine NextH.appB (y := f.2.2) (m := f.2.2.length) ho7 (Src.row (hri.ext hx07) (by rw [strV_length]; exact (Nat.mul_one _).symm) (strV_plain _)) (by omega) (by omega) (by omega) ⟨_, rfl, fun _ h => by cases h⟩ ?_; intro a8 c8 H8 ho8 hw8; have u8 := Upd.wr ho7 hw8; have hx08 := Upd.ext u8 hx07 (Nat.le_refl _)); (conv => whnf)) | (((with_reducible refine Vc.DrawH.held [0, 1, 2, 3, 4, 5, 6, 7, 9, 10, 11, 12, 13, 8, 14, 15] [(8, [13])] mixed (by decide +kernel) ?_)); (conv => whnf)) | (refine Vc.stp ?_; intros; (conv => whnf)))))
        have hfin : packP L (i + 1) = packP L i ++ [KB] ++ numB P0.length 2 ++ P0 ++ numB f.2.2.length 8 ++ f.2.2 := by rw [hsn, hee, hKB]; simp
        have hfl : (packP L (i + 1)).length = (packP L i).length + 1 + 2 + (mkS P0).size + 8 + f.2.2.length := by rw [hfin, hts]; simp [numB_len]; omega
        exact ⟨⟨i + 1, a8, c8⟩, ⟨rfl, by dsimp only; rw [hfl]; rfl, trivial⟩, ⟨by show i + 1 ≤ n; omega, by dsimp only; rw [hfl, hfin]; exact ho8, hx08⟩, by show n - (i + 1) < n - i; omega⟩
    · obtain ⟨P0, hP0⟩ : ∃ P0, f.1.take 65535 = P0 := ⟨_, rfl⟩
      have hts : (mkS P0).size = P0.length := rfl
      have hpl0 : P0.length = 65535 := by rw [← hP0, List.length_take]; omega
      have hsl : (mkS f.1).extract 0 65535 = mkS P0 := by rw [← hP0]; exact mkS_take _ _
      have hee : entB f = [if f.2.1 = true then 1 else 0] ++ numB P0.length 2 ++ P0 ++ (if f.2.1 = true then [] else numB f.2.2.length 8 ++ f.2.2) := by unfold entB; rw [Nat.min_eq_right (by omega), hP0, hpl0]
      by_cases hd : f.2.1 = true
      · rw [if_pos hd, if_pos hd] at hee
        obtain ⟨KB, hKB⟩ : ∃ k : UInt8, k = 1 := ⟨_, rfl⟩
        ((conv => whnf); repeat (any_goals (first | ((refine IdxA.file hr hn i f (by omega) hf ?_; intro bi oi ai ci hri hci; have hd0 := hci 0 _ rfl; have hd1 := hci 1 _ rfl; have hd2 := hci 2 _ rfl; try rw [← hP0] at hd0); (conv => whnf)) | ((refine BndH.nat 65535 rfl (by (show 65535 ≤ f.1.length); omega) ?_; (conv => whnf); rw [hsl]); (conv => whnf)) | ((rename_i Hl zl bl xl; have hol := ho3.ext xl; have blk : Blk Hl H3.size (strV [KB]).toArray 5 := (by rw [hKB]; exact bl); refine NextH.appB (y := [KB]) hol (Src.row (Blk.row (c := strV [KB]) blk) rfl (strV_plain _)) (by omega) (by decide) (by omega) ⟨_, rfl, fun _ h => by cases h⟩ ?_; intro a4 c4 H4 ho4 hw4; have u4 := Upd.wr hol hw4; have hx04 := Upd.ext u4 (hx3.trans xl) (Nat.le_refl _); have hz4 := hx04.size); (conv => whnf)) | ((refine (rnumber_bytes (packP L i ++ [KB]) a4 _ c4 H.size P0.length 2 H4 ho4 hz4 (by simp) (by omega) (by omega) (by decide)).mono ?_; rintro _ H5 ⟨⟨a5, c5, rfl, ho5⟩, u5⟩; have hx05 := Upd.ext u5 hx04 (Nat.le_refl _); have hz5 := hx05.size); (conv => whnf)) | ((refine NextH.appB (y := P0) (m := (mkS (P0)).size) ho5 (Src.str (mkS (P0))) (by omega) (by omega) (by omega) ⟨_, rfl, fun _ h => by cases h⟩ ?_; intro a6 c6 H6 ho6 hw6; have u6 := Upd.wr ho5 hw6; have hx06 := Upd.ext u6 hx05 (Nat.le_refl _); have hz6 := hx06.size); (conv => whnf)) | (((with_reducible refine Vc.DrawH.held [0, 1, 2, 3, 4, 5, 6, 7, 9, 10, 11, 12, 13, 8, 14, 15] [(8, [13])] mixed (by decide +kernel) ?_)); (conv => whnf)) | (refine Vc.stp ?_; intros; (conv => whnf)))))
        have hfin : packP L (i + 1) = packP L i ++ [KB] ++ numB P0.length 2 ++ P0 := by rw [hsn, hee, hKB]; simp
        have hfl : (packP L (i + 1)).length = (packP L i).length + 1 + 2 + (mkS P0).size := by rw [hfin, hts]; simp [numB_len]; omega
        exact ⟨⟨i + 1, a6, c6⟩, ⟨rfl, by dsimp only; rw [hfl]; rfl, trivial⟩, ⟨by show i + 1 ≤ n; omega, by dsimp only; rw [hfl, hfin]; exact ho6, hx06⟩, by show n - (i + 1) < n - i; omega⟩
      · rw [if_neg hd, if_neg hd] at hee
        have hdf : f.2.1 = false := by simpa using hd
        obtain ⟨KB, hKB⟩ : ∃ k : UInt8, k = 0 := ⟨_, rfl⟩
        ((conv => whnf); repeat (any_goals (first | ((refine IdxA.file hr hn i f (by omega) hf ?_; intro bi oi ai ci hri hci; have hd0 := hci 0 _ rfl; have hd1 := hci 1 _ rfl; have hd2 := hci 2 _ rfl; try rw [← hP0] at hd0); (conv => whnf)) | ((refine BndH.nat 65535 rfl (by (show 65535 ≤ f.1.length); omega) ?_; (conv => whnf); rw [hsl]); (conv => whnf)) | ((rename_i Hl zl bl xl; have hol := ho3.ext xl; have blk : Blk Hl H3.size (strV [KB]).toArray 5 := (by rw [hKB]; exact bl); refine NextH.appB (y := [KB]) hol (Src.row (Blk.row (c := strV [KB]) blk) rfl (strV_plain _)) (by omega) (by decide) (by omega) ⟨_, rfl, fun _ h => by cases h⟩ ?_; intro a4 c4 H4 ho4 hw4; have u4 := Upd.wr hol hw4; have hx04 := Upd.ext u4 (hx3.trans xl) (Nat.le_refl _); have hz4 := hx04.size); (conv => whnf)) | ((refine (rnumber_bytes (packP L i ++ [KB]) a4 _ c4 H.size P0.length 2 H4 ho4 hz4 (by simp) (by omega) (by omega) (by decide)).mono ?_; rintro _ H5 ⟨⟨a5, c5, rfl, ho5⟩, u5⟩; have hx05 := Upd.ext u5 hx04 (Nat.le_refl _); have hz5 := hx05.size); (conv => whnf)) | ((refine NextH.appB (y := P0) (m := (mkS (P0)).size) ho5 (Src.str (mkS (P0))) (by omega) (by omega) (by omega) ⟨_, rfl, fun _ h => by cases h⟩ ?_; intro a6 c6 H6 ho6 hw6; have u6 := Upd.wr ho5 hw6; have hx06 := Upd.ext u6 hx05 (Nat.le_refl _); have hz6 := hx06.size); (conv => whnf)) | ((refine (rnumber_bytes (packP L i ++ [KB] ++ numB P0.length 2 ++ P0) a6 _ c6 H.size f.2.2.length 8 H6 ho6 hz6 (by simp [numB_len]; omega) (by omega) (by omega) (by decide)).mono ?_; rintro _ H7 ⟨⟨a7, c7, rfl, ho7⟩, u7⟩; have hx07 := Upd.ext u7 hx06 (Nat.le_refl _); have hz7 := hx07.size); (conv => whnf)) | ((refine NextH.appB (y := f.2.2) (m := f.2.2.length) ho7 (Src.row (hri.ext hx07) (by rw [strV_length]; exact (Nat.mul_one _).symm) (strV_plain _)) (by omega) (by omega) (by omega) ⟨_, rfl, fun _ h => by cases h⟩ ?_; intro a8 c8 H8 ho8 hw8; have u8 := Upd.wr ho7 hw8; have hx08 := Upd.ext u8 hx07 (Nat.le_refl _)); (conv => whnf)) | (((with_reducible refine Vc.DrawH.held [0, 1, 2, 3, 4, 5, 6, 7, 9, 10, 11, 12, 13, 8, 14, 15] [(8, [13])] mixed (by decide +kernel) ?_)); (conv => whnf)) | (refine Vc.stp ?_; intros; (conv => whnf)))))
        have hfin : packP L (i + 1) = packP L i ++ [KB] ++ numB P0.length 2 ++ P0 ++ numB f.2.2.length 8 ++ f.2.2 := by rw [hsn, hee, hKB]; simp
        have hfl : (packP L (i + 1)).length = (packP L i).length + 1 + 2 + (mkS P0).size + 8 + f.2.2.length := by rw [hfin, hts]; simp [numB_len]; omega
        exact ⟨⟨i + 1, a8, c8⟩, ⟨rfl, by dsimp only; rw [hfl]; rfl, trivial⟩, ⟨by show i + 1 ≤ n; omega, by dsimp only; rw [hfl, hfin]; exact ho8, hx08⟩, by show n - (i + 1) < n - i; omega⟩
  · obtain rfl : i = n := by omega
    ((conv => whnf); repeat (any_goals (first | ((rename_i Hl zl bl xl; refine NextH.appB (y := [255]) (ho3.ext xl) (Src.row (Blk.row (c := strV [255]) bl) rfl (strV_plain _)) (by omega) (by decide) (by omega) ⟨_, rfl, fun _ h => by cases h⟩ ?_; intro a4 c4 H4 ho4 hw4); (conv => whnf)) | (refine Vc.stp ?_; intros; (conv => whnf)))))
    have e : packF L = packP L L.length ++ [255] := rfl
    have el : (packF L).length = (packP L L.length).length + 1 := by rw [e, List.length_append]; rfl
    rw [hn] at e el
    rw [el, e]
    exact ⟨⟨a4, c4, rfl, ho4⟩, (hx3.trans xl).wr (ho3.ext xl) (Nat.le_refl _) hw4⟩
end Go.Proofs.YtjcmcmogbkdjcaaDoor
/- Archives, plain: how bytes are read. -/
namespace Go.Arc
open Go.Scr Go.Pth Go.Tre
abbrev Fi := Txt × Tre.Node
/-- a number out of bytes, the highest first -/
def rdN (b : Txt) : Nat := b.foldl (fun n c => n * 256 + c.toNat) 0
theorem rdN_snoc (b : Txt) (c : UInt8) : rdN (b ++ [c]) = rdN b * 256 + c.toNat := by simp [rdN, List.foldl_append]
theorem rdN_lt : ∀ (b : Txt), rdN b < 256 ^ b.length := by
  intro b
  have : ∀ (b : Txt) (n : Nat), b.foldl (fun n c => n * 256 + c.toNat) n < (n + 1) * 256 ^ b.length := by
    intro b
    induction b with
    | nil => intro n; simp
    | cons c b ih =>
      intro n
      have h1 := ih (n * 256 + c.toNat)
      have h2 := c.toNat_lt
      rw [List.foldl_cons, List.length_cons, Nat.pow_succ]
      refine Nat.lt_of_lt_of_le h1 ?_
      rw [Nat.mul_comm (256 ^ b.length) 256, ← Nat.mul_assoc]
      exact Nat.mul_le_mul_right _ (by omega)
  have h := this b 0
  simpa [rdN] using h
/-- one entry: an error; or the end; or a file and what is behind it -/
def stepA (b : Txt) (cnt : Nat) : Nat ⊕ (Option (Fi × Txt)) := match b with
  | [] => .inl 64
  | k :: b1 =>
    if k = 255 then (if b1 = [] then .inr none else .inl 64)
    else if ¬ (k.toNat ≤ 1 ∧ cnt < 500) then .inl 64
    else if b1.length < 2 then .inl 64
    else if (b1.drop 2).length < rdN (b1.take 2) then .inl 64
    else if (cleanF ((b1.drop 2).take (rdN (b1.take 2)))).2 = 51 then .inl 51
    else if (cleanF ((b1.drop 2).take (rdN (b1.take 2)))).2 ≠ 0 then .inl 64
    else if k = 1 then .inr (some (((b1.drop 2).take (rdN (b1.take 2)), true, []), (b1.drop 2).drop (rdN (b1.take 2))))
    else if ((b1.drop 2).drop (rdN (b1.take 2))).length < 8 then .inl 64
    else if (((b1.drop 2).drop (rdN (b1.take 2))).drop 8).length < rdN (((b1.drop 2).drop (rdN (b1.take 2))).take 8) then .inl 64
    else .inr (some (((b1.drop 2).take (rdN (b1.take 2)), false, (((b1.drop 2).drop (rdN (b1.take 2))).drop 8).take (rdN (((b1.drop 2).drop (rdN (b1.take 2))).take 8))),
      (((b1.drop 2).drop (rdN (b1.take 2))).drop 8).drop (rdN (((b1.drop 2).drop (rdN (b1.take 2))).take 8))))
theorem stepA_lt {b : Txt} {cnt : Nat} {f : Fi} {r : Txt} (h : stepA b cnt = .inr (some (f, r))) : r.length < b.length := by
  unfold stepA at h
  cases b with
  | nil => cases h
  | cons k b1 =>
    dsimp only at h
    split at h
    · split at h <;> cases h
    split at h
    · cases h
    split at h
    · cases h
    split at h
    · cases h
    split at h
    · cases h
    split at h
    · cases h
    split at h
    · cases h; simp only [List.length_drop, List.length_cons]; omega
    split at h
    · cases h
    split at h
    · cases h
    · cases h; simp only [List.length_drop, List.length_cons]; omega
def parseGo : Nat → Txt → List Fi → List Fi × Nat
  | 0, _, _ => ([], 64)
  | fuel + 1, b, L => match stepA b L.length with
    | .inl c => ([], c)
    | .inr none => (L, 0)
    | .inr (some (f, r)) => parseGo fuel r (L ++ [f])
def parseF (b : Txt) (L : List Fi) : List Fi × Nat := parseGo (b.length + 1) b L
theorem parseGo_enough : ∀ (n m : Nat) (b : Txt) (L : List Fi), b.length < n → b.length < m → parseGo n b L = parseGo m b L
  | 0, _, b, L, h, _ => by omega
  | _ + 1, 0, b, L, _, h => by omega
  | n + 1, m + 1, b, L, h1, h2 => by
    unfold parseGo
    cases hs : stepA b L.length with
    | inl c => rfl
    | inr o =>
      cases o with
      | none => rfl
      | some p =>
        obtain ⟨f, r⟩ := p
        have := stepA_lt hs
        exact parseGo_enough n m r (L ++ [f]) (by omega) (by omega)
theorem parseF_eq (b : Txt) (L : List Fi) : parseF b L = match stepA b L.length with
    | .inl c => ([], c)
    | .inr none => (L, 0)
    | .inr (some (f, r)) => parseF r (L ++ [f]) := by
  have e : parseF b L = match stepA b L.length with
    | .inl c => ([], c)
    | .inr none => (L, 0)
    | .inr (some (f, r)) => parseGo b.length r (L ++ [f]) := rfl
  rw [e]
  cases hs : stepA b L.length with
  | inl c => rfl
  | inr o =>
    cases o with
    | none => rfl
    | some p =>
      obtain ⟨f, r⟩ := p
      have := stepA_lt hs
      exact parseGo_enough _ _ r (L ++ [f]) this (Nat.lt_succ_self _)
theorem step_small {b : Txt} {cnt : Nat} {f : Fi} {r : Txt} (h : stepA b cnt = .inr (some (f, r))) : f.1.length ≤ b.length ∧ f.2.2.length ≤ b.length ∧ r.length ≤ b.length := by
  unfold stepA at h
  cases b with
  | nil => cases h
  | cons k b1 =>
    dsimp only at h
    split at h
    · split at h <;> cases h
    split at h
    · cases h
    split at h
    · cases h
    split at h
    · cases h
    split at h
    · cases h
    split at h
    · cases h
    split at h
    · cases h
      refine ⟨?_, Nat.zero_le _, ?_⟩
      · simp only [List.length_take, List.length_drop, List.length_cons]; omega
      · simp only [List.length_drop, List.length_cons]; omega
    split at h
    · cases h
    split at h
    · cases h
    · cases h
      refine ⟨?_, ?_, ?_⟩
      · simp only [List.length_take, List.length_drop, List.length_cons]; omega
      · simp only [List.length_take, List.length_drop, List.length_cons]; omega
      · simp only [List.length_drop, List.length_cons]; omega
theorem parse_small : ∀ (n : Nat) (b : Txt) (L : List Fi) (B : Nat), b.length ≤ B → (∀ f ∈ L, f.1.length ≤ B ∧ f.2.2.length ≤ B) → ∀ f ∈ (parseGo n b L).1, f.1.length ≤ B ∧ f.2.2.length ≤ B
  | 0, _, _, _, _, _ => by intro f hf; cases hf
  | n + 1, b, L, B, hb, hL => by
    unfold parseGo
    cases hs : stepA b L.length with
    | inl c => intro f hf; cases hf
    | inr o =>
      cases o with
      | none => exact hL
      | some p =>
        obtain ⟨f, r⟩ := p
        obtain ⟨h1, h2, h3⟩ := step_small hs
        refine parse_small n r (L ++ [f]) B (by omega) fun g hg => ?_
        rcases List.mem_append.1 hg with hg | hg
        · exact hL g hg
        · rw [List.mem_singleton.1 hg]; exact ⟨by omega, by omega⟩
theorem of_codeA (L : List Fi) : ((ofF L).1 = none ↔ (ofF L).2 ≠ 0) := by
  have key : ∀ (L : List Fi) (A : Tr) (seen : List Txt), ((ofGo A seen L).1 = none ↔ (ofGo A seen L).2 ≠ 0) := by
    intro L
    induction L with
    | nil => intro A seen; rw [ofGo]; simp
    | cons f fs ih =>
      intro A seen
      rw [ofGo]
      split
      · rename_i h; simpa using h
      · split
        · simp
        · split
          · rename_i h; simpa using h
          · exact ih _ _
  exact key L [] []
/-- what Open answers -/
def openF (b : Txt) : List Fi × Nat :=
  if b.length ≤ 262144 ∧ b.take 4 = [80, 65, 75, 49] then
    if (parseF (b.drop 4) []).2 = 0 then
      match ofF (parseF (b.drop 4) []).1 with
      | (some A, _) => (A, 0)
      | (none, _) => ([], 64)
    else ([], (parseF (b.drop 4) []).2)
  else ([], 64)
end Go.Arc
/- Archives, the code: the reader. -/
namespace Go.Proofs.YtjcmcmogbkdjcaaDoor
open Go Go.Vc Go.Scr Go.Pth Go.Tre Go.Arc
def stopA (c : Nat) : Value := .iface 37 (.agg #[.int .i64 c])
def stopAC (c : Nat) : List PanicEntry := [{ v := stopA c, recovered := false }]
theorem mustA_any (b : Bool) (c : Nat) (H : Heap) (R : Value → Heap → Prop) (X : Panics) (ht : b = true → R (.tuple #[]) H) (hf : b = false → X (stopAC c) H) : CallX Tryd.prog 11 [.bool b, .int .i64 c] H R X := by
  refine Vc.CallX.body Tryd.func11 Tryd.call11 rfl (by decide +kernel) rfl ?_
  cases b
  · ((conv => whnf); repeat (any_goals (first | (refine Vc.sts ?_; (conv => whnf)))))
    refine PureH.build #[.int .i64 c] (by kernel_rfl) ?_
    ((conv => whnf); repeat (any_goals (first | (refine Vc.sts ?_; (conv => whnf)))))
    exact ⟨hf rfl⟩
  · ((conv => whnf); repeat (any_goals (first | (refine Vc.sts ?_; (conv => whnf)))))
    exact ht rfl
theorem mustA_ok {b : Bool} {c : Nat} {R : Value → Heap → Prop} {X : Panics} {H : Heap} (hb : b = true) (h : R (.tuple #[]) H) : CallX Tryd.prog 11 [.bool b, .int .i64 c] H R X := mustA_any _ _ _ _ _ (fun _ => h) (fun e => by rw [hb] at e; cases e)
theorem mustA_no {b : Bool} {c : Nat} {R : Value → Heap → Prop} {X : Panics} {H : Heap} (hb : b = false) (h : X (stopAC c) H) : CallX Tryd.prog 11 [.bool b, .int .i64 c] H R X := mustA_any _ _ _ _ _ (fun e => by rw [hb] at e; cases e) (fun _ => h)
/-- a reader over bytes of an older heap -/
structure RdA (H0 H : Heap) (g : Nat) (l : Bs) (a : Option Addr) (cap : Nat) : Prop where
  blk : Blk H g #[.slice a l.length cap] 43
  row : Row H0 a (strV l)
  hcap : l.length ≤ cap
  hmax : cap ≤ maxLen
  low : H0.size ≤ g
  ext : Ext H0 H
theorem RdA.up {H0 H H' : Heap} {g : Nat} {l : Bs} {a : Option Addr} {cap : Nat} (h : RdA H0 H g l a cap) (k : Ext H H') : RdA H0 H' g l a cap := ⟨h.blk.ext k, h.row, h.hcap, h.hmax, h.low, h.ext.trans k⟩
theorem RdA.keep {F : Nat → Prop} {H0 H H' : Heap} {g : Nat} {l : Bs} {a : Option Addr} {cap : Nat} (h : RdA H0 H g l a cap) (k : Only F H H') (hg : ¬ F g) (hx : Ext H0 H') : RdA H0 H' g l a cap := ⟨h.blk.keep k hg, h.row, h.hcap, h.hmax, h.low, hx⟩
theorem take_any (H0 : Heap) (g : Nat) (l : Bs) (a : Option Addr) (cap n : Nat) (H : Heap) (hr : RdA H0 H g l a cap) (hn : n < 18446744073709551616) (hl : l.length ≤ 1000000000) :
    CallX Tryd.prog 26 [.pointer (some ⟨g, 0, none⟩), .int .u64 n] H
      (fun v H' => n ≤ l.length ∧ v = .slice a n cap ∧ RdA H0 H' g (l.drop n) (sliceBase a cap n 1) (cap - n) ∧ But g H H')
      (fun c H' => ¬ n ≤ l.length ∧ c = stopAC 64 ∧ H = H') := by
  have hb := hr.blk
  have hcp := hr.hcap
  have hmx := hr.hmax
  unfold maxLen at hmx
  refine Vc.CallX.body Tryd.func26 Tryd.call26 rfl (by decide +kernel) rfl ?_
  by_cases h : n ≤ l.length
  · have e : l.length - n = (l.drop n).length := by rw [List.length_drop]
    ((conv => whnf); repeat (any_goals (first | ((refine mustA_ok (by rw [decide_eq_true_eq]; omega) ?_); (conv => whnf)) | ((refine BndH.nat n rfl (by omega) ?_); (conv => whnf)) | (refine Vc.stp ?_; intros; (conv => whnf)))))
    rename_i H2 z2 b2 x2
    have b2 : Blk H2 g #[.slice (sliceBase a cap n 1) (l.length - n) (cap - n)] 43 := b2
    rw [e] at b2
    refine ⟨h, rfl, ⟨b2, ?_, by rw [← e]; omega, by unfold maxLen; omega, hr.low, hr.ext.but x2 hr.low⟩, x2⟩
    have := hr.row.drop cap n 1 (by rw [strV_length]; omega)
    rwa [Nat.mul_one, strV_drop] at this
  · ((conv => whnf); repeat (any_goals (first | ((refine mustA_no (by rw [decide_eq_false_iff_not]; omega) ?_); (conv => whnf)) | (refine Vc.stp ?_; intros; (conv => whnf)))))
    exact ⟨h, rfl, rfl⟩
theorem shl_or (n c : Nat) (hn : n < 72057594037927936) (hc : c < 256) : bitB .u64 .or (shlB .u64 (n : Int) 8) (c : Int) = ((n * 256 + c : Nat) : Int) := by
  have e1 : shlB .u64 (n : Int) 8 = ((n * 256 : Nat) : Int) := by
    unfold shlB
    show IntKind.u64.wrap ((n : Int) * 2 ^ 8) = _
    rw [show ((n : Int) * 2 ^ 8) = ((n * 256 : Nat) : Int) by omega]
    exact Go.Vc.wrap_small IntKind.u64 rfl (by omega) (by show ((n * 256 : Nat) : Int) < 2 ^ 64; omega)
  rw [e1]
  unfold bitB
  show IntKind.u64.wrap _ = _
  have e2 : ((BitVec.ofInt IntKind.u64.bits ((n * 256 : Nat) : Int)) ||| (BitVec.ofInt IntKind.u64.bits (c : Int))).toNat = n * 256 + c := by
    rw [BitVec.toNat_or]
    have k1 : (BitVec.ofInt IntKind.u64.bits ((n * 256 : Nat) : Int)).toNat = n * 256 := by
      rw [BitVec.ofInt_natCast, BitVec.toNat_ofNat]
      exact Nat.mod_eq_of_lt (by show n * 256 < 2 ^ 64; omega)
    have k2 : (BitVec.ofInt IntKind.u64.bits (c : Int)).toNat = c := by
      rw [BitVec.ofInt_natCast, BitVec.toNat_ofNat]
      exact Nat.mod_eq_of_lt (by show c < 2 ^ 64; omega)
    rw [k1, k2]
    have := Nat.shiftLeft_add_eq_or_of_lt (b := c) (i := 8) (by simpa using hc) n
    rw [Nat.shiftLeft_eq] at this
    simpa using this.symm
  rw [e2]
  exact Go.Vc.wrap_small IntKind.u64 rfl (by omega) (by show ((n * 256 + c : Nat) : Int) < 2 ^ 64; omega)
theorem number_any (H0 : Heap) (g : Nat) (l : Bs) (a : Option Addr) (cap k : Nat) (H : Heap) (hr : RdA H0 H g l a cap) (hk : k ≤ 8) (hl : l.length ≤ 1000000000) :
    CallX Tryd.prog 27 [.pointer (some ⟨g, 0, none⟩), .int .u64 k] H
      (fun v H' => k ≤ l.length ∧ v = .int .u64 (rdN (l.take k)) ∧ (∃ a' cap', RdA H0 H' g (l.drop k) a' cap') ∧ But g H H')
      (fun c H' => ¬ k ≤ l.length ∧ c = stopAC 64 ∧ H = H') := by
  have ht := take_any H0 g l a cap k H hr (by omega) hl
  refine Vc.CallX.body Tryd.func27 Tryd.call27 rfl (by decide +kernel) rfl ?_
  ((conv => whnf); repeat (any_goals (first | ((refine ht.mono ?_ ?_); (conv => whnf)) | (refine Vc.stp ?_; intros; (conv => whnf)))))
  · rintro _ H1 ⟨h, rfl, hr1, hx1⟩
    have hrow := (hr.row.take k).ext hr1.ext
    rw [strV_take] at hrow
    have htl : (l.take k).length = k := by rw [List.length_take]; omega
    ((conv => whnf); repeat (any_goals (first | (refine Vc.stp ?_; intros; (conv => whnf)))))
    refine LoopH.intro (fun (i : Nat) => [(12, .int .i64 i), (5, .int .u64 (rdN ((l.take k).take i)))]) (fun i H' => H1 = H' ∧ i ≤ k) (fun i => k - i) 0 ⟨rfl, rfl, trivial⟩ ⟨rfl, Nat.zero_le _⟩ ?_
    rintro i _ ⟨rfl, hi⟩
    by_cases hlt : i < k
    · obtain ⟨c, hc⟩ : ∃ c, (l.take k)[i]? = some c := ⟨_, List.getElem?_eq_getElem (by omega)⟩
      have hc8 := c.toNat_lt
      have hst : rdN ((l.take k).take (i + 1)) = rdN ((l.take k).take i) * 256 + c.toNat := by rw [List.take_add_one, hc]; exact rdN_snoc _ _
      have hb1 := rdN_lt ((l.take k).take i)
      have hb2 : rdN ((l.take k).take i) < 72057594037927936 := by
        refine Nat.lt_of_lt_of_le hb1 ?_
        rw [List.length_take, htl]
        calc 256 ^ min i k ≤ 256 ^ 7 := Nat.pow_le_pow_right (by decide) (by omega)
          _ ≤ _ := by decide
      have hso := shl_or _ c.toNat hb2 hc8
      ((conv => whnf); repeat (any_goals (first | ((refine byteN hrow htl i c rfl hc ?_; intro bo oo hcc); (conv => whnf)) | (refine Vc.stp ?_; intros; (conv => whnf)))))
      exact ⟨i + 1, ⟨rfl, by rw [hst]; exact congrArg _ hso, trivial⟩, ⟨rfl, by omega⟩, by omega⟩
    · obtain rfl : i = k := by omega
      rw [List.take_of_length_le (by omega)]
      ((conv => whnf); repeat (any_goals (first | (refine Vc.stp ?_; intros; (conv => whnf)))))
      exact ⟨h, rfl, ⟨_, _, hr1⟩, hx1⟩
  · rintro c H1 ⟨h, rfl, rfl⟩
    exact ⟨h, rfl, rfl⟩
end Go.Proofs.YtjcmcmogbkdjcaaDoor
/- Archives, the code: all entries. -/
namespace Go.Proofs.YtjcmcmogbkdjcaaDoor
open Go Go.Vc Go.Scr Go.Pth Go.Tre Go.Arc
theorem take_ok {H0 : Heap} {g : Nat} {l : Bs} {a : Option Addr} {cap n : Nat} {H : Heap} {R : Value → Heap → Prop} {X : Panics} (hr : RdA H0 H g l a cap) (hn : n < 18446744073709551616) (hl : l.length ≤ 1000000000) (h : n ≤ l.length)
    (hk : ∀ H', RdA H0 H' g (l.drop n) (sliceBase a cap n 1) (cap - n) → But g H H' → R (.slice a n cap) H') : CallX Tryd.prog 26 [.pointer (some ⟨g, 0, none⟩), .int .u64 n] H R X :=
  (take_any H0 g l a cap n H hr hn hl).mono (fun v H' ⟨_, e, h1, h2⟩ => e ▸ hk H' h1 h2) (fun c H' ⟨h', _⟩ => absurd h h')
theorem take_no {H0 : Heap} {g : Nat} {l : Bs} {a : Option Addr} {cap n : Nat} {H : Heap} {R : Value → Heap → Prop} {X : Panics} (hr : RdA H0 H g l a cap) (hn : n < 18446744073709551616) (hl : l.length ≤ 1000000000) (h : ¬ n ≤ l.length)
    (hk : X (stopAC 64) H) : CallX Tryd.prog 26 [.pointer (some ⟨g, 0, none⟩), .int .u64 n] H R X :=
  (take_any H0 g l a cap n H hr hn hl).mono (fun v H' ⟨h', _⟩ => absurd h' h) (fun c H' ⟨_, e1, e2⟩ => by rw [e1, ← e2]; exact hk)
theorem number_ok {H0 : Heap} {g : Nat} {l : Bs} {a : Option Addr} {cap k : Nat} {H : Heap} {R : Value → Heap → Prop} {X : Panics} (hr : RdA H0 H g l a cap) (hk8 : k ≤ 8) (hl : l.length ≤ 1000000000) (h : k ≤ l.length)
    (hk : ∀ H' a' cap', RdA H0 H' g (l.drop k) a' cap' → But g H H' → R (.int .u64 (rdN (l.take k))) H') : CallX Tryd.prog 27 [.pointer (some ⟨g, 0, none⟩), .int .u64 k] H R X :=
  (number_any H0 g l a cap k H hr hk8 hl).mono (fun v H' ⟨_, e, ⟨a', c', h1⟩, h2⟩ => e ▸ hk H' a' c' h1 h2) (fun c H' ⟨h', _⟩ => absurd h h')
theorem number_no {H0 : Heap} {g : Nat} {l : Bs} {a : Option Addr} {cap k : Nat} {H : Heap} {R : Value → Heap → Prop} {X : Panics} (hr : RdA H0 H g l a cap) (hk8 : k ≤ 8) (hl : l.length ≤ 1000000000) (h : ¬ k ≤ l.length)
    (hk : X (stopAC 64) H) : CallX Tryd.prog 27 [.pointer (some ⟨g, 0, none⟩), .int .u64 k] H R X :=
  (number_any H0 g l a cap k H hr hk8 hl).mono (fun v H' ⟨h', _⟩ => absurd h' h) (fun c H' ⟨_, e1, e2⟩ => by rw [e1, ← e2]; exact hk)
structure AlS where
  l : Bs
  a : Option Addr
  cap : Nat
  L : Tr
  vs : List Value
  oa : Option Addr
  oc : Nat
theorem rd2_lt (b : Bs) : rdN (b.take 2) < 65536 := by
  have := rdN_lt (b.take 2)
  refine Nat.lt_of_lt_of_le this ?_
  calc 256 ^ (b.take 2).length ≤ 256 ^ 2 := Nat.pow_le_pow_right (by decide) (by rw [List.length_take]; omega)
    _ ≤ _ := by decide
theorem rd8_lt (b : Bs) : rdN (b.take 8) < 18446744073709551616 := by
  have := rdN_lt (b.take 8)
  refine Nat.lt_of_lt_of_le this ?_
  calc 256 ^ (b.take 8).length ≤ 256 ^ 8 := Nat.pow_le_pow_right (by decide) (by rw [List.length_take]; omega)
    _ ≤ _ := by decide
theorem afileB1 {K : Value → Prop} {o1 o2 : Operand} {s : ByteArray} {x : Bool} (h : K (.agg #[.string s, .bool x, .slice none 0 0])) : PureH Tryd.prog (Instr.build 26 ((List.map (fun x : Nat × Operand => x.1) (#[(0, o1), (1, o2)] : Array (Nat × Operand)).toList).zip [.string s, .bool x]).toArray) K := PureH.build _ (by kernel_rfl) h
theorem rd_row {H0 H : Heap} {g : Nat} {l : Bs} {a : Option Addr} {cap : Nat} (h : RdA H0 H g l a cap) (n : Nat) : Row H0 a (strV (l.take n)) := by have := h.row.take n; rwa [strV_take] at this
set_option maxHeartbeats 4000000 in
theorem all_any (H0 : Heap) (g : Nat) (l0 : Bs) (a0 : Option Addr) (cap0 : Nat) (H : Heap) (hr0 : RdA H0 H g l0 a0 cap0) (hl0 : l0.length ≤ 1000000) :
    CallX Tryd.prog 14 [.pointer (some ⟨g, 0, none⟩)] H
      (fun v H' => (parseF l0 []).2 = 0 ∧ (∃ a cap vs, v = .slice a (parseF l0 []).1.length cap ∧ (parseF l0 []).1.length ≤ 500 ∧ Row H' a vs ∧ FilesV H0 (parseF l0 []).1 vs) ∧ Ext H0 H')
      (fun c H' => (parseF l0 []).2 ≠ 0 ∧ c = stopAC (parseF l0 []).2 ∧ Ext H0 H') := by
  have hgl := hr0.blk.lt
  refine Vc.CallX.body Tryd.func14 Tryd.call14 rfl (by decide +kernel) rfl ?_
  ((conv => whnf); repeat (any_goals (first | (refine Vc.stp ?_; intros; (conv => whnf)))))
  refine LoopH.intro (fun (s : AlS) => [(3, .slice s.oa s.L.length s.oc)]) (fun s H' => RdA H0 H' g s.l s.a s.cap ∧ parseF l0 [] = parseF s.l s.L ∧ FilesV H0 s.L s.vs ∧ Own H' H.size 26 3 s.oa s.L.length s.oc s.vs ∧ s.L.length ≤ 500 ∧ s.l.length ≤ l0.length ∧ H.size ≤ H'.size) (fun s => s.l.length) ⟨l0, a0, cap0, [], [], none, 0⟩ ⟨rfl, trivial⟩ ⟨hr0, rfl, .nil, Own.nil _ _ _ _, Nat.zero_le _, Nat.le_refl _, Nat.le_refl _⟩ ?_
  rintro ⟨l, a, cap, L, vs, oa, oc⟩ H1 ⟨hr, hp, hfv, ho, hL, hll, hz1⟩
  dsimp only at hr hp hfv ho hL hll ⊢
  rw [parseF_eq l L] at hp
  rw [hp]
  have hog : ∀ p, oa = some p → ¬ p.block = g := fun p hp e => by have := (ho.block p hp).1; omega
  cases l with
  | nil =>
    have hst : stepA [] L.length = .inl 64 := rfl
    rw [hst]
    ((conv => whnf); repeat (any_goals (first | ((refine take_no (n := 1) hr (by decide) (by decide) (by decide) ?_); (conv => whnf)) | (refine Vc.stp ?_; intros; (conv => whnf)))))
    exact ⟨by simp, rfl, hr.ext⟩
  | cons k b1 =>
    have hlen : (k :: b1).length = b1.length + 1 := rfl
    have hk8 := k.toNat_lt
    have hrk : Row H0 a (strV [k]) := by have := hr.row.take 1; rw [strV_take] at this; exact this
    by_cases hk : k = 255
    · have hkn : k.toNat = 255 := by rw [hk]; rfl
      by_cases hb : b1 = []
      · have hst : stepA (k :: b1) L.length = .inr none := by unfold stepA; rw [hb]; simp [hk]
        have hb0 : b1.length = 0 := by rw [hb]; rfl
        rw [hst]
        ((conv => whnf); repeat (any_goals (first | ((refine take_ok (n := 1) hr (by decide) (by (show (k :: b1).length ≤ 1000000000); omega) (by (show 1 ≤ (k :: b1).length); simp) ?_; intro H2 hr2 hx2; replace hr2 : RdA H0 H2 g b1 (sliceBase a cap 1 1) (cap - 1) := hr2; have hx02 := hr2.ext; have ho2 := ho.keep hx2 hog; have hz2 := hx2.size; have hb2 := hr2.blk); (conv => whnf)) | ((refine IdxA.bytes (l := [k]) hrk rfl (Int.le_refl 0) (by simp) ?_; intro bk ok hbk hck; replace hck : hcell H0 ⟨bk, ok + Int.toNat 0, none⟩ = some (.int .u8 k.toNat) := hck); (conv => whnf)) | (((with_reducible apply SemH.load); (focus (rfl)); (focus ((exact hcell_keep hck hx02 id)))); (conv => whnf)) | ((refine mustA_ok (by first | rfl | (rw [beq_iff_eq]; omega) | (rw [bne_iff_ne]; omega) | (rw [decide_eq_true_eq]; omega)) ?_); (conv => whnf)) | (refine Vc.stp ?_; intros; (conv => whnf)))))
        exact ⟨rfl, ⟨oa, oc, vs, rfl, hL, ho2.row, hfv⟩, hx02⟩
      · have hst : stepA (k :: b1) L.length = .inl 64 := by unfold stepA; simp [hk, hb]
        have hb0 : b1.length ≠ 0 := fun h => hb (List.eq_nil_of_length_eq_zero h)
        rw [hst]
        ((conv => whnf); repeat (any_goals (first | ((refine take_ok (n := 1) hr (by decide) (by (show (k :: b1).length ≤ 1000000000); omega) (by (show 1 ≤ (k :: b1).length); simp) ?_; intro H2 hr2 hx2; replace hr2 : RdA H0 H2 g b1 (sliceBase a cap 1 1) (cap - 1) := hr2; have hx02 := hr2.ext; have ho2 := ho.keep hx2 hog; have hz2 := hx2.size; have hb2 := hr2.blk); (conv => whnf)) | ((refine IdxA.bytes (l := [k]) hrk rfl (Int.le_refl 0) (by simp) ?_; intro bk ok hbk hck; replace hck : hcell H0 ⟨bk, ok + Int.toNat 0, none⟩ = some (.int .u8 k.toNat) := hck); (conv => whnf)) | (((with_reducible apply SemH.load); (focus (rfl)); (focus ((exact hcell_keep hck hx02 id)))); (conv => whnf)) | ((refine mustA_no (by first | rfl | (rw [beq_eq_false_iff_ne]; omega) | (rw [bne_eq_false_iff_eq]; omega) | (rw [decide_eq_false_iff_not]; omega)) ?_); (conv => whnf)) | (refine Vc.stp ?_; intros; (conv => whnf)))))
        exact ⟨by simp, rfl, hx02⟩
    have hkn : ¬ k.toNat = 255 := fun h => hk (UInt8.toNat_inj.1 (by rw [h]; rfl))
    have hstep : stepA (k :: b1) L.length = stepA (k :: b1) L.length := rfl
    conv at hstep => rhs; unfold stepA; dsimp only
    rw [if_neg hk] at hstep
    by_cases h1 : ¬ (k.toNat ≤ 1 ∧ L.length < 500)
    · rw [if_pos h1] at hstep
      rw [hstep]
      by_cases h1a : k.toNat ≤ 1
      · have h1b : ¬ L.length < 500 := fun h => h1 ⟨h1a, h⟩
        ((conv => whnf); repeat (any_goals (first | ((refine take_ok (n := 1) hr (by decide) (by (show (k :: b1).length ≤ 1000000000); omega) (by (show 1 ≤ (k :: b1).length); simp) ?_; intro H2 hr2 hx2; replace hr2 : RdA H0 H2 g b1 (sliceBase a cap 1 1) (cap - 1) := hr2; have hx02 := hr2.ext; have ho2 := ho.keep hx2 hog; have hz2 := hx2.size; have hb2 := hr2.blk); (conv => whnf)) | ((refine IdxA.bytes (l := [k]) hrk rfl (Int.le_refl 0) (by simp) ?_; intro bk ok hbk hck; replace hck : hcell H0 ⟨bk, ok + Int.toNat 0, none⟩ = some (.int .u8 k.toNat) := hck); (conv => whnf)) | (((with_reducible apply SemH.load); (focus (rfl)); (focus ((exact hcell_keep hck hx02 id)))); (conv => whnf)) | ((refine mustA_no (by first | rfl | (rw [beq_eq_false_iff_ne]; omega) | (rw [bne_eq_false_iff_eq]; omega) | (rw [decide_eq_false_iff_not]; omega)) ?_); (conv => whnf)) | (refine Vc.stp ?_; intros; (conv => whnf)))))
        exact ⟨by simp, rfl, hx02⟩
      · ((conv => whnf); repeat (any_goals (first | ((refine take_ok (n := 1) hr (by decide) (by (show (k :: b1).length ≤ 1000000000); omega) (by (show 1 ≤ (k :: b1).length); simp) ?_; intro H2 hr2 hx2; replace hr2 : RdA H0 H2 g b1 (sliceBase a cap 1 1) (cap - 1) := hr2; have hx02 := hr2.ext; have ho2 := ho.keep hx2 hog; have hz2 := hx2.size; have hb2 := hr2.blk); (conv => whnf)) | ((refine IdxA.bytes (l := [k]) hrk rfl (Int.le_refl 0) (by simp) ?_; intro bk ok hbk hck; replace hck : hcell H0 ⟨bk, ok + Int.toNat 0, none⟩ = some (.int .u8 k.toNat) := hck); (conv => whnf)) | (((with_reducible apply SemH.load); (focus (rfl)); (focus ((exact hcell_keep hck hx02 id)))); (conv => whnf)) | ((refine mustA_no (by first | rfl | (rw [beq_eq_false_iff_ne]; omega) | (rw [bne_eq_false_iff_eq]; omega) | (rw [decide_eq_false_iff_not]; omega)) ?_); (conv => whnf)) | (refine Vc.stp ?_; intros; (conv => whnf)))))
        exact ⟨by simp, rfl, hx02⟩
    rw [if_neg h1] at hstep
    have h1 : k.toNat ≤ 1 ∧ L.length < 500 := Classical.not_not.1 h1
    obtain ⟨h1a, h1b⟩ := h1
    have hlen2 : ¬ b1.length < 2 ↔ 2 ≤ b1.length := by omega
    by_cases h2 : b1.length < 2
    · rw [if_pos h2] at hstep
      rw [hstep]
      ((conv => whnf); repeat (any_goals (first | ((refine take_ok (n := 1) hr (by decide) (by (show (k :: b1).length ≤ 1000000000); omega) (by (show 1 ≤ (k :: b1).length); simp) ?_; intro H2 hr2 hx2; replace hr2 : RdA H0 H2 g b1 (sliceBase a cap 1 1) (cap - 1) := hr2; have hx02 := hr2.ext; have ho2 := ho.keep hx2 hog; have hz2 := hx2.size; have hb2 := hr2.blk); (conv => whnf)) | ((refine IdxA.bytes (l := [k]) hrk rfl (Int.le_refl 0) (by simp) ?_; intro bk ok hbk hck; replace hck : hcell H0 ⟨bk, ok + Int.toNat 0, none⟩ = some (.int .u8 k.toNat) := hck); (conv => whnf)) | (((with_reducible apply SemH.load); (focus (rfl)); (focus ((exact hcell_keep hck hx02 id)))); (conv => whnf)) | ((refine mustA_ok (by first | rfl | (rw [beq_iff_eq]; omega) | (rw [bne_iff_ne]; omega) | (rw [decide_eq_true_eq]; omega)) ?_); (conv => whnf)) | ((refine number_no (k := 2) hr2 (by decide) (by omega) (by omega) ?_); (conv => whnf)) | (refine Vc.stp ?_; intros; (conv => whnf)))))
      exact ⟨by simp, rfl, hx02⟩
    rw [if_neg h2] at hstep
    have h2 : 2 ≤ b1.length := by omega
    have hn2 := rd2_lt b1
    have hd2 : (b1.drop 2).length = b1.length - 2 := List.length_drop
    by_cases h3 : (b1.drop 2).length < rdN (b1.take 2)
    · rw [if_pos h3] at hstep
      rw [hstep]
      ((conv => whnf); repeat (any_goals (first | ((refine take_ok (n := 1) hr (by decide) (by (show (k :: b1).length ≤ 1000000000); omega) (by (show 1 ≤ (k :: b1).length); simp) ?_; intro H2 hr2 hx2; replace hr2 : RdA H0 H2 g b1 (sliceBase a cap 1 1) (cap - 1) := hr2; have hx02 := hr2.ext; have ho2 := ho.keep hx2 hog; have hz2 := hx2.size; have hb2 := hr2.blk); (conv => whnf)) | ((refine IdxA.bytes (l := [k]) hrk rfl (Int.le_refl 0) (by simp) ?_; intro bk ok hbk hck; replace hck : hcell H0 ⟨bk, ok + Int.toNat 0, none⟩ = some (.int .u8 k.toNat) := hck); (conv => whnf)) | (((with_reducible apply SemH.load); (focus (rfl)); (focus ((exact hcell_keep hck hx02 id)))); (conv => whnf)) | ((refine mustA_ok (by first | rfl | (rw [beq_iff_eq]; omega) | (rw [bne_iff_ne]; omega) | (rw [decide_eq_true_eq]; omega)) ?_); (conv => whnf)) | ((refine number_ok (k := 2) hr2 (by decide) (by omega) h2 ?_; intro H3 a3 c3 hr3 hx3; have hx03 := hr3.ext; have ho3 := ho2.keep hx3 hog; have hz3 := hx3.size); (conv => whnf)) | ((refine take_no (n := rdN (b1.take 2)) hr3 (by omega) (by omega) (by omega) ?_); (conv => whnf)) | (refine Vc.stp ?_; intros; (conv => whnf)))))
      exact ⟨by simp, rfl, hx03⟩
    rw [if_neg h3] at hstep
    have h3 : rdN (b1.take 2) ≤ (b1.drop 2).length := by omega
    have hcl := fun H => clean_any ((b1.drop 2).take (rdN (b1.take 2))) H
    obtain ⟨P, hP⟩ : ∃ P, (b1.drop 2).take (rdN (b1.take 2)) = P := ⟨_, rfl⟩
    have hPl : P.length = rdN (b1.take 2) := by rw [← hP, List.length_take]; omega
    obtain ⟨c, hc⟩ : ∃ c, cleanF P = c := ⟨_, rfl⟩
    rw [hP, hc] at hstep hcl
    by_cases h4 : c.2 = 51
    · rw [if_pos h4] at hstep
      rw [hstep]
      by_cases hk1 : k.toNat = 1
      · ((conv => whnf); repeat (any_goals (first | ((refine take_ok (n := 1) hr (by decide) (by (show (k :: b1).length ≤ 1000000000); omega) (by (show 1 ≤ (k :: b1).length); simp) ?_; intro H2 hr2 hx2; replace hr2 : RdA H0 H2 g b1 (sliceBase a cap 1 1) (cap - 1) := hr2; have hx02 := hr2.ext; have ho2 := ho.keep hx2 hog; have hz2 := hx2.size; have hb2 := hr2.blk); (conv => whnf)) | ((refine IdxA.bytes (l := [k]) hrk rfl (Int.le_refl 0) (by simp) ?_; intro bk ok hbk hck; replace hck : hcell H0 ⟨bk, ok + Int.toNat 0, none⟩ = some (.int .u8 k.toNat) := hck); (conv => whnf)) | (((with_reducible apply SemH.load); (focus (rfl)); (focus ((exact hcell_keep hck hx02 id)))); (conv => whnf)) | ((refine mustA_ok (by first | rfl | (rw [beq_iff_eq]; omega) | (rw [bne_iff_ne]; omega) | (rw [decide_eq_true_eq]; omega)) ?_); (conv => whnf)) | ((refine number_ok (k := 2) hr2 (by decide) (by omega) h2 ?_; intro H3 a3 c3 hr3 hx3; have hx03 := hr3.ext; have ho3 := ho2.keep hx3 hog; have hz3 := hx3.size); (conv => whnf)) | ((refine take_ok (n := rdN (b1.take 2)) hr3 (by omega) (by omega) h3 ?_; intro H4 hr4 hx4; have hx04 := hr4.ext; have ho4 := ho3.keep hx4 hog; have hz4 := hx4.size; have hrp := (rd_row hr3 (rdN (b1.take 2))).ext hx04; rw [hP] at hrp); (conv => whnf)) | ((refine to_string' (l := P) rfl rfl rfl hrp hPl ?_); (conv => whnf)) | (((with_reducible apply afileB1); (focus ((conv => whnf)))); (conv => whnf)) | ((rename_i Ha za ba xa Hx zx bx xx; have x4x : Ext H4 Hx := xa.but xx (by omega); refine (hcl Hx).mono ?_; rintro _ H5 ⟨rfl, hx5⟩; have x45 := x4x.trans hx5; have hz5 := x45.size; have bf5 := bx.ext hx5; have hr5 := hr4.up x45; have hx05 := hr5.ext; have ho5 := ho4.ext x45); (conv => whnf)) | ((refine mustA_no (by first | rfl | (rw [beq_eq_false_iff_ne]; omega) | (rw [bne_eq_false_iff_eq]; omega) | (rw [decide_eq_false_iff_not]; omega)) ?_); (conv => whnf)) | (refine Vc.stp ?_; intros; (conv => whnf)))))
        exact ⟨by simp, rfl, hx05⟩
      · ((conv => whnf); repeat (any_goals (first | ((refine take_ok (n := 1) hr (by decide) (by (show (k :: b1).length ≤ 1000000000); omega) (by (show 1 ≤ (k :: b1).length); simp) ?_; intro H2 hr2 hx2; replace hr2 : RdA H0 H2 g b1 (sliceBase a cap 1 1) (cap - 1) := hr2; have hx02 := hr2.ext; have ho2 := ho.keep hx2 hog; have hz2 := hx2.size; have hb2 := hr2.blk); (conv => whnf)) | ((refine IdxA.bytes (l := [k]) hrk rfl (Int.le_refl 0) (by simp) ?_; intro bk ok hbk hck; replace hck : hcell H0 ⟨bk, ok + Int.toNat 0, none⟩ = some (.int .u8 k.toNat) := hck); (conv => whnf)) | (((with_reducible apply SemH.load); (focus (rfl)); (focus ((exact hcell_keep hck hx02 id)))); (conv => whnf)) | ((refine mustA_ok (by first | rfl | (rw [beq_iff_eq]; omega) | (rw [bne_iff_ne]; omega) | (rw [decide_eq_true_eq]; omega)) ?_); (conv => whnf)) | ((refine number_ok (k := 2) hr2 (by decide) (by omega) h2 ?_; intro H3 a3 c3 hr3 hx3; have hx03 := hr3.ext; have ho3 := ho2.keep hx3 hog; have hz3 := hx3.size); (conv => whnf)) | ((refine take_ok (n := rdN (b1.take 2)) hr3 (by omega) (by omega) h3 ?_; intro H4 hr4 hx4; have hx04 := hr4.ext; have ho4 := ho3.keep hx4 hog; have hz4 := hx4.size; have hrp := (rd_row hr3 (rdN (b1.take 2))).ext hx04; rw [hP] at hrp); (conv => whnf)) | ((refine to_string' (l := P) rfl rfl rfl hrp hPl ?_); (conv => whnf)) | (((with_reducible apply afileB1); (focus ((conv => whnf)))); (conv => whnf)) | ((rename_i Ha za ba xa Hx zx bx xx; have x4x : Ext H4 Hx := xa.but xx (by omega); refine (hcl Hx).mono ?_; rintro _ H5 ⟨rfl, hx5⟩; have x45 := x4x.trans hx5; have hz5 := x45.size; have bf5 := bx.ext hx5; have hr5 := hr4.up x45; have hx05 := hr5.ext; have ho5 := ho4.ext x45); (conv => whnf)) | ((refine mustA_no (by first | rfl | (rw [beq_eq_false_iff_ne]; omega) | (rw [bne_eq_false_iff_eq]; omega) | (rw [decide_eq_false_iff_not]; omega)) ?_); (conv => whnf)) | (refine Vc.stp ?_; intros; (conv => whnf)))))
        exact ⟨by simp, rfl, hx05⟩
    rw [if_neg h4] at hstep
    by_cases h5 : c.2 ≠ 0
    · rw [if_pos h5] at hstep
      rw [hstep]
      ((conv => whnf); repeat (any_goals (first | ((refine take_ok (n := 1) hr (by decide) (by (show (k :: b1).length ≤ 1000000000); omega) (by (show 1 ≤ (k :: b1).length); simp) ?_; intro H2 hr2 hx2; replace hr2 : RdA H0 H2 g b1 (sliceBase a cap 1 1) (cap - 1) := hr2; have hx02 := hr2.ext; have ho2 := ho.keep hx2 hog; have hz2 := hx2.size; have hb2 := hr2.blk); (conv => whnf)) | ((refine IdxA.bytes (l := [k]) hrk rfl (Int.le_refl 0) (by simp) ?_; intro bk ok hbk hck; replace hck : hcell H0 ⟨bk, ok + Int.toNat 0, none⟩ = some (.int .u8 k.toNat) := hck); (conv => whnf)) | (((with_reducible apply SemH.load); (focus (rfl)); (focus ((exact hcell_keep hck hx02 id)))); (conv => whnf)) | ((refine mustA_ok (by first | rfl | (rw [beq_iff_eq]; omega) | (rw [bne_iff_ne]; omega) | (rw [decide_eq_true_eq]; omega)) ?_); (conv => whnf)) | ((refine number_ok (k := 2) hr2 (by decide) (by omega) h2 ?_; intro H3 a3 c3 hr3 hx3; have hx03 := hr3.ext; have ho3 := ho2.keep hx3 hog; have hz3 := hx3.size); (conv => whnf)) | ((refine take_ok (n := rdN (b1.take 2)) hr3 (by omega) (by omega) h3 ?_; intro H4 hr4 hx4; have hx04 := hr4.ext; have ho4 := ho3.keep hx4 hog; have hz4 := hx4.size; have hrp := (rd_row hr3 (rdN (b1.take 2))).ext hx04; rw [hP] at hrp); (conv => whnf)) | ((refine to_string' (l := P) rfl rfl rfl hrp hPl ?_); (conv => whnf)) | (((with_reducible apply afileB1); (focus ((conv => whnf)))); (conv => whnf)) | ((rename_i Ha za ba xa Hx zx bx xx; have x4x : Ext H4 Hx := xa.but xx (by omega); refine (hcl Hx).mono ?_; rintro _ H5 ⟨rfl, hx5⟩; have x45 := x4x.trans hx5; have hz5 := x45.size; have bf5 := bx.ext hx5; have hr5 := hr4.up x45; have hx05 := hr5.ext; have ho5 := ho4.ext x45); (conv => whnf)) | ((refine mustA_no (by first | rfl | (rw [beq_eq_false_iff_ne]; omega) | (rw [bne_eq_false_iff_eq]; omega) | (rw [decide_eq_false_iff_not]; omega)) ?_); (conv => whnf)) | (refine Vc.stp ?_; intros; (conv => whnf)))))
      exact ⟨by simp, rfl, hx05⟩
    rw [if_neg h5] at hstep
    have h5 : c.2 = 0 := by omega
    by_cases hk1 : k = 1
    · have hkn1 : k.toNat = 1 := by rw [hk1]; rfl
      rw [if_pos hk1] at hstep
      rw [hstep]
      have hkb : ((k.toNat : Int) == 1) = true := by rw [beq_iff_eq]; omega
      ((conv => whnf); repeat (any_goals (first | ((refine take_ok (n := 1) hr (by decide) (by (show (k :: b1).length ≤ 1000000000); omega) (by (show 1 ≤ (k :: b1).length); simp) ?_; intro H2 hr2 hx2; replace hr2 : RdA H0 H2 g b1 (sliceBase a cap 1 1) (cap - 1) := hr2; have hx02 := hr2.ext; have ho2 := ho.keep hx2 hog; have hz2 := hx2.size; have hb2 := hr2.blk); (conv => whnf)) | ((refine IdxA.bytes (l := [k]) hrk rfl (Int.le_refl 0) (by simp) ?_; intro bk ok hbk hck; replace hck : hcell H0 ⟨bk, ok + Int.toNat 0, none⟩ = some (.int .u8 k.toNat) := hck); (conv => whnf)) | (((with_reducible apply SemH.load); (focus (rfl)); (focus ((exact hcell_keep hck hx02 id)))); (conv => whnf)) | ((refine mustA_ok (by first | rfl | (rw [beq_iff_eq]; omega) | (rw [bne_iff_ne]; omega) | (rw [decide_eq_true_eq]; omega)) ?_); (conv => whnf)) | ((refine number_ok (k := 2) hr2 (by decide) (by omega) h2 ?_; intro H3 a3 c3 hr3 hx3; have hx03 := hr3.ext; have ho3 := ho2.keep hx3 hog; have hz3 := hx3.size); (conv => whnf)) | ((rw [hkb]; (with_reducible apply afileB1)); (conv => whnf)) | ((refine take_ok (n := rdN (b1.take 2)) hr3 (by omega) (by omega) h3 ?_; intro H4 hr4 hx4; have hx04 := hr4.ext; have ho4 := ho3.keep hx4 hog; have hz4 := hx4.size; have hrp := (rd_row hr3 (rdN (b1.take 2))).ext hx04; rw [hP] at hrp); (conv => whnf)) | ((refine to_string' (l := P) rfl rfl rfl hrp hPl ?_); (conv => whnf)) | (((with_reducible apply afileB1); (focus ((conv => whnf)))); (conv => whnf)) | ((rename_i Ha za ba xa Hx zx bx xx; have x4x : Ext H4 Hx := xa.but xx (by omega); refine (hcl Hx).mono ?_; rintro _ H5 ⟨rfl, hx5⟩; have x45 := x4x.trans hx5; have hz5 := x45.size; have bf5 := bx.ext hx5; have hr5 := hr4.up x45; have hx05 := hr5.ext; have ho5 := ho4.ext x45); (conv => whnf)) | ((rename_i Hl zl bl xl; have blf : Blk Hl H5.size (fileC (P, true, []) none 0).toArray 26 := bl; refine NextH.appF (news := fileC (P, true, []) none 0) (ho5.ext xl) (Blk.row (c := fileC (P, true, []) none 0) blf) rfl (fileC_plain _ _ _) (by omega) (by omega) ⟨_, rfl, fun _ h => by cases h⟩ ?_; intro a6 c6 H6 ho6 hw6; have hz6 := hw6.size); (conv => whnf)) | (refine Vc.stp ?_; intros; (conv => whnf)))))
      have hx56 : Ext H0 H6 := (hx05.trans xl).wr (ho5.ext xl) hr0.ext.size hw6
      have hr6 : RdA H0 H6 g ((b1.drop 2).drop (rdN (b1.take 2))) _ _ := (hr5.up xl).keep hw6 (fun ⟨p, hp, e⟩ => hog p hp e) hx56
      have hfv6 := hfv.append (FilesV.cons (x := (P, true, [])) (a := none) (cap := 0) (Row.nil _ _) .nil)
      rw [List.append_nil] at hfv6
      refine ⟨⟨(b1.drop 2).drop (rdN (b1.take 2)), _, _, L ++ [(P, true, [])], vs ++ fileC (P, true, []) none 0, a6, c6⟩, ⟨by rw [List.length_append]; rfl, trivial⟩, ⟨hr6, ?_, hfv6, by rw [List.length_append]; exact ho6, by rw [List.length_append]; simp; omega, by show ((b1.drop 2).drop _).length ≤ _; rw [List.length_drop]; omega, by omega⟩, by show ((b1.drop 2).drop _).length < (k :: b1).length; rw [List.length_drop]; omega⟩
      rfl
    have hkn0 : k.toNat = 0 := by have : k.toNat ≠ 1 := fun h => hk1 (UInt8.toNat_inj.1 (by rw [h]; rfl)); omega
    rw [if_neg hk1] at hstep
    have hkb : ((k.toNat : Int) == 1) = false := by rw [beq_eq_false_iff_ne]; omega
    obtain ⟨b3, hb3⟩ : ∃ b3, (b1.drop 2).drop (rdN (b1.take 2)) = b3 := ⟨_, rfl⟩
    have hb3l : b3.length = (b1.drop 2).length - rdN (b1.take 2) := by rw [← hb3]; exact List.length_drop
    rw [hb3] at hstep
    by_cases h6 : b3.length < 8
    · rw [if_pos h6] at hstep
      rw [hstep]
      ((conv => whnf); repeat (any_goals (first | ((refine take_ok (n := 1) hr (by decide) (by (show (k :: b1).length ≤ 1000000000); omega) (by (show 1 ≤ (k :: b1).length); simp) ?_; intro H2 hr2 hx2; replace hr2 : RdA H0 H2 g b1 (sliceBase a cap 1 1) (cap - 1) := hr2; have hx02 := hr2.ext; have ho2 := ho.keep hx2 hog; have hz2 := hx2.size; have hb2 := hr2.blk); (conv => whnf)) | ((refine IdxA.bytes (l := [k]) hrk rfl (Int.le_refl 0) (by simp) ?_; intro bk ok hbk hck; replace hck : hcell H0 ⟨bk, ok + Int.toNat 0, none⟩ = some (.int .u8 k.toNat) := hck); (conv => whnf)) | (((with_reducible apply SemH.load); (focus (rfl)); (focus ((exact hcell_keep hck hx02 id)))); (conv => whnf)) | ((refine mustA_ok (by first | rfl | (rw [beq_iff_eq]; omega) | (rw [bne_iff_ne]; omega) | (rw [decide_eq_true_eq]; omega)) ?_); (conv => whnf)) | ((refine number_ok (k := 2) hr2 (by decide) (by omega) h2 ?_; intro H3 a3 c3 hr3 hx3; have hx03 := hr3.ext; have ho3 := ho2.keep hx3 hog; have hz3 := hx3.size); (conv => whnf)) | ((rw [hkb]; (with_reducible apply afileB1)); (conv => whnf)) | ((refine take_ok (n := rdN (b1.take 2)) hr3 (by omega) (by omega) h3 ?_; intro H4 hr4 hx4; have hx04 := hr4.ext; have ho4 := ho3.keep hx4 hog; have hz4 := hx4.size; have hrp := (rd_row hr3 (rdN (b1.take 2))).ext hx04; rw [hP] at hrp); (conv => whnf)) | ((refine to_string' (l := P) rfl rfl rfl hrp hPl ?_); (conv => whnf)) | (((with_reducible apply afileB1); (focus ((conv => whnf)))); (conv => whnf)) | ((rename_i Ha za ba xa Hx zx bx xx; have x4x : Ext H4 Hx := xa.but xx (by omega); refine (hcl Hx).mono ?_; rintro _ H5 ⟨rfl, hx5⟩; have x45 := x4x.trans hx5; have hz5 := x45.size; have bf5 := bx.ext hx5; have hr5 := hr4.up x45; rw [hb3] at hr5; have hx05 := hr5.ext; have ho5 := ho4.ext x45); (conv => whnf)) | ((refine number_no (k := 8) hr5 (by decide) (by omega) (by omega) ?_); (conv => whnf)) | (refine Vc.stp ?_; intros; (conv => whnf)))))
      exact ⟨by simp, rfl, hx05⟩
    rw [if_neg h6] at hstep
    have h6 : 8 ≤ b3.length := by omega
    have hn8 := rd8_lt b3
    have hd8 : (b3.drop 8).length = b3.length - 8 := List.length_drop
    by_cases h7 : (b3.drop 8).length < rdN (b3.take 8)
    · rw [if_pos h7] at hstep
      rw [hstep]
      ((conv => whnf); repeat (any_goals (first | ((refine take_ok (n := 1) hr (by decide) (by (show (k :: b1).length ≤ 1000000000); omega) (by (show 1 ≤ (k :: b1).length); simp) ?_; intro H2 hr2 hx2; replace hr2 : RdA H0 H2 g b1 (sliceBase a cap 1 1) (cap - 1) := hr2; have hx02 := hr2.ext; have ho2 := ho.keep hx2 hog; have hz2 := hx2.size; have hb2 := hr2.blk); (conv => whnf)) | ((refine IdxA.bytes (l := [k]) hrk rfl (Int.le_refl 0) (by simp) ?_; intro bk ok hbk hck; replace hck : hcell H0 ⟨bk, ok + Int.toNat 0, none⟩ = some (.int .u8 k.toNat) := hck); (conv => whnf)) | (((with_reducible apply SemH.load); (focus (rfl)); (focus ((exact hcell_keep hck hx02 id)))); (conv => whnf)) | ((refine mustA_ok (by first | rfl | (rw [beq_iff_eq]; omega) | (rw [bne_iff_ne]; omega) | (rw [decide_eq_true_eq]; omega)) ?_); (conv => whnf)) | ((refine number_ok (k := 2) hr2 (by decide) (by omega) h2 ?_; intro H3 a3 c3 hr3 hx3; have hx03 := hr3.ext; have ho3 := ho2.keep hx3 hog; have hz3 := hx3.size); (conv => whnf)) | ((rw [hkb]; (with_reducible apply afileB1)); (conv => whnf)) | ((refine take_ok (n := rdN (b1.take 2)) hr3 (by omega) (by omega) h3 ?_; intro H4 hr4 hx4; have hx04 := hr4.ext; have ho4 := ho3.keep hx4 hog; have hz4 := hx4.size; have hrp := (rd_row hr3 (rdN (b1.take 2))).ext hx04; rw [hP] at hrp); (conv => whnf)) | ((refine to_string' (l := P) rfl rfl rfl hrp hPl ?_); (conv => whnf)) | (((with_reducible apply afileB1); (focus ((conv => whnf)))); (conv => whnf)) | ((rename_i Ha za ba xa Hx zx bx xx; have x4x : Ext H4 Hx := xa.but xx (by omega); refine (hcl Hx).mono ?_; rintro _ H5 ⟨rfl, hx5⟩; have x45 := x4x.trans hx5; have hz5 := x45.size; have bf5 := bx.ext hx5; have hr5 := hr4.up x45; rw [hb3] at hr5; have hx05 := hr5.ext; have ho5 := ho4.ext x45); (conv => whnf)) | ((refine number_ok (k := 8) hr5 (by decide) (by omega) h6 ?_; intro H6 a6 c6 hr6 hx6; have hx06 := hr6.ext; have ho6 := ho5.keep hx6 hog; have hz6 := hx6.size; have bf6 := bf5.but hx6 (by omega)); (conv => whnf)) | ((refine take_no (n := rdN (b3.take 8)) hr6 (by omega) (by omega) (by omega) ?_); (conv => whnf)) | (refine Vc.stp ?_; intros; (conv => whnf)))))
      exact ⟨by simp, rfl, hx06⟩
    rw [if_neg h7] at hstep
    have h7 : rdN (b3.take 8) ≤ (b3.drop 8).length := by omega
    obtain ⟨B, hB⟩ : ∃ B, (b3.drop 8).take (rdN (b3.take 8)) = B := ⟨_, rfl⟩
    have hBl : B.length = rdN (b3.take 8) := by rw [← hB, List.length_take]; omega
    rw [hB] at hstep
    ((conv => whnf); repeat (any_goals (first | ((refine take_ok (n := 1) hr (by decide) (by (show (k :: b1).length ≤ 1000000000); omega) (by (show 1 ≤ (k :: b1).length); simp) ?_; intro H2 hr2 hx2; replace hr2 : RdA H0 H2 g b1 (sliceBase a cap 1 1) (cap - 1) := hr2; have hx02 := hr2.ext; have ho2 := ho.keep hx2 hog; have hz2 := hx2.size; have hb2 := hr2.blk); (conv => whnf)) | ((refine IdxA.bytes (l := [k]) hrk rfl (Int.le_refl 0) (by simp) ?_; intro bk ok hbk hck; replace hck : hcell H0 ⟨bk, ok + Int.toNat 0, none⟩ = some (.int .u8 k.toNat) := hck); (conv => whnf)) | (((with_reducible apply SemH.load); (focus (rfl)); (focus ((exact hcell_keep hck hx02 id)))); (conv => whnf)) | ((refine mustA_ok (by first | rfl | (rw [beq_iff_eq]; omega) | (rw [bne_iff_ne]; omega) | (rw [decide_eq_true_eq]; omega)) ?_); (conv => whnf)) | ((refine number_ok (k := 2) hr2 (by decide) (by omega) h2 ?_; intro H3 a3 c3 hr3 hx3; have hx03 := hr3.ext; have ho3 := ho2.keep hx3 hog; have hz3 := hx3.size); (conv => whnf)) | ((rw [hkb]; (with_reducible apply afileB1)); (conv => whnf)) | ((refine take_ok (n := rdN (b1.take 2)) hr3 (by omega) (by omega) h3 ?_; intro H4 hr4 hx4; have hx04 := hr4.ext; have ho4 := ho3.keep hx4 hog; have hz4 := hx4.size; have hrp := (rd_row hr3 (rdN (b1.take 2))).ext hx04; rw [hP] at hrp); (conv => whnf)) | ((refine to_string' (l := P) rfl rfl rfl hrp hPl ?_); (conv => whnf)) | (((with_reducible apply afileB1); (focus ((conv => whnf)))); (conv => whnf)) | ((rename_i Ha za ba xa Hx zx bx xx; have x4x : Ext H4 Hx := xa.but xx (by omega); refine (hcl Hx).mono ?_; rintro _ H5 ⟨rfl, hx5⟩; have x45 := x4x.trans hx5; have hz5 := x45.size; have bf5 := bx.ext hx5; have hr5 := hr4.up x45; rw [hb3] at hr5; have hx05 := hr5.ext; have ho5 := ho4.ext x45); (conv => whnf)) | ((refine number_ok (k := 8) hr5 (by decide) (by omega) h6 ?_; intro H6 a6 c6 hr6 hx6; have hx06 := hr6.ext; have ho6 := ho5.keep hx6 hog; have hz6 := hx6.size; have bf6 := bf5.but hx6 (by omega)); (conv => whnf)) | ((refine take_ok (n := rdN (b3.take 8)) hr6 (by omega) (by omega) h7 ?_; intro H7 hr7 hx7; have hx07 := hr7.ext; have ho7 := ho6.keep hx7 hog; have hz7 := hx7.size; have bf7 := bf6.but hx7 (by omega); have hrB := rd_row hr6 (rdN (b3.take 8))); (conv => whnf)) | ((rename_i Hk zk bk8 xk Hl zl bl xl; have blf : Blk Hl Hk.size (fileC (P, false, B) a6 c6).toArray 26 := (by unfold fileC; rw [hBl]; exact bl); have hok : Own Hl H.size 26 3 oa L.length oc vs := (ho7.keep xk (fun p hp e => by have := (ho7.block p hp).1; have := (ho4.block p hp).2; omega)).ext xl; refine NextH.appF (news := fileC (P, false, B) a6 c6) hok (Blk.row (c := fileC (P, false, B) a6 c6) blf) rfl (fileC_plain _ _ _) (by omega) (by omega) ⟨_, rfl, fun _ h => by cases h⟩ ?_; intro a9 c9 H9 ho9 hw9; have hz9 := hw9.size); (conv => whnf)) | (refine Vc.stp ?_; intros; (conv => whnf)))))
    have hx7l : Ext H0 Hl := (hx07.but xk (by have := hr4.ext.size; omega)).trans xl
    have hx79 : Ext H0 H9 := hx7l.wr hok hr0.ext.size hw9
    have hgH4 : g ≠ H4.size := by omega
    have hr9 : RdA H0 H9 g ((b3.drop 8).drop (rdN (b3.take 8))) _ _ := ((hr7.keep xk hgH4 (hx07.but xk (by have := hr4.ext.size; omega))).up xl).keep hw9 (fun ⟨p, hp, e⟩ => hog p hp e) hx79
    rw [hB] at hrB
    have hfv9 := hfv.append (FilesV.cons (x := (P, false, B)) (a := a6) (cap := c6) hrB .nil)
    rw [List.append_nil] at hfv9
    rw [hstep]
    refine ⟨⟨(b3.drop 8).drop (rdN (b3.take 8)), _, _, L ++ [(P, false, B)], vs ++ fileC (P, false, B) a6 c6, a9, c9⟩, ⟨by rw [List.length_append]; rfl, trivial⟩, ⟨hr9, rfl, hfv9, by rw [List.length_append]; exact ho9, by rw [List.length_append]; simp; omega, by show ((b3.drop 8).drop _).length ≤ _; rw [List.length_drop]; omega, by omega⟩, by show ((b3.drop 8).drop _).length < (k :: b1).length; rw [List.length_drop]; omega⟩
end Go.Proofs.YtjcmcmogbkdjcaaDoor
/- Archives, the code: Open. -/
namespace Go.Proofs.YtjcmcmogbkdjcaaDoor
open Go Go.Vc Go.Scr Go.Pth Go.Tre Go.Arc
theorem agrees_nilA (a : Act) : Agrees [] a := fun i v h => by cases h
theorem wp_of_vcA {P : Program} {n : Nat} {c : Code} {env : Env} {Q : Post} {a : Act} {w : World} (hf : fitsC n c = true) (ha : Agrees env a) (hn : a.tmps.size = n) (h : vcCode P n c env w.heap Q) : c.wp P (LiftQ w n a (mods c) Q) a w :=
  (vcCode_sound c env w.heap Q hf h).out w a w ha rfl hn (Same.refl w) rfl
theorem wpOpsS_recoverA {P : Program} {ops : Array Oper} {Q : Exit → Act → List Frame → World → Prop} {i : Nat} {rest : List Nat} {a : Act} {cs cs' : List Frame} {w : World} {o : Oper} {d : Nat} {v : Value} (ho : ops[i]? = some o) (hop : o.op = .call { callee := .builtin .recover, args := #[], argTypes := #[] }) (hg : o.guard = none) (hd : o.dst = some d)
    (hr : (recoverD cs = some (v, cs')) ∨ (recoverD cs = none ∧ v = .nilIface ∧ cs' = cs)) (h : wpOpsS P ops Q rest (a.put (some d) v) cs' w) : wpOpsS P ops Q (i :: rest) a cs w := by
  unfold wpOpsS
  have he : (execOp a.eval o).run P w = .ok .recover w := by unfold execOp; rw [hop]; rfl
  have hw : Region.wanted o (yielded ops a.tmps) = true := by unfold Region.wanted; rw [hg]
  rw [ho]
  dsimp only
  rw [if_pos hw, he]
  dsimp only
  rcases hr with hr | ⟨hr, rfl, rfl⟩
  · rw [hr, hd]; exact h
  · rw [hr, hd]; exact h
theorem wpOpsS_assignA {P : Program} {ops : Array Oper} {Q : Exit → Act → List Frame → World → Prop} {i : Nat} {rest : List Nat} {a : Act} {cs : List Frame} {w : World} {o : Oper} {d : Nat} {x : Operand} {v : Value} (ho : ops[i]? = some o) (hop : o.op = .assign x) (hg : o.guard = none) (hd : o.dst = some d) (hv : a.eval x = v)
    (h : wpOpsS P ops Q rest (a.put (some d) v) cs w) : wpOpsS P ops Q (i :: rest) a cs w := by
  unfold wpOpsS
  have he : (execOp a.eval o).run P w = .ok (.value v) w := by unfold execOp; rw [hop, ← hv]; rfl
  have hw : Region.wanted o (yielded ops a.tmps) = true := by unfold Region.wanted; rw [hg]
  rw [ho]
  dsimp only
  rw [if_pos hw, he]
  dsimp only [Oper.upon]
  rw [hd]; exact h
theorem wpS_recA {P : Program} {id : Nat} {o0 o1 : Oper} {Q : Exit → Act → List Frame → World → Prop} {a : Act} {cs cs' : List Frame} {w : World} {d0 d1 : Nat} {v : Value} (h0 : o0.op = .call { callee := .builtin .recover, args := #[], argTypes := #[] }) (g0 : o0.guard = none) (e0 : o0.dst = some d0)
    (h1 : o1.op = .assign (.tmp d0)) (g1 : o1.guard = none) (e1 : o1.dst = some d1) (hd : d0 < a.tmps.size) (hr : (recoverD cs = some (v, cs')) ∨ (recoverD cs = none ∧ v = .nilIface ∧ cs' = cs)) (h : Q .normal ((a.put (some d0) v).put (some d1) v) cs' w) : (Code.region id #[o0, o1] false).wpS P Q a cs w := by
  refine wpS_region ?_
  show wpOpsS P #[o0, o1] Q [0, 1] a cs w
  refine wpOpsS_recoverA (o := o0) rfl h0 g0 e0 hr (wpOpsS_assignA (o := o1) rfl h1 g1 e1 ?_ h)
  simp [Act.eval, Act.put, Array.getD_eq_getD_getElem?, hd]
theorem results_ofA {P : Program} {fn : Func} {env : Env} {a : Act} {w : World} {v : Value} (ha : Agrees env a) (h : vcRes P env w.heap fn.results.toList fun vs => Vc.one vs = v) : (results fn a.tmps).run P w = .ok v w := by
  obtain ⟨vs, hr, hv⟩ := vcRes_sound ha _ _ h
  rw [results_eq, Array.mapM_eq_mapM_toList]
  simp only [bind_assoc, map_eq_pure_bind, pure_bind, Sem.run_bind]
  rw [hr, ← hv]
  simp only [Result.andThen_ok, Sem.run_pure]
  rcases vs with _ | ⟨x, _ | ⟨y, l⟩⟩ <;> simp [Vc.one]
theorem wpOps_valueA {P : Program} {ops : Array Oper} {Q : Exit → Act → World → Prop} {i : Nat} {rest : List Nat} {a : Act} {w : World} {o : Oper} {v : Value} (ho : ops[i]? = some o) (hg : o.guard = none) (he : (execOp a.eval o).run P w = .ok (.value v) w) (h : wpOps P ops Q rest (a.put o.dst v) w) : wpOps P ops Q (i :: rest) a w := by
  unfold wpOps
  have hw : Region.wanted o (yielded ops a.tmps) = true := by unfold Region.wanted; rw [hg]
  rw [ho]
  dsimp only
  rw [if_pos hw]
  refine .inl ?_
  unfold Oper.wp
  rw [he]
  exact h
theorem wpOps_deferA {P : Program} {ops : Array Oper} {Q : Exit → Act → World → Prop} {i : Nat} {rest : List Nat} {a : Act} {w : World} {o : Oper} {d : Deferred} (ho : ops[i]? = some o) (hg : o.guard = none) (he : (execOp a.eval o).run P w = .ok (.defer d) w) (h : wpOps P ops Q rest ({ a with defers := d :: a.defers }.put o.dst undef) w) : wpOps P ops Q (i :: rest) a w := by
  unfold wpOps
  have hw : Region.wanted o (yielded ops a.tmps) = true := by unfold Region.wanted; rw [hg]
  rw [ho]
  dsimp only
  rw [if_pos hw]
  refine .inl ?_
  unfold Oper.wp
  rw [he]
  exact h
theorem wp_deferA {P : Program} {id : Nat} {o0 o1 : Oper} {Q : Exit → Act → World → Prop} {a : Act} {w : World} {d0 : Nat} {f : FuncId} {x y : Operand} (h0 : o0.op = .makeFunc (.func f) #[] #[x, y]) (g0 : o0.guard = none) (e0 : o0.dst = some d0)
    (h1 : o1.op = .defer { callee := .value (.tmp d0), args := #[], argTypes := #[] }) (g1 : o1.guard = none) (e1 : o1.dst = none) (hd : d0 < a.tmps.size)
    (h : Q .normal { tmps := (a.put (some d0) (.func (.func f) #[] #[a.eval x, a.eval y])).tmps, defers := { target := .fn (.func f) #[a.eval x, a.eval y], args := #[] } :: a.defers } w) : (Code.region id #[o0, o1] false).wp P Q a w := by
  refine wp_region ?_
  show wpOps P #[o0, o1] Q [0, 1] a w
  refine wpOps_valueA (o := o0) (v := .func (.func f) #[] #[a.eval x, a.eval y]) rfl g0 (by simp [execOp, h0, Instr.makeFunc]) ?_
  have hv : (a.put o0.dst (.func (.func f) #[] #[a.eval x, a.eval y])).eval (.tmp d0) = .func (.func f) #[] #[a.eval x, a.eval y] := by
    rw [e0]; simp [Act.eval, Act.put, Array.getD_eq_getD_getElem?, hd]
  refine wpOps_deferA (o := o1) (d := { target := .fn (.func f) #[a.eval x, a.eval y], args := #[] }) rfl g1 (by simp [execOp, h1, resolve, hv, Deferred.ofValue]) ?_
  rw [e1, e0]
  exact h
def recCA (c : Nat) : List PanicEntry := [{ v := stopA c, recovered := true }]
set_option maxHeartbeats 2000000 in
/-- behind a panic: nothing, and the panic's number -/
theorem backA_panic (c b0 b1 : Nat) (sl o : Value) (w : World) (h0 : Blk w.heap b0 #[sl] 23) (h1 : Blk w.heap b1 #[o] 27) (hne : b0 ≠ b1) :
    CallsD Tryd.prog 10 #[.pointer (some ⟨b0, 0, none⟩), .pointer (some ⟨b1, 0, none⟩)] (.panicking (stopAC c)) w fun e u' w' => (∃ v, e = .returned v) ∧ settle u' = .returning ∧ Same w w' ∧ Blk w'.heap b0 #[.slice none 0 0] 23 ∧ Blk w'.heap b1 #[.int .i64 c] 27 ∧ Only (fun x => x = b0 ∨ x = b1) w.heap w'.heap := by
  refine callsD_of_wpS Tryd.func10 rfl ?_
  intro c₀ cs hu
  obtain ⟨fn, tm, todo, df, md, kd, ro⟩ := c₀
  dsimp only at hu
  subst hu
  refine wpS_seq (wpS_recA (v := stopA c) (cs' := { fn := fn, tmps := tm, todo := todo, defers := df, mode := .panicking (recCA c), kind := kd, roundOf := ro } :: cs) rfl rfl rfl rfl rfl rfl (by simp) (.inl rfl) ?_)
  unfold Exit.thenS
  refine wpS_of_wp ?_
  refine wp_mono (wp_of_vcA (n := 18) (env := [(2, stopA c), (0, .pointer (some ⟨b0, 0, none⟩)), (1, .pointer (some ⟨b1, 0, none⟩))]) (Q := fun e env H' => e = .normal ∧ Blk H' b0 #[.slice none 0 0] 23 ∧ Blk H' b1 #[.int .i64 c] 27 ∧ Only (fun x => x = b0 ∨ x = b1) w.heap H') rfl ?_ (by simp [Act.put]) ?_) ?_
  · exact (((agrees_nilA _).drop (by simp [Act.put])).drop (by simp [Act.put])).drop (by simp [Act.put])
  · unfold stopA
    ((conv => whnf); repeat (any_goals (first | ((refine CondH.pos rfl ?_); (conv => whnf)) | (refine Vc.sts ?_; (conv => whnf)))))
    refine ⟨⟨.tuple #[.agg #[.int .i64 c], .bool true], fun w => by kernel_rfl, ?_⟩⟩
    ((conv => whnf); repeat (any_goals (first | (((with_reducible refine Vc.DrawH.held [0, 1, 2, 3] [(2, [1])] mixed (by decide +kernel) ?_)); (conv => whnf)) | (refine Vc.stp ?_; intros; (conv => whnf)))))
    rename_i Ha za ba xa Hx zx bx xx
    have hb0l := h0.lt
    have hb1l := h1.lt
    have xwx : Ext w.heap Hx := xa.but xx (Nat.le_refl _)
    refine DoH.store1 (o := 0) (h0.ext xwx) rfl rfl rfl (by show 0 < 1; omega) ?_
    intro H3 hs3 hb3 hx3
    have bx3 := bx.but hx3 (by omega)
    ((conv => whnf); repeat (any_goals (first | ((refine DoH.store1 (o := 0) ((h1.ext xwx).but hx3 hne.symm) rfl rfl rfl (by show 0 < 1; omega) ?_; intro H4 hs4 hb4 hx4); (conv => whnf)) | (((with_reducible refine Vc.DrawH.held [0, 1, 2, 3] [(2, [1])] mixed (by decide +kernel) ?_)); (conv => whnf)) | (refine Vc.stp ?_; intros; (conv => whnf)))))
    exact ⟨rfl, hb3.but hx4 hne, hb4, ((xwx.only (F := fun x => x = b0 ∨ x = b1)).trans hx3 fun _ _ e => .inl e).trans hx4 fun _ _ e => .inr e⟩
  · rintro e a' w' ⟨hd, hn, hs, hfr, env, hA, he, k1, k2, k3⟩
    subst he
    exact ⟨hd, _, rfl, .tuple #[], by kernel_rfl, ⟨_, rfl⟩, rfl, hs, k1, k2, k3⟩
/-- behind a return: nothing -/
theorem backA_ret (b0 b1 : Nat) (w : World) : CallsD Tryd.prog 10 #[.pointer (some ⟨b0, 0, none⟩), .pointer (some ⟨b1, 0, none⟩)] .returning w fun e u' w' => (∃ v, e = .returned v) ∧ settle u' = .returning ∧ Same w w' ∧ w'.heap = w.heap := by
  refine callsD_of_wpS Tryd.func10 rfl ?_
  intro c₀ cs hu
  obtain ⟨fn, tm, todo, df, md, kd, ro⟩ := c₀
  dsimp only at hu
  subst hu
  refine wpS_seq (wpS_recA (v := .nilIface) (cs' := { fn := fn, tmps := tm, todo := todo, defers := df, mode := .returning, kind := kd, roundOf := ro } :: cs) rfl rfl rfl rfl rfl rfl (by simp) (.inr ⟨rfl, rfl, rfl⟩) ?_)
  unfold Exit.thenS
  refine wpS_of_wp ?_
  refine wp_mono (wp_of_vcA (n := 18) (env := [(2, .nilIface), (0, .pointer (some ⟨b0, 0, none⟩)), (1, .pointer (some ⟨b1, 0, none⟩))]) (Q := fun e env H' => e = .normal ∧ H' = w.heap) rfl ?_ (by simp [Act.put]) ?_) ?_
  · exact (((agrees_nilA _).drop (by simp [Act.put])).drop (by simp [Act.put])).drop (by simp [Act.put])
  · ((conv => whnf); repeat (any_goals (first | ((refine CondH.neg rfl ?_); (conv => whnf)) | (refine Vc.sts ?_; (conv => whnf)))))
    exact ⟨rfl, rfl⟩
  · rintro e a' w' ⟨hd, hn, hs, hfr, env, hA, he, k1⟩
    subst he
    exact ⟨hd, _, rfl, .tuple #[], by kernel_rfl, ⟨_, rfl⟩, rfl, hs, k1⟩
end Go.Proofs.YtjcmcmogbkdjcaaDoor
/- Archives, the code: Open, whole. -/
namespace Go.Proofs.YtjcmcmogbkdjcaaDoor
open Go Go.Vc Go.Scr Go.Pth Go.Tre Go.Arc
/-- what is known of an answer: files and a number -/
def OpV (H' : Heap) (v : Value) (r : List Fi × Nat) : Prop := ∃ a cap, v = .tuple #[.slice a r.1.length cap, .int .i64 r.2] ∧ RowF H' a r.1 ∧ r.1.length ≤ 500
theorem open_panic {b : Bs} (h : ¬ (b.length ≤ 262144 ∧ b.take 4 = [80, 65, 75, 49])) : openF b = ([], 64) := by unfold openF; rw [if_neg h]
set_option maxHeartbeats 4000000 in
theorem openA_any (b : Bs) (a : Option Addr) (n cap : Nat) (H : Heap) (hr : Row H a (strV b)) (hn : b.length = n) (hc : n ≤ cap) (hm : cap ≤ maxLen) (hb1 : n ≤ 1000000) :
    CallH Tryd.prog 5 [.slice a n cap] H fun v H' => OpV H' v (openF b) ∧ Ext H H' := by
  refine ⟨fun w hw => ?_⟩
  rw [Tryd.call5]
  refine ⟨Same.refl w, ?_⟩
  refine calls_of_wp_defers Tryd.func5 rfl ?_
  subst hw
  refine wp_seq (wp_mono (wp_of_vcA (n := 35) (env := [(0, .slice a n cap)])
    (Q := fun e env H' => e = .normal ∧ get env 2 = some (.pointer (some ⟨w.heap.size, 0, none⟩)) ∧ get env 3 = some (.pointer (some ⟨w.heap.size + 1, 0, none⟩)) ∧ Blk H' w.heap.size #[.slice none 0 0] 23 ∧ Blk H' (w.heap.size + 1) #[.int .i64 0] 27 ∧ Ext w.heap H' ∧ H'.size = w.heap.size + 2) rfl ?_ (by simp) ?_) ?_)
  · exact (agrees_nilA _).drop (by simp)
  · ((conv => whnf); repeat (any_goals (first | (refine Vc.sts ?_; (conv => whnf)))))
    refine SemH.alloc rfl rfl ?_
    intro H1 hs1 hb1 hx1
    ((conv => whnf); repeat (any_goals (first | (refine Vc.sts ?_; (conv => whnf)))))
    refine SemH.alloc rfl rfl ?_
    intro H2 hs2 hb2 hx2
    ((conv => whnf); repeat (any_goals (first | (refine Vc.sts ?_; (conv => whnf)))))
    rw [hs1] at hb2 ⊢
    exact ⟨rfl, rfl, rfl, hb1.ext hx2, hb2, hx1.trans hx2, by omega⟩
  rintro e a1 w1 ⟨hd1, hn1, hs1, hfr1, env1, hA1, he, h2, h3, k2, k3, kx, ksz⟩
  subst he
  have t0 : a1.tmps[0]? = some (.slice a n cap) := by rw [hfr1 0 (by decide)]; simp
  have t2 := hA1 _ _ h2
  have t3 := hA1 _ _ h3
  have res : ∀ (a' : Act) (w' : World) (x y : Value), a'.tmps[2]? = some (.pointer (some ⟨w.heap.size, 0, none⟩)) → a'.tmps[3]? = some (.pointer (some ⟨w.heap.size + 1, 0, none⟩)) → Blk w'.heap w.heap.size #[x] 23 → Blk w'.heap (w.heap.size + 1) #[y] 27 → (results Tryd.f5 a'.tmps).run Tryd.prog w' = .ok (.tuple #[x, y]) w' := by
    intro a' w' x y h2' h3' hb2' hb3'
    refine results_ofA (env := [(2, .pointer (some ⟨w.heap.size, 0, none⟩)), (3, .pointer (some ⟨w.heap.size + 1, 0, none⟩))]) (((agrees_nilA _).drop h3').drop h2') ?_
    refine SemH.load_at hb2' rfl rfl ?_
    refine ⟨rfl, ?_⟩
    (conv => whnf)
    refine SemH.load_at (o := 0) (v := y) hb3' rfl rfl ?_
    exact ⟨rfl, rfl⟩
  show Code.wp _ _ _ a1 w1
  refine wp_seq (wp_deferA rfl rfl rfl rfl rfl rfl (by omega) ?_)
  have ev2 : a1.eval (.tmp 2) = .pointer (some ⟨w.heap.size, 0, none⟩) := by simp [Act.eval, t2, Array.getD_eq_getD_getElem?]
  have ev3 : a1.eval (.tmp 3) = .pointer (some ⟨w.heap.size + 1, 0, none⟩) := by simp [Act.eval, t3, Array.getD_eq_getD_getElem?]
  rw [ev2, ev3, show a1.defers = [] from hd1]
  obtain ⟨tm, htm⟩ : ∃ tm, tm = (a1.put (some 6) (.func (.func 10) #[] #[.pointer (some ⟨w.heap.size, 0, none⟩), .pointer (some ⟨w.heap.size + 1, 0, none⟩)])).tmps := ⟨_, rfl⟩
  rw [← htm]
  have p0 : tm[0]? = some (.slice a n cap) := by rw [htm, put_other (by simp)]; exact t0
  have p2 : tm[2]? = some (.pointer (some ⟨w.heap.size, 0, none⟩)) := by rw [htm, put_other (by simp)]; exact t2
  have p3 : tm[3]? = some (.pointer (some ⟨w.heap.size + 1, 0, none⟩)) := by rw [htm, put_other (by simp)]; exact t3
  have pn : tm.size = 35 := by rw [htm, put_size]; exact hn1
  refine wp_mono (wp_of_vcA (n := 35) (env := [(0, .slice a n cap), (2, .pointer (some ⟨w.heap.size, 0, none⟩)), (3, .pointer (some ⟨w.heap.size + 1, 0, none⟩))])
    (Q := fun e env H' => (e = .ret ∧ (∃ x y, OpV H' (.tuple #[x, y]) (openF b) ∧ Blk H' w.heap.size #[x] 23 ∧ Blk H' (w.heap.size + 1) #[y] 27) ∧ Ext w.heap H') ∨ (∃ c, e = .panic (stopAC c) ∧ openF b = ([], c) ∧ (∃ x y, Blk H' w.heap.size #[x] 23 ∧ Blk H' (w.heap.size + 1) #[y] 27) ∧ Ext w.heap H')) rfl ?_ pn ?_) ?_
  · exact (((agrees_nilA _).drop p3).drop p2).drop p0
  · have hx01 := kx
    have hrw : Row w1.heap a (strV b) := hr.ext kx
    generalize w1.heap = Hw at *
    by_cases hlen : n ≤ 262144
    rotate_left
    · have hop : openF b = ([], 64) := open_panic (fun h => hlen (by omega))
      ((conv => whnf); repeat (any_goals (first | ((refine mustA_no (by first | rfl | (rw [beq_eq_false_iff_ne]; omega) | (rw [bne_eq_false_iff_eq]; omega) | (rw [decide_eq_false_iff_not]; omega)) ?_); (conv => whnf)) | (refine Vc.stp ?_; intros; (conv => whnf)))))
      exact .inr ⟨64, rfl, hop, ⟨_, _, k2, k3⟩, hx01⟩
    have hmin : min (n : Int) 4 = ((min n 4 : Nat) : Int) := by omega
    obtain ⟨m, hmm⟩ : ∃ m, m = min n 4 := ⟨_, rfl⟩
    have hmi : min (n : Int) 4 = (m : Int) := by omega
    have hbt : b.take m = b.take 4 := by
      rcases Nat.le_total n 4 with h | h
      · rw [show m = n by omega, List.take_of_length_le (by omega), List.take_of_length_le (by omega)]
      · rw [show m = 4 by omega]
    have hrt : Row Hw a (strV (b.take 4)) := by rw [← hbt]; have := hrw.take m; rwa [strV_take] at this
    have hml : (b.take 4).length = m := by rw [List.length_take]; omega
    have hpre := fun H => pre_any (b.take 4) [80, 65, 75, 49] (by omega) (by decide) H
    by_cases hsig : b.take 4 = [80, 65, 75, 49]
    rotate_left
    · have hop : openF b = ([], 64) := open_panic (fun h => hsig h.2)
      have hpf : List.isPrefixOf [80, 65, 75, 49] (b.take 4) = false := by
        rw [Bool.eq_false_iff]
        intro h
        have h := List.isPrefixOf_iff_prefix.1 h
        exact hsig (h.eq_of_length_le (by rw [List.length_take]; exact Nat.min_le_left _ _)).symm
      rw [hpf] at hpre
      ((conv => whnf); repeat (any_goals (first | ((refine BndH.nat m hmi (by omega) ?_); (conv => whnf)) | ((refine to_string' (l := b.take 4) rfl rfl rfl hrt hml ?_); (conv => whnf)) | ((refine (hpre _).mono ?_; rintro _ _ ⟨rfl, rfl⟩); (conv => whnf)) | ((refine mustA_no (by first | rfl | (rw [beq_eq_false_iff_ne]; omega) | (rw [bne_eq_false_iff_eq]; omega) | (rw [decide_eq_false_iff_not]; omega)) ?_); (conv => whnf)) | (refine Vc.stp ?_; intros; (conv => whnf)))))
      exact .inr ⟨64, rfl, hop, ⟨_, _, k2, k3⟩, hx01⟩
    have hpf : List.isPrefixOf [80, 65, 75, 49] (b.take 4) = true := by rw [hsig]; rfl
    rw [hpf] at hpre
    have hrd : ∀ Hb, Blk Hb Hw.size #[.slice (sliceBase a cap 4 1) (n - 4) (cap - 4)] 43 → Ext Hw Hb → RdA Hw Hb Hw.size (b.drop 4) (sliceBase a cap 4 1) (cap - 4) := fun Hb bb xb => ⟨by rw [List.length_drop, hn]; exact bb, by (have := hrw.drop cap 4 1 (by rw [strV_length]; omega)); rwa [Nat.mul_one, strV_drop] at this, by rw [List.length_drop]; omega, by unfold maxLen at hm ⊢; omega, Nat.le_refl _, xb⟩
    have hdl : (b.drop 4).length = n - 4 := by rw [List.length_drop, hn]
    have h4 : 4 ≤ n := by have := congrArg List.length hsig; rw [List.length_take] at this; simp at this; omega
    ((conv => whnf); repeat (any_goals (first | ((refine BndH.nat m hmi (by omega) ?_); (conv => whnf)) | ((refine to_string' (l := b.take 4) rfl rfl rfl hrt hml ?_); (conv => whnf)) | ((refine (hpre _).mono ?_; rintro _ _ ⟨rfl, rfl⟩); (conv => whnf)) | ((refine mustA_ok (by first | rfl | (rw [beq_iff_eq]; omega) | (rw [bne_iff_ne]; omega) | (rw [decide_eq_true_eq]; omega)) ?_); (conv => whnf)) | ((refine BndH.nat 4 rfl h4 ?_); (conv => whnf)) | ((refine PureH.build #[.slice (sliceBase a cap 4 1) (n - 4) (cap - 4)] (by kernel_rfl) ?_); (conv => whnf)) | ((rename_i Hb zb bb xb; refine (all_any Hw Hw.size (b.drop 4) (sliceBase a cap 4 1) (cap - 4) Hb (hrd Hb bb xb) (by omega)).mono ?_ ?_); (conv => whnf)) | (refine Vc.stp ?_; intros; (conv => whnf)))))
    · rintro v H2 ⟨hp0, ⟨oa, oc, vs, rfl, h500, hrow, hfv⟩, hx2⟩
      have hsm := parse_small ((b.drop 4).length + 1) (b.drop 4) [] n (by omega) (fun f hf => by cases hf)
      have hsm : ∀ f ∈ (Arc.parseF (b.drop 4) []).1, f.1.length ≤ n ∧ f.2.2.length ≤ n := hsm
      have hopF : openF b = match ofF (Arc.parseF (b.drop 4) []).1 with | (some A, _) => (A, 0) | (none, _) => ([], 64) := by
        unfold openF
        exact (if_pos ⟨by omega, hsig⟩).trans (if_pos hp0)
      generalize (Arc.parseF (b.drop 4) []).1 = L at *
      have hrf : RowF H2 oa L := ⟨vs, hrow, hfv.ext hx2⟩
      have hof := of_any L oa L.length oc H2 hrf rfl (by omega) (fun f hf => by have := (hsm f hf).2; omega)
      have hcd := of_codeA L
      have k22 := k2.ext hx2
      have k32 := k3.ext hx2
      unfold OfV at hof
      cases hr1 : ofF L with
      | mk o c =>
        rw [hr1] at hof hcd hopF
        cases o with
        | none =>
          dsimp only at hof hcd hopF
          have hc0 : ¬ (c : Int) = 0 := by have := hcd.1 rfl; omega
          ((conv => whnf); repeat (any_goals (first | ((refine hof.mono ?_; rintro _ H3 ⟨rfl, hx3⟩); (conv => whnf)) | ((refine DoH.store1 (o := 0) (k32.ext hx3) rfl rfl rfl (by show 0 < 1; omega) ?_; intro H4 hz4 hb4 hx4; have hx14 : Ext w.heap H4 := ((hx01.trans hx2).trans hx3).but hx4 (by omega)); (conv => whnf)) | ((refine mustA_no (by first | rfl | (rw [beq_eq_false_iff_ne]; omega) | (rw [bne_eq_false_iff_eq]; omega) | (rw [decide_eq_false_iff_not]; omega)) ?_); (conv => whnf)) | (refine Vc.stp ?_; intros; (conv => whnf)))))
          exact .inr ⟨64, rfl, hopF, ⟨_, _, (k22.ext hx3).but hx4 (by omega), hb4⟩, hx14⟩
        | some A =>
          dsimp only at hof hcd hopF
          have hc0 : c = 0 := Classical.byContradiction fun h => by have := hcd.2 h; cases this
          subst hc0
          ((conv => whnf); repeat (any_goals (first | ((refine hof.mono ?_; rintro _ H3 ⟨⟨tb, tm', rfl, ht3, ok, hb3, hm3⟩, hx3⟩; have okc := ok.count; have okf : ∀ k n, mget A k = some n → n.2.length ≤ 1000000000 := (fun k n h => Nat.le_trans (ok.file k n h).1 (by decide))); (conv => whnf)) | ((refine DoH.store1 (o := 0) (k32.ext hx3) rfl rfl rfl (by show 0 < 1; omega) ?_; intro H4 hz4 hb4 hx4; have hx24 := hx3.size; have ht4 := ht3.keep hx4 (fun e => by have := hx2.size; omega) (fun e => by have := hx2.size; omega) (fun x e _ => by subst e; exact .inl (.blk (k32.ext hx3) (by simp [dumbV]) (by decide))); have k24 := (k22.ext hx3).but hx4 (by omega); have hx04 : Ext w.heap H4 := ((hx01.trans hx2).trans hx3).but hx4 (by omega)); (conv => whnf)) | ((refine mustA_ok (by first | rfl | (rw [beq_iff_eq]; omega) | (rw [bne_iff_ne]; omega) | (rw [decide_eq_true_eq]; omega)) ?_); (conv => whnf)) | ((refine (files_any ht4 ok.sorted (by omega) okf).mono ?_; rintro _ H5 ⟨⟨a5, c5, rfl, hc5, hr5, _⟩, hx5⟩); (conv => whnf)) | ((refine DoH.store1 (o := 0) (k24.ext hx5) rfl rfl rfl (by show 0 < 1; omega) ?_; intro H6 hz6 hb6 hx6; have hr6 := hr5.keep hx6 (fun x e _ => by subst e; exact .blk (k24.ext hx5) (by simp [dumbV])); have k36 := (hb4.ext hx5).but hx6 (by omega)); (conv => whnf)) | ((refine DoH.store1 (o := 0) k36 rfl rfl rfl (by show 0 < 1; omega) ?_; intro H7 hz7 hb7 hx7; have hr7 := hr6.keep hx7 (fun x e _ => by subst e; exact .blk k36 (by simp [dumbV])); have hb67 := hb6.but hx7 (by omega)); (conv => whnf)) | (refine Vc.stp ?_; intros; (conv => whnf)))))
          have hx07 : Ext w.heap H7 := ((hx04.trans hx5).but hx6 (Nat.le_refl _)).but hx7 (by omega)
          exact .inl ⟨rfl, ⟨_, _, by rw [hopF]; exact ⟨a5, c5, rfl, hr7, okc⟩, hb67, hb7⟩, hx07⟩
    · rintro c H2 ⟨hp0, rfl, hx2⟩
      have hop : openF b = ([], (Arc.parseF (b.drop 4) []).2) := by unfold openF; rw [if_pos ⟨by omega, hsig⟩, if_neg hp0]
      exact .inr ⟨_, rfl, hop, ⟨_, _, k2.ext hx2, k3.ext hx2⟩, hx01.trans hx2⟩
  rintro e a4 w4 ⟨hd4, hn4, hs4, hfr4, env4, hA4, hcase⟩
  have q2 : a4.tmps[2]? = some (.pointer (some ⟨w.heap.size, 0, none⟩)) := by rw [hfr4 2 (by decide)]; exact p2
  have q3 : a4.tmps[3]? = some (.pointer (some ⟨w.heap.size + 1, 0, none⟩)) := by rw [hfr4 3 (by decide)]; exact p3
  have hd4' : a4.defers = [{ target := .fn (.func 10) #[.pointer (some ⟨w.heap.size, 0, none⟩), .pointer (some ⟨w.heap.size + 1, 0, none⟩)], args := #[] }] := hd4
  have hinv : ∀ w', (invoke (.fn (.func 10) #[.pointer (some ⟨w.heap.size, 0, none⟩), .pointer (some ⟨w.heap.size + 1, 0, none⟩)]) #[]).run Tryd.prog w' = .ok (.enter 10 #[.pointer (some ⟨w.heap.size, 0, none⟩), .pointer (some ⟨w.heap.size + 1, 0, none⟩)]) w' := fun w' => Tryd.call10 _ w'
  have hs04 := hs1.trans hs4
  rcases hcase with ⟨he, ⟨x, y, hop, hbx, hby⟩, hx⟩ | ⟨c, he, hop, ⟨x, y, hbx, hby⟩, hx⟩
  · subst he
    show Leaves _ _ _ _ a4.defers .returning w4
    rw [hd4']
    refine leaves_cons (by simp) (hinv w4) (CallsD.mono (backA_ret _ _ w4) ?_)
    rintro e u' w' ⟨⟨v, rfl⟩, hset, hs5, hh5⟩
    show Leaves _ _ _ _ [] (settle u') w'
    rw [hset]
    exact ⟨_, res a4 w' x y q2 q3 (by rw [hh5]; exact hbx) (by rw [hh5]; exact hby), hs04.trans hs5, _, rfl, by rw [hh5]; exact hop, by rw [hh5]; exact hx⟩
  · subst he
    show Leaves _ _ _ _ a4.defers (.panicking (stopAC c)) w4
    rw [hd4']
    refine leaves_cons (by simp) (hinv w4) (CallsD.mono (backA_panic c _ _ _ _ w4 hbx hby (by omega)) ?_)
    rintro e u' w' ⟨⟨v, rfl⟩, hset, hs5, hg5, hb5, hx5⟩
    show Leaves _ _ _ _ [] (settle u') w'
    rw [hset]
    refine ⟨_, res a4 w' _ _ q2 q3 hg5 hb5, hs04.trans hs5, _, rfl, ?_, Only.trans hx hx5 fun z hz e => by rcases e with e | e <;> omega⟩
    rw [hop]
    exact ⟨none, 0, rfl, RowF.nil _ _, Nat.zero_le _⟩
end Go.Proofs.YtjcmcmogbkdjcaaDoor
/- Archives, the reference: Open. -/
namespace Go.Proofs.YtjcmcmogbkdjcaaDoor
open Go Go.Vc Go.Scr Go.Pth Go.Tre Go.Arc
theorem shl_orI (n c : Nat) (hn : n < 256) (hc : c < 256) : bitB .i64 .or (shlB .i64 (n : Int) 8) (c : Int) = ((n * 256 + c : Nat) : Int) := by
  have e1 : shlB .i64 (n : Int) 8 = ((n * 256 : Nat) : Int) := by
    unfold shlB
    show IntKind.i64.wrap ((n : Int) * 2 ^ 8) = _
    rw [show ((n : Int) * 2 ^ 8) = ((n * 256 : Nat) : Int) by omega]
    exact wrap_i64 (by omega) (by omega)
  rw [e1]
  unfold bitB
  show IntKind.i64.wrap _ = _
  have e2 : ((BitVec.ofInt IntKind.i64.bits ((n * 256 : Nat) : Int)) ||| (BitVec.ofInt IntKind.i64.bits (c : Int))).toNat = n * 256 + c := by
    rw [BitVec.toNat_or]
    have k1 : (BitVec.ofInt IntKind.i64.bits ((n * 256 : Nat) : Int)).toNat = n * 256 := by
      rw [BitVec.ofInt_natCast, BitVec.toNat_ofNat]
      exact Nat.mod_eq_of_lt (by show n * 256 < 2 ^ 64; omega)
    have k2 : (BitVec.ofInt IntKind.i64.bits (c : Int)).toNat = c := by
      rw [BitVec.ofInt_natCast, BitVec.toNat_ofNat]
      exact Nat.mod_eq_of_lt (by show c < 2 ^ 64; omega)
    rw [k1, k2]
    have := Nat.shiftLeft_add_eq_or_of_lt (b := c) (i := 8) (by simpa using hc) n
    rw [Nat.shiftLeft_eq] at this
    simpa using this.symm
  rw [e2]
  exact wrap_i64 (by omega) (by omega)
theorem rd2 (x y : UInt8) : rdN [x, y] = x.toNat * 256 + y.toNat := by simp [rdN]
/-- what an answer of the parse comes to -/
def openG (r : Tr × Nat) : Tr × Nat := if r.2 = 0 then (match ofF r.1 with | (some A, _) => (A, 0) | (none, _) => ([], 64)) else ([], r.2)
theorem openV_err {H : Heap} {b : Bs} {c : Nat} (h : openF b = ([], c)) : OpV H (.tuple #[.slice none 0 0, .int .i64 (c : Int)]) (openF b) := by rw [h]; exact ⟨none, 0, rfl, RowF.nil _ _, Nat.zero_le _⟩
structure RoT where
  l : Bs
  a : Option Addr
  cap : Nat
  L : Tr
  fs : List SF
  oa : Option Addr
  oc : Nat
theorem row_drop {H : Heap} {a : Option Addr} {cap : Nat} {l : Bs} (h : Row H a (strV l)) (n : Nat) (hc : l.length ≤ cap) : Row H (sliceBase a cap n 1) (strV (l.drop n)) := by
  have := h.drop cap n 1 (by rw [strV_length]; omega)
  rwa [Nat.mul_one, strV_drop] at this
theorem row_take {H : Heap} {a : Option Addr} {l : Bs} (h : Row H a (strV l)) (n : Nat) : Row H a (strV (l.take n)) := by have := h.take n; rwa [strV_take] at this
theorem own_not8 {H : Heap} {base n cap : Nat} {a : Option Addr} {vs : List Value} (h : Own H base 26 3 a n cap vs) : ∀ b c, (∃ p, a = some p ∧ p.block = b) → ¬ Blk H b c 5 := by
  rintro b c ⟨p, hp, rfl⟩ hb
  rcases h.out with ⟨h1, _⟩ | ⟨g, cur, h1, _, hb2, _⟩
  · rw [h1] at hp; cases hp
  · rw [h1] at hp; cases hp
    exact absurd (blk_one hb hb2).1 (by decide)
end Go.Proofs.YtjcmcmogbkdjcaaDoor
/- Archives: the sum over one row of bytes, the code's and the reference's. -/
namespace Go.Proofs.YtjcmcmogbkdjcaaDoor
open Go Go.Vc Go.Scr Go.Pth Go.Tre Go.Arc Go.Sha
/-- a slice of one slice of bytes -/
theorem one_part {H : Heap} {g n cap : Nat} {a : Option Addr} {b : Bs} {t : TypeId} (hb : Blk H g #[.slice a n cap] t) (hr : Row H a (strV b)) (hn : b.length = n) (hc : n ≤ cap) : Parts H (some ⟨g, 0, none⟩) [⟨a, n, cap, b⟩] := by
  refine ⟨Blk.row (c := [.slice a n cap]) hb, fun p hp => ?_⟩
  rw [List.mem_singleton.1 hp]
  exact ⟨hn, hc, hr⟩
theorem allL_part (p : Part) : allL [p] = p.l := by unfold allL; simp
set_option maxHeartbeats 1000000 in
theorem digest_any (b : Bs) (a : Option Addr) (n cap : Nat) (H : Heap) (hr : Row H a (strV b)) (hn : b.length = n) (hc : n ≤ cap) (hb1 : n ≤ 70368744177664) :
    CallH Tryd.prog 8 [.slice a n cap] H fun v H' => v = .agg (strV (sumL b)).toArray ∧ Ext H H' := by
  refine Vc.CallH.body Tryd.func8 Tryd.call8 rfl (by decide +kernel) rfl ?_
  ((conv => whnf); repeat (any_goals (first | ((rename_i H1 hz1 hk1 hx1 H2 hz2 hk2 hx2; have hp := one_part hk2 (hr.ext (hx1.trans hx2)) hn hc; refine (sum_any _ _ 1 1 _ hp rfl (by decide) (by rw [allL_part]; dsimp only; omega)).mono ?_; rintro _ H3 ⟨rfl, hx3⟩; rw [allL_part]); (conv => whnf)) | (refine Vc.stp ?_; intros; (conv => whnf)) | (refine Vc.spl ?_ ?_ <;> (intro _; (conv => whnf))))))
  rename_i H4 hz4 hk4 hx4
  exact ⟨rfl, ((hx1.trans hx2).trans hx3).but hx4 (Nat.le_refl _)⟩
theorem ref_digest {b : Bs} {a : Option Addr} {n cap g : Nat} {H : Heap} {t : TypeId} (hk : Blk H g #[.slice a n cap] t) (hr : Row H a (strV b)) (hn : b.length = n) (hc : n ≤ cap) (hb1 : n ≤ 70368744177664) :
    CallH Tryd.prog 9 [.slice (some ⟨g, 0, none⟩) 1 1] H fun v H' => v = .agg (strV (sumL b)).toArray ∧ Ext H H' := by
  have := shaof_any [⟨a, n, cap, b⟩] (some ⟨g, 0, none⟩) 1 1 H (one_part hk hr hn hc) rfl (by decide) (by rw [allL_part]; dsimp only; omega)
  rwa [allL_part] at this
end Go.Proofs.YtjcmcmogbkdjcaaDoor
/- Archives, plain: law 13's example. -/
namespace Go.Arc
open Go.Scr Go.Pth Go.Tre
theorem known1 : openF (packF [([97, 47, 98], false, [120])]) = ([([97], true, []), ([97, 47, 98], false, [120])], 0) := by decide +kernel
theorem known2 : openF [80, 65, 75, 49] = ([], 64) := by decide +kernel
theorem known3 : openF (packF [([46, 46, 47, 97], false, [])]) = ([], 51) := by decide +kernel
theorem known4 : packF [] = [80, 65, 75, 49, 255] := by decide +kernel
end Go.Arc
/- Law 13's known: the example. DRAFT. -/
namespace Go.Proofs.YtjcmcmogbkdjcaaDoor
open Go Go.Vc Go.Scr Go.Pth Go.Tre Go.Arc Go.Sha
theorem own_max {H : Heap} {base n cap size : Nat} {e : TypeId} {a : Option Addr} {xs : List Value} (h : Own H base e size a n cap xs) : cap ≤ maxLen := by
  rcases h.out with ⟨_, _, h1⟩ | ⟨_, _, _, _, _, _, hm, _⟩
  · omega
  · exact hm
theorem knownN : (packF [([97, 47, 98], false, [120])]).length ≤ 100 ∧ (packF [([46, 46, 47, 97], false, [])]).length ≤ 100 := by decide +kernel
set_option maxHeartbeats 1000000 in
theorem known13_any (H : Heap) : CallH Tryd.prog 4 [] H fun v H' => v = .bool true ∧ Ext H H' := by
  refine Vc.CallH.body Tryd.func4 Tryd.call4 rfl (by decide +kernel) rfl ?_
  ((conv => whnf); repeat (any_goals (first | ((have := hx5; refine PureH.build #[.string (mkS [46, 46, 47, 97]), .bool false, .slice none 0 0] (by kernel_rfl) ?_); (conv => whnf)) | ((have := hx5; rename_i Hg zg bg xg; have hrg : RowF Hg (some ⟨H5.size, 0, none⟩) [([46, 46, 47, 97], false, [])] := ⟨_, Blk.row (c := fileC ([46, 46, 47, 97], false, []) none 0) bg, FilesV.cons (Row.nil _ _) .nil⟩; refine (pack_any _ _ 1 _ _ hrg rfl (by decide) (by decide)).mono ?_; rintro _ H6 ⟨⟨a6, c6, rfl, ho6⟩, hx6⟩; have hz6 := hx6.size); (conv => whnf)) | ((refine (openA_any _ a6 _ c6 H6 ho6.row rfl ho6.cap_le (own_max ho6) (by have := knownN.2; omega)).mono ?_; rintro _ H7 ⟨⟨a7, c7, rfl, _, _⟩, hx7⟩; have hz7 := hx7.size; rw [known3]); (conv => whnf)) | ((have := hx7; refine (pack_any [] none 0 0 _ (RowF.nil _ _) rfl (by decide) (by decide)).mono ?_; rintro _ H8 ⟨⟨a8, c8, rfl, ho8⟩, hx8⟩; have hz8 := hx8.size; rw [known4] at ho8 ⊢; have h48 := ((((hx2.trans hx5).trans xg).trans hx6).trans hx7).trans hx8); (conv => whnf)) | ((refine (openA_any [80, 65, 75, 49] _ 4 4 _ hr2 rfl (by decide) (by decide) (by decide)).mono ?_; rintro _ H5 ⟨⟨a5, c5, rfl, _, _⟩, hx5⟩; have hz5 := hx5.size; rw [known2]); (conv => whnf)) | ((refine marked rfl rfl (by assumption) (by assumption) (by omega) ?_; intro H2 hz2 hr2 hx2); (conv => whnf)) | ((refine PureH.build #[.string (mkS [97, 47, 98]), .bool false, .slice (some ⟨H.size, 0, none⟩) 1 1] (by kernel_rfl) ?_); (conv => whnf)) | ((rename_i Hf zf bf xf; have hrf : RowF Hf (some ⟨H2.size, 0, none⟩) [([97, 47, 98], false, [120])] := ⟨_, Blk.row (c := fileC ([97, 47, 98], false, [120]) (some ⟨H.size, 0, none⟩) 1) bf, FilesV.cons (hr2.ext xf) .nil⟩; refine (pack_any _ _ 1 _ _ hrf rfl (by decide) (by decide)).mono ?_; rintro _ H3 ⟨⟨a3, c3, rfl, ho3⟩, hx3⟩; have hz3 := hx3.size; have h03 := (hx2.trans xf).trans hx3); (conv => whnf)) | ((refine (openA_any _ a3 _ c3 H3 ho3.row rfl ho3.cap_le (own_max ho3) (by have := knownN.1; omega)).mono ?_; rintro _ H4 ⟨⟨a4, c4, rfl, hr4, _⟩, hx4⟩; have hz4 := hx4.size; rw [known1] at hr4 ⊢; have h04 := h03.trans hx4); (conv => whnf)) | ((refine to_string' (l := [80, 65, 75, 49, 255]) rfl rfl rfl ho8.row rfl ?_); (conv => whnf)) | ((refine IdxA.file (hr4.ext h48) rfl 1 ([97, 47, 98], false, [120]) rfl rfl ?_; intro bi oi ai ci hri hci; have hc0 := hci 0 _ rfl; have hc2 := hci 2 _ rfl); (conv => whnf)) | ((refine to_string' (l := [120]) rfl rfl rfl hri rfl ?_); (conv => whnf)) | ((refine (digest_any [] none 0 0 _ (Row.nil _ _) rfl (by decide) (by decide)).mono ?_; rintro _ H9 ⟨rfl, hx9⟩); (conv => whnf)) | ((refine (shaof_any [] none 0 0 _ ⟨Row.nil _ _, fun p hp => by cases hp⟩ rfl (by decide) (by decide)).mono ?_; rintro _ Ha ⟨rfl, hxa⟩; rw [show allL [] = [] from rfl]; have sl := sumL_length ([] : List UInt8)); (conv => whnf)) | (((with_reducible apply PureH.eql_bytes); (focus (rfl)); (focus (rfl)); (focus (rfl)); (focus (rfl)); (focus (rfl)); (focus (exact sl)); (focus (exact sl))); (conv => whnf)) | (refine Vc.stp ?_; intros; (conv => whnf)))))
  exact ⟨by show Value.bool (sumL [] == sumL []) = _; rw [beq_self_eq_true], ((h04.trans h48).trans hx9).trans hxa⟩
end Go.Proofs.YtjcmcmogbkdjcaaDoor
/- Archives, plain: what is packed is read again; two equal paths; a path that leads out. -/
namespace Go.Arc
open Go.Scr Go.Pth Go.Tre
theorem rdN_numB (n k : Nat) : rdN (numB n k) = n % 256 ^ k := by
  have key : ∀ i, i ≤ k → rdN ((numB n k).take i) = n / 2 ^ (8 * (k - i)) % 256 ^ i := by
    intro i
    induction i with
    | zero => intro _; rw [List.take_zero, Nat.pow_zero, Nat.mod_one]; rfl
    | succ i ih =>
      intro hi
      rw [numB_take n k i (by omega), rdN_snoc, ih (by omega)]
      unfold byteB
      rw [UInt8.toNat_ofNat']
      have e : k - 1 - i = k - (i + 1) := by omega
      have e2 : 2 ^ (8 * (k - i)) = 2 ^ (8 * (k - (i + 1))) * 256 := by
        rw [show 8 * (k - i) = 8 * (k - (i + 1)) + 8 by omega, Nat.pow_add]
      rw [e, e2, ← Nat.div_div_eq_div_mul]
      generalize n / 2 ^ (8 * (k - (i + 1))) = m
      rw [show 256 ^ (i + 1) = 256 * 256 ^ i from Nat.pow_succ', Nat.mod_mul]
      have : m % 256 % 2 ^ 8 = m % 256 := by omega
      omega
  have := key k (Nat.le_refl _)
  rw [List.take_of_length_le (by rw [numB_len]; exact Nat.le_refl _)] at this
  rw [this, Nat.sub_self]; simp
/-- what an entry is read as -/
def normF (f : Fi) : Fi := (f.1, f.2.1, if f.2.1 = true then [] else f.2.2)
theorem takeL {α : Type} {a b : List α} {n : Nat} (h : a.length = n) : (a ++ b).take n = a := by rw [← h]; exact List.take_left
theorem dropL {α : Type} {a b : List α} {n : Nat} (h : a.length = n) : (a ++ b).drop n = b := by rw [← h]; exact List.drop_left
theorem stepA_ent (f : Fi) (r : Txt) (cnt : Nat) (h1 : f.1.length ≤ 65535) (h2 : f.2.2.length ≤ 1000000000) (hc : cnt < 500) :
    stepA (entB f ++ r) cnt = if (cleanF f.1).2 = 51 then .inl 51 else if (cleanF f.1).2 ≠ 0 then .inl 64 else .inr (some (normF f, r)) := by
  obtain ⟨p, d, b⟩ := f
  dsimp only at h1 h2
  have hr2 : rdN (numB p.length 2) = p.length := by rw [rdN_numB]; exact Nat.mod_eq_of_lt (by omega)
  have hr8 : rdN (numB b.length 8) = b.length := by rw [rdN_numB]; exact Nat.mod_eq_of_lt (by omega)
  have ht : p.take 65535 = p := List.take_of_length_le h1
  have hm : min p.length 65535 = p.length := Nat.min_eq_left h1
  cases d with
  | true =>
    have e : entB (p, true, b) ++ r = 1 :: (numB p.length 2 ++ (p ++ r)) := by
      unfold entB; dsimp only; rw [if_pos rfl, if_pos rfl, ht, hm]; simp
    rw [e]
    unfold stepA
    dsimp only
    rw [takeL (numB_len _ _), dropL (numB_len _ _), hr2, takeL rfl, dropL rfl]
    rw [if_neg (by decide), if_neg (by intro h; exact h ⟨by decide, hc⟩), if_neg (by rw [List.length_append, numB_len]; omega), if_neg (by rw [List.length_append]; omega)]
    rfl
  | false =>
    have e : entB (p, false, b) ++ r = 0 :: (numB p.length 2 ++ (p ++ (numB b.length 8 ++ (b ++ r)))) := by
      unfold entB; dsimp only; rw [if_neg (by decide), if_neg (by decide), ht, hm]; simp
    rw [e]
    unfold stepA
    dsimp only
    rw [takeL (numB_len _ _), dropL (numB_len _ _), hr2, takeL rfl, dropL rfl, takeL (numB_len _ _), dropL (numB_len _ _), hr8, takeL rfl, dropL rfl]
    rw [if_neg (by decide), if_neg (by intro h; exact h ⟨by decide, hc⟩), if_neg (by rw [List.length_append, numB_len]; omega), if_neg (by rw [List.length_append]; omega)]
    by_cases h51 : (cleanF p).2 = 51
    · rw [if_pos h51, if_pos h51]
    · rw [if_neg h51, if_neg h51]
      by_cases h0 : (cleanF p).2 ≠ 0
      · rw [if_pos h0, if_pos h0]
      · rw [if_neg h0, if_neg h0, if_neg (by decide), if_neg (by rw [List.length_append, numB_len]; omega), if_neg (by rw [List.length_append]; omega)]
        rfl
theorem parse_end (A : List Fi) : parseF [255] A = (A, 0) := by
  rw [parseF_eq]; rfl
/-- entries with clean paths, one after the other -/
structure EntOk (f : Fi) : Prop where
  path : f.1.length ≤ 65535
  body : f.2.2.length ≤ 1000000000
  clean : (cleanF f.1).2 = 0
theorem parse_ents : ∀ (L : List Fi) (A : List Fi) (r : Txt), (∀ f ∈ L, EntOk f) → A.length + L.length ≤ 500 → parseF (L.flatMap entB ++ r) A = parseF r (A ++ L.map normF)
  | [], A, r, _, _ => by simp
  | f :: L, A, r, h, hc => by
    have hf := h f (by simp)
    rw [List.length_cons] at hc
    rw [List.flatMap_cons, List.append_assoc, parseF_eq, stepA_ent f _ _ hf.path hf.body (by omega), if_neg (by rw [hf.clean]; decide), if_neg (by rw [hf.clean]; decide)]
    dsimp only
    rw [parse_ents L _ r (fun g hg => h g (by simp [hg])) (by rw [List.length_append, List.length_singleton]; omega), List.append_assoc]
    rfl
theorem parse_bad (f : Fi) (A : List Fi) (r : Txt) (h1 : f.1.length ≤ 65535) (h2 : f.2.2.length ≤ 1000000000) (hc : A.length < 500) (hb : (cleanF f.1).2 ≠ 0) : parseF (entB f ++ r) A = ([], if (cleanF f.1).2 = 51 then 51 else 64) := by
  rw [parseF_eq, stepA_ent f _ _ h1 h2 hc]
  by_cases h : (cleanF f.1).2 = 51
  · rw [if_pos h, if_pos h]
  · rw [if_neg h, if_neg h, if_pos hb]
theorem entB_cons (f : Fi) : ∃ t, entB f = (if f.2.1 = true then 1 else 0) :: t := ⟨numB (min f.1.length 65535) 2 ++ f.1.take 65535 ++ (if f.2.1 = true then [] else numB f.2.2.length 8 ++ f.2.2), by unfold entB; simp⟩
theorem parse_many (f : Fi) (A : List Fi) (r : Txt) (hc : 500 ≤ A.length) : parseF (entB f ++ r) A = ([], 64) := by
  rw [parseF_eq]
  obtain ⟨t, e⟩ := entB_cons f
  have : stepA (entB f ++ r) A.length = .inl 64 := by
    rw [e, List.cons_append]
    unfold stepA
    dsimp only
    rw [if_neg (by split <;> decide), if_pos (by intro h; omega)]
  rw [this]
theorem packF_eq (L : List Fi) : packF L = [80, 65, 75, 49] ++ (L.flatMap entB ++ [255]) := by
  unfold packF packP
  rw [List.take_length]; simp
theorem open_pack (L : List Fi) (h : (packF L).length ≤ 262144) : openF (packF L) = if (parseF (L.flatMap entB ++ [255]) []).2 = 0 then
      match ofF (parseF (L.flatMap entB ++ [255]) []).1 with
      | (some A, _) => (A, 0)
      | (none, _) => ([], 64)
    else ([], (parseF (L.flatMap entB ++ [255]) []).2) := by
  unfold openF
  rw [packF_eq] at h ⊢
  exact (if_pos ⟨h, takeL rfl⟩).trans rfl
/-- two paths that are one are no archive -/
theorem open_twice (f g : Fi) (hf : f.1.length ≤ 200) (hfb : f.2.2.length ≤ 10) (hg : g.1.length ≤ 200) (hgb : g.2.2.length ≤ 10) (hx : (cleanF f.1).2 = 0) (hy : (cleanF g.1).2 = 0) (he : (cleanF f.1).1 = (cleanF g.1).1) : openF (packF [f, g]) = ([], 64) := by
  have hl : (packF [f, g]).length ≤ 262144 := by
    have hE : ∀ f : Fi, f.1.length ≤ 200 → f.2.2.length ≤ 10 → (entB f).length ≤ 300 := by
      intro f h1 h2
      unfold entB
      simp only [List.length_append, List.length_singleton, numB_len, List.length_take]
      split
      · simp; omega
      · simp [numB_len]; omega
    have h1 := hE f hf hfb
    have h2 := hE g hg hgb
    rw [packF_eq]
    simp only [List.flatMap_cons, List.flatMap_nil, List.length_append, List.length_singleton, List.append_nil]
    show 4 + _ ≤ _
    omega
  rw [open_pack _ hl, parse_ents [f, g] [] [255] (fun x hx' => by
    rcases List.mem_cons.1 hx' with rfl | hx'
    · exact ⟨by omega, by omega, hx⟩
    · rw [List.mem_singleton.1 hx']; exact ⟨by omega, by omega, hy⟩) (by simp), parse_end]
  rw [if_pos rfl]
  have h1 : (ofF ([] ++ [f, g].map normF)).1 = none := by
    show (ofGo [] [] [normF f, normF g]).1 = none
    rw [ofGo]
    split
    · rfl
    split
    · rfl
    split
    · rfl
    rw [ofGo]
    split
    · rfl
    rw [if_pos (Or.inl (by show (cleanF g.1).1 ∈ [] ++ [(cleanF f.1).1]; rw [he]; simp))]
  dsimp only
  split
  · rename_i A c e; rw [e] at h1; cases h1
  · rfl
/-- a path that leads out is told so -/
theorem open_escape (L : List Fi) (i : Nat) (f : Fi) (hi : L[i]? = some f) (hg : ∀ g ∈ L.take i, EntOk g) (h1 : f.1.length ≤ 65535) (h2 : f.2.2.length ≤ 1000000000) (hb : (cleanF f.1).2 = 51) (hn : L.length ≤ 500) (hl : (packF L).length ≤ 262144) : openF (packF L) = ([], 51) := by
  have hlt : i < L.length := by
    rcases Nat.lt_or_ge i L.length with h | h
    · exact h
    · rw [List.getElem?_eq_none h] at hi; cases hi
  have e : L = L.take i ++ f :: L.drop (i + 1) := by
    rw [List.getElem?_eq_getElem hlt] at hi
    cases hi
    rw [← List.drop_eq_getElem_cons hlt, List.take_append_drop]
  have hti : (L.take i).length = i := by rw [List.length_take]; omega
  have hp : parseF (L.flatMap entB ++ [255]) [] = ([], 51) := by
    conv => lhs; rw [e]
    rw [List.flatMap_append, List.append_assoc, parse_ents _ _ _ hg (by rw [hti]; simp; omega), List.flatMap_cons, List.append_assoc, parse_bad f _ _ h1 h2 (by simp; omega) (by rw [hb]; decide), if_pos hb]
  rw [open_pack L hl, hp, if_neg (by decide)]
end Go.Arc
/- Archives, plain: files side by side at the root. -/
namespace Go.Arc
open Go.Scr Go.Pth Go.Tre
open Go.Vc (mget mput mdel mget_put mget_mem mget_of_mem mget_none)
theorem one_clean {p : Txt} (h : GoodP p) : CleanP p := ⟨[p], rfl, ⟨fun x hx => by rw [List.mem_singleton.1 hx]; exact h, by simp, by
  have := h.ok
  unfold badP at this
  rw [Bool.or_eq_false_iff, decide_eq_false_iff_not] at this
  show p.length ≤ 200
  omega⟩⟩
theorem one_pars {p : Txt} (h : GoodP p) : pars p = [] := by
  have : partsF p = [p] := parts_glue (l := [p]) (fun x hx => by rw [List.mem_singleton.1 hx]; exact h)
  unfold pars
  rw [this]; rfl
structure One (x : Fi) : Prop where
  good : GoodP x.1
  body : x.2.2.length ≤ 65536
  dir : x.2.1 = true → x.2.2 = []
theorem one_step {A : Tr} (hA : Sorted A) {x : Fi} (hx : One x) (hn : mget A x.1 = none) (hc : A.length < 500) (hs : sizeT A + x.2.2.length ≤ 1048576) :
    dirF A x.1 = false ∧ stepF A x.1 x = (putF A x.1 x.2, 0) ∧ (putF A x.1 x.2).length = A.length + 1 ∧ sizeT (putF A x.1 x.2) = sizeT A + x.2.2.length := by
  obtain ⟨p, d, b⟩ := x
  dsimp only at hn hs ⊢
  have hg : GoodP p := hx.good
  have hp := one_pars hg
  have hd : dirF A p = false := by
    unfold dirF
    rw [hn]
    have := hg.ne
    simp [this]
  have hl : lackF A p = [] := by unfold lackF; rw [hp]; rfl
  have hf : fileF A p = false := by unfold fileF; rw [hp]; rfl
  have ho : oldF A p = 0 := by unfold oldF; rw [hn]
  have hlen := putF_len hA p (d, b)
  rw [if_pos hn] at hlen
  have hsz := putF_size hA p (d, b)
  rw [ho] at hsz
  refine ⟨hd, ?_, hlen, by simpa using hsz⟩
  cases d with
  | true =>
    obtain rfl : b = [] := hx.dir rfl
    unfold stepF
    rw [if_pos rfl]
    unfold mkdirP
    rw [if_neg (by rw [hd]; decide), if_neg (by rw [hn, hf]; decide), hl, if_neg (by simp; omega)]
    rfl
  | false =>
    have hb : b.length ≤ 65536 := hx.body
    unfold stepF
    rw [if_neg (by simp)]
    unfold writeP moreF
    rw [if_neg (by rw [hd, hf]; decide), hn, hl, ho, if_neg (by simp; omega)]
    rfl
theorem of_ones : ∀ (L : List Fi) (A : Tr) (seen : List Txt), Sorted A → (∀ k, mget A k ≠ none → k ∈ seen) → (∀ x ∈ L, One x) → (L.map (·.1)).Nodup → (∀ x ∈ L, x.1 ∉ seen) → A.length + L.length ≤ 500 →
    sizeT A + (L.map fun x => x.2.2.length).sum ≤ 1048576 → ∃ B, ofGo A seen L = (some B, 0) ∧ B.length = A.length + L.length
  | [], A, seen, _, _, _, _, _, _, _ => ⟨A, rfl, rfl⟩
  | x :: L, A, seen, hA, hs, ho, hn, hx, hc, hz => by
    have h1 := ho x (by simp)
    have hxs := hx x (by simp)
    have hno : mget A x.1 = none := by
      cases hm : mget A x.1 with
      | none => rfl
      | some n => exact absurd (hs x.1 (by rw [hm]; simp)) hxs
    rw [List.length_cons] at hc
    rw [List.map_cons, List.sum_cons] at hz
    rw [List.map_cons, List.nodup_cons] at hn
    obtain ⟨hd, hst, hl, hsz⟩ := one_step hA h1 hno (by omega) (by omega)
    have hid := (one_clean h1.good).id
    obtain ⟨B, e, eB⟩ := of_ones L (putF A x.1 x.2) (seen ++ [x.1]) (putF_sorted hA _ _) (fun k hk => by
      rw [mget_putF] at hk
      by_cases hkx : k = x.1
      · rw [hkx]; simp
      · rw [if_neg hkx] at hk; exact List.mem_append_left _ (hs k hk)) (fun y hy => ho y (by simp [hy])) hn.2 (fun y hy hm => by
      rcases List.mem_append.1 hm with h | h
      · exact hx y (by simp [hy]) h
      · rw [List.mem_singleton] at h
        exact hn.1 (by rw [← h]; exact List.mem_map_of_mem hy)) (by rw [hl]; omega) (by rw [hsz]; omega)
    refine ⟨B, ?_, by rw [eB, hl, List.length_cons]; omega⟩
    rw [ofGo, hid, if_neg (by simp), if_neg (by
      dsimp only
      intro h
      rcases h with h | h
      · exact hxs h
      · rw [hd] at h; cases h.2)]
    dsimp only
    rw [hst, if_neg (by simp)]
    exact e
/-- what so many files side by side are opened as -/
theorem open_ones (L : List Fi) (ho : ∀ x ∈ L, One x) (hn : (L.map (·.1)).Nodup) (hz : (L.map fun x => x.2.2.length).sum ≤ 1048576) (hl : (packF L).length ≤ 262144) :
    ∃ B, openF (packF L) = (B, if L.length ≤ 500 then 0 else 64) ∧ (L.length ≤ 500 → B.length = L.length) := by
  have hne : ∀ x ∈ L, EntOk x := fun x hx => by
    have h := ho x hx
    have hg := h.good.ok
    unfold badP at hg
    rw [Bool.or_eq_false_iff, decide_eq_false_iff_not] at hg
    exact ⟨by omega, by have := h.body; omega, by rw [(one_clean h.good).id]⟩
  have hnorm : ∀ x ∈ L, normF x = x := fun x hx => by
    obtain ⟨p, d, b⟩ := x
    cases d with
    | true => obtain rfl : b = [] := (ho _ hx).dir rfl; rfl
    | false => rfl
  by_cases h5 : L.length ≤ 500
  · have hm : L.map normF = L := (List.map_congr_left hnorm).trans (List.map_id _)
    obtain ⟨B, e, eB⟩ := of_ones L [] [] List.Pairwise.nil (fun k hk => by simp [mget] at hk) ho hn (fun x hx h => by cases h) (by simpa using h5) (by simpa [sizeT] using hz)
    refine ⟨B, ?_, fun _ => by simpa using eB⟩
    rw [open_pack L hl, parse_ents L [] [255] hne (by simpa using h5), parse_end, if_pos rfl, List.nil_append, hm]
    dsimp only
    rw [show ofF L = (some B, 0) from e, if_pos h5]
  · refine ⟨[], ?_, fun h => absurd h h5⟩
    have e : L = L.take 500 ++ L[500] :: L.drop 501 := by
      rw [← List.drop_eq_getElem_cons (by omega), List.take_append_drop]
    have ht : (L.take 500).length = 500 := by rw [List.length_take]; omega
    have hp : parseF (L.flatMap entB ++ [255]) [] = ([], 64) := by
      conv => lhs; rw [e]
      rw [List.flatMap_append, List.append_assoc, parse_ents (L.take 500) _ _ (fun g hg => hne g (List.mem_of_mem_take hg)) (by rw [ht]; simp), List.flatMap_cons, List.append_assoc, parse_many _ _ _ (by rw [List.nil_append, List.length_map]; omega)]
    rw [open_pack L hl, hp, if_neg (by decide), if_neg h5]
end Go.Arc
