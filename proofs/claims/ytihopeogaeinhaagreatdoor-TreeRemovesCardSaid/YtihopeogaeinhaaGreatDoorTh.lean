import Derived.Test.YtihopeogaeinhaaGreatDoorEx
import Derived.Lib.Bytealg
import Derived.Laws.Externs
set_option linter.unusedVariables false
set_option linter.unusedSimpArgs false
set_option maxRecDepth 100000
/- A text's lines: strings.Split at one byte. -/
namespace Go.Proofs.YtihopeogaeinhaaGreatDoor
open Go Go.Vc Go.Scr

theorem countS_any (l : Bs) (c : UInt8) (H : Heap) : CallH Tryz.prog 163 [.string (mkS l), .int .u8 c.toNat] H fun v H' => v = .int .i64 (l.count c : Nat) ∧ H = H' := by
  refine CallH.extern Tryz.func163 (by kernel_rfl) (by kernel_rfl) (by kernel_rfl) (by kernel_rfl) (e := Extern.BytealgCount.count) ⟨fun w hw => ⟨_, w, Lib.run_countString (mkS l) c.toNat w, Same.refl w, ?_, hw.symm⟩⟩
  show Value.int .i64 ((l.count ((c.toNat : Int).toNat.toUInt8) : Nat) : Int) = _
  have : (c.toNat : Int).toNat.toUInt8 = c := by rw [Int.toNat_natCast]; exact UInt8.ofNat_toNat
  rw [this]
theorem indexS_any (l : Bs) (c : UInt8) (H : Heap) : CallH Tryz.prog 168 [.string (mkS l), .int .u8 c.toNat] H fun v H' => v = .int .i64 (Lib.indexByte l c) ∧ H = H' := by
  refine CallH.extern Tryz.func168 (by kernel_rfl) (by kernel_rfl) (by kernel_rfl) (by kernel_rfl) (e := Extern.BytealgIndexByte.indexByte) ⟨fun w hw => ⟨_, w, Lib.run_indexByteString (mkS l) c.toNat w, Same.refl w, ?_, hw.symm⟩⟩
  show Value.int .i64 (Lib.indexByte l ((c.toNat : Int).toNat.toUInt8)) = _
  have : (c.toNat : Int).toNat.toUInt8 = c := by rw [Int.toNat_natCast]; exact UInt8.ofNat_toNat
  rw [this]
theorem Count_any (l : Bs) (c : UInt8) (H : Heap) : CallH Tryz.prog 156 [.string (mkS l), .string (mkS [c])] H fun v H' => v = .int .i64 (l.count c : Nat) ∧ H = H' := by
  have hsz : (mkS [c]).size = 1 := rfl
  have h0 : (mkS [c]).data.toList.getD 0 0 = c := rfl
  refine Vc.CallH.body Tryz.func156 Tryz.call156 rfl (by decide +kernel) rfl ?_
  ((conv => whnf); repeat (any_goals (first | ((refine IdxH.nat 0 rfl (by omega) ?_; (conv => whnf); rw [h0]); (conv => whnf)) | ((refine (countS_any _ _ _).mono ?_; rintro _ _ ⟨rfl, rfl⟩); (conv => whnf)) | (refine Vc.stp ?_; intros; (conv => whnf)) | (refine Vc.spl ?_ ?_ <;> (intro _; (conv => whnf))))))
  exact ⟨rfl, rfl⟩
theorem IndexByte_any (l : Bs) (c : UInt8) (H : Heap) : CallH Tryz.prog 164 [.string (mkS l), .int .u8 c.toNat] H fun v H' => v = .int .i64 (Lib.indexByte l c) ∧ H = H' := by
  refine Vc.CallH.body Tryz.func164 Tryz.call164 rfl (by decide +kernel) rfl ?_
  ((conv => whnf); repeat (any_goals (first | ((refine (indexS_any _ _ _).mono ?_; rintro _ _ ⟨rfl, rfl⟩); (conv => whnf)) | (refine Vc.stp ?_; intros; (conv => whnf)) | (refine Vc.spl ?_ ?_ <;> (intro _; (conv => whnf))))))
  exact ⟨rfl, rfl⟩
set_option maxHeartbeats 1000000 in
theorem Index0_any (l : Bs) (c : UInt8) (H : Heap) : CallH Tryz.prog 161 [.string (mkS l), .string (mkS [c])] H fun v H' => v = .int .i64 (Lib.indexByte l c) ∧ H = H' := by
  have hsz : (mkS [c]).size = 1 := rfl
  have h0 : (mkS [c]).data.toList.getD 0 0 = c := rfl
  refine Vc.CallH.body Tryz.func161 Tryz.call161 rfl (by decide +kernel) rfl ?_
  ((conv => whnf); repeat (any_goals (first | ((refine IdxH.nat 0 rfl (by omega) ?_; (conv => whnf); rw [h0]); (conv => whnf)) | ((refine (IndexByte_any _ _ _).mono ?_; rintro _ _ ⟨rfl, rfl⟩); (conv => whnf)) | (refine Vc.stp ?_; intros; (conv => whnf)) | (refine Vc.spl ?_ ?_ <;> (intro _; (conv => whnf))))))
  · rename_i h
    have := mkS_inj.1 h
    subst this
    refine ⟨?_, rfl⟩
    show Value.int .i64 0 = Value.int .i64 (if (c == c) = true then 0 else _)
    rw [if_pos (by simp)]
  · exact ⟨rfl, rfl⟩
theorem Index_any (l : Bs) (c : UInt8) (H : Heap) : CallH Tryz.prog 154 [.string (mkS l), .string (mkS [c])] H fun v H' => v = .int .i64 (Lib.indexByte l c) ∧ H = H' := by
  refine Vc.CallH.body Tryz.func154 Tryz.call154 rfl (by decide +kernel) rfl ?_
  ((conv => whnf); repeat (any_goals (first | ((refine (Index0_any _ _ _).mono ?_; rintro _ _ ⟨rfl, rfl⟩); (conv => whnf)) | (refine Vc.stp ?_; intros; (conv => whnf)) | (refine Vc.spl ?_ ?_ <;> (intro _; (conv => whnf))))))
  exact ⟨rfl, rfl⟩
theorem index_none {c : UInt8} : ∀ {l : Bs}, c ∉ l → Lib.indexByte l c = -1
  | [], _ => rfl
  | b :: l, h => by
    have h1 : (b == c) = false := by rw [beq_eq_false_iff_ne]; exact fun e => h (by simp [e])
    unfold Lib.indexByte
    rw [h1, index_none (l := l) fun hm => h (by simp [hm])]; rfl
theorem index_some {c : UInt8} : ∀ {l : Bs}, c ∈ l → ∃ p q, l = p ++ c :: q ∧ c ∉ p ∧ Lib.indexByte l c = (p.length : Nat)
  | [], h => by simp at h
  | b :: l, h => by
    by_cases hb : b = c
    · subst hb
      exact ⟨[], l, rfl, by simp, by unfold Lib.indexByte; simp⟩
    · have hm : c ∈ l := by rcases List.mem_cons.1 h with e | e; exact absurd e.symm hb; exact e
      obtain ⟨p, q, e1, e2, e3⟩ := index_some hm
      refine ⟨b :: p, q, by rw [e1]; rfl, by simp [e2]; exact fun e => hb e.symm, ?_⟩
      have h1 : (b == c) = false := by rw [beq_eq_false_iff_ne]; exact hb
      unfold Lib.indexByte
      rw [h1, e3, if_neg (by simp), if_neg (by rw [beq_iff_eq]; omega)]
      simp
theorem splitF_none {c : UInt8} : ∀ {l : Bs}, c ∉ l → splitF c l = [l]
  | [], _ => rfl
  | x :: l, h => by
    have hx : x ≠ c := fun e => h (by simp [e])
    rw [splitF, if_neg hx, splitF_none (l := l) fun hm => h (by simp [hm])]
theorem count_none {c : UInt8} {l : Bs} (h : c ∉ l) : l.count c = 0 := List.count_eq_zero.2 h
theorem made_strs (n : Nat) : (madeCells (Value.string ⟨#[]⟩).cells (n * 1)).toList = strs (List.replicate n []) := by
  apply List.ext_getElem?
  intro i
  simp only [strs, List.map_replicate, List.getElem?_replicate, madeCells]
  simp only [Value.cells, Nat.mul_one]
  rw [Array.getElem?_toList]
  by_cases h : i < n
  · simp [h, Nat.mod_one]
  · simp [h]
theorem strs_set (l : List Bs) (k : Nat) (w : Bs) (s : ByteArray) (hs : s = mkS w) : (strs l).set k (.string s) = strs (l.set k w) := by
  subst hs; simp [strs, List.map_set]
theorem set_app (p : List Bs) (m : Nat) (w : Bs) (h : 0 < m) : (p ++ List.replicate m []).set p.length w = (p ++ [w]) ++ List.replicate (m - 1) [] := by
  obtain ⟨k, rfl⟩ : ∃ k, m = k + 1 := ⟨m - 1, by omega⟩
  rw [List.replicate_succ, List.set_append_right _ _ (Nat.le_refl _), Nat.sub_self, List.set_cons_zero]
  simp
structure GSt where
  rest : Bs
  ps : List Bs
set_option maxHeartbeats 2000000 in
theorem genSplit_any (l : Bs) (c : UInt8) (hl : l.length ≤ 100000000) (H : Heap) : CallH Tryz.prog 146 [.string (mkS l), .string (mkS [c]), .int .i64 0, .int .i64 (-1)] H fun v H' => (∃ a, v = .slice a (splitF c l).length (l.count c + 1) ∧ Own H' H.size 9 1 a (splitF c l).length (l.count c + 1) (strs (splitF c l))) ∧ Ext H H' := by
  have hsz : (mkS [c]).size = 1 := rfl
  have hszl : (mkS l).size = l.length := rfl
  have hne := ne_empty c []
  obtain ⟨N, hN⟩ : ∃ N, l.count c = N := ⟨_, rfl⟩
  have hNl : N ≤ l.length := by rw [← hN]; exact List.count_le_length
  have hcnt := fun H => Count_any l c H
  rw [hN] at hcnt ⊢
  obtain ⟨S, hS⟩ : ∃ S, splitF c l = S := ⟨_, rfl⟩
  rw [hS]
  refine Vc.CallH.body Tryz.func146 Tryz.call146 rfl (by decide +kernel) rfl ?_
  have hmin : min ((N : Int) + 1) ((l.length : Int) + 1) = ((N + 1 : Nat) : Int) := by omega
  ((conv => whnf); repeat (any_goals (first | ((refine (hcnt _).mono ?_; rintro _ _ ⟨rfl, rfl⟩); (conv => whnf)) | (refine Vc.stp ?_; intros; (conv => whnf)) | (refine Vc.spl ?_ ?_ <;> (intro _; (conv => whnf))))))
  rw [show min ((N : Int) + 1) (((mkS l).size : Int) + 1) = ((N + 1 : Nat) : Int) by rw [hszl]; exact hmin]
  refine SemH.make rfl rfl rfl (by show 16 * (N + 1) ≤ _; omega) (by unfold maxLen; omega) ?_
  intro H2 ho2 hx2
  replace ho2 : Own H2 H.size 9 1 (some ⟨H.size, 0, none⟩) (N + 1) (N + 1) (madeCells (Value.string ⟨#[]⟩).cells ((N + 1) * 1)).toList := ho2
  rw [made_strs] at ho2
  ((conv => whnf); repeat (any_goals (first | (refine Vc.stp ?_; intros; (conv => whnf)) | (refine Vc.spl ?_ ?_ <;> (intro _; (conv => whnf))))))
  refine LoopH.intro (fun (x : GSt) => [(0, .string (mkS x.rest)), (10, .int .i64 x.ps.length)]) (fun x H' => x.rest.length ≤ l.length ∧ x.ps.length + x.rest.count c = N ∧ S = x.ps ++ splitF c x.rest ∧ Own H' H.size 9 1 (some ⟨H.size, 0, none⟩) (N + 1) (N + 1) (strs (x.ps ++ List.replicate (N + 1 - x.ps.length) [])) ∧ But H.size H2 H') (fun x => N - x.ps.length) ⟨l, []⟩ ⟨rfl, rfl, trivial⟩ ⟨Nat.le_refl _, by rw [← hN]; simp, hS.symm, ho2, Only.refl _ _⟩ ?_
  rintro ⟨rest, ps⟩ H3 ⟨hrl, hcn, hsp, ho3, hx3⟩
  dsimp only at hrl hcn hsp ho3 ⊢
  have hszr : (mkS rest).size = rest.length := rfl
  have hix := fun H => Index_any rest c H
  have hrep : 0 < N + 1 - ps.length := by omega
  by_cases hlt : ps.length < N
  · have hmem : c ∈ rest := List.count_pos_iff.1 (by omega)
    obtain ⟨p, q, e1, e2, e3⟩ := index_some hmem
    rw [e3] at hix
    have hlen : rest.length = p.length + 1 + q.length := by rw [e1]; simp; omega
    have hp : (mkS rest).extract 0 p.length = mkS p := by rw [mkS_take, e1]; simp
    ((conv => whnf); repeat (any_goals (first | ((refine (hix _).mono ?_; rintro _ _ ⟨rfl, rfl⟩); (conv => whnf)) | ((refine BndH.nat p.length (by omega) (by omega) ?_); (conv => whnf)) | ((refine BndH.nat (p.length + 1) (by omega) (by omega) ?_); (conv => whnf)) | ((refine IdxA.at1 ps.length rfl (by omega) ?_); (conv => whnf)) | (refine Vc.stp ?_; intros; (conv => whnf)) | (refine Vc.spl ?_ ?_ <;> (intro _; (conv => whnf))))))
    refine DoH.store_own (o := 0 + ps.length) ho3 rfl rfl rfl (by omega) ?_
    intro H4 hs4 ho4 hx4
    rw [Nat.zero_add, strs_set _ _ p _ hp, set_app _ _ _ hrep] at ho4
    ((conv => whnf); repeat (any_goals (first | ((refine BndH.nat (p.length + 1) (by omega) (by omega) ?_); (conv => whnf)) | (refine Vc.stp ?_; intros; (conv => whnf)) | (refine Vc.spl ?_ ?_ <;> (intro _; (conv => whnf))))))
    refine ⟨⟨q, ps ++ [p]⟩, ⟨?_, ?_, trivial⟩, ⟨by show q.length ≤ _; omega, ?_, ?_, ?_, hx3.trans hx4 fun _ _ => id⟩, by show N - (ps ++ [p]).length < N - ps.length; simp; omega⟩
    · show Value.string ((mkS rest).extract (p.length + 1) (mkS rest).size) = .string (mkS q)
      rw [mkS_drop, e1]; congr 2; simp
    · show Value.int .i64 _ = Value.int .i64 _
      rw [List.length_append]; rfl
    · rw [e1] at hcn
      simp only [List.length_append, List.length_cons, List.length_nil, List.count_append, List.count_cons_self, count_none e2] at hcn ⊢
      omega
    · rw [hsp, e1, splitF_line _ _ e2]; simp
    · show Own H4 H.size _ 1 _ _ _ (strs ((ps ++ [p]) ++ List.replicate (N + 1 - (ps ++ [p]).length) []))
      rw [List.length_append, show N + 1 - (ps.length + [p].length) = N + 1 - ps.length - 1 by simp; omega]
      exact ho4
  · have hmem : c ∉ rest := List.count_eq_zero.1 (by omega)
    have hps : ps.length = N := by omega
    rw [splitF_none hmem] at hsp
    have hSl : S.length = N + 1 := by rw [hsp, List.length_append, hps]; rfl
    ((conv => whnf); repeat (any_goals (first | ((refine IdxA.at1 ps.length rfl (by omega) ?_); (conv => whnf)) | (refine Vc.stp ?_; intros; (conv => whnf)) | (refine Vc.spl ?_ ?_ <;> (intro _; (conv => whnf))))))
    refine DoH.store_own (o := 0 + ps.length) ho3 rfl rfl rfl (by omega) ?_
    intro H4 hs4 ho4 hx4
    rw [Nat.zero_add, strs_set _ _ rest _ rfl, set_app _ _ _ hrep, hps, show N + 1 - N - 1 = 0 by omega, List.replicate_zero, List.append_nil, ← hsp] at ho4
    ((conv => whnf); repeat (any_goals (first | ((refine BndH.nat (N + 1) (by omega) (by omega) ?_); (conv => whnf)) | (refine Vc.stp ?_; intros; (conv => whnf)) | (refine Vc.spl ?_ ?_ <;> (intro _; (conv => whnf))))))
    rw [hSl]
    exact ⟨⟨_, rfl, ho4⟩, (hx2.but hx3 (Nat.le_refl _)).but hx4 (Nat.le_refl _)⟩
theorem Split_any (l : Bs) (c : UInt8) (hl : l.length ≤ 100000000) (H : Heap) : CallH Tryz.prog 129 [.string (mkS l), .string (mkS [c])] H fun v H' => (∃ a, v = .slice a (splitF c l).length (l.count c + 1) ∧ Own H' H.size 9 1 a (splitF c l).length (l.count c + 1) (strs (splitF c l))) ∧ Ext H H' := by
  refine Vc.CallH.body Tryz.func129 Tryz.call129 rfl (by decide +kernel) rfl ?_
  ((conv => whnf); repeat (any_goals (first | ((refine (genSplit_any l c hl _).mono ?_; rintro _ H1 ⟨⟨a, rfl, ho⟩, hx⟩); (conv => whnf)) | (refine Vc.stp ?_; intros; (conv => whnf)) | (refine Vc.spl ?_ ?_ <;> (intro _; (conv => whnf))))))
  exact ⟨⟨a, rfl, ho⟩, hx⟩
end Go.Proofs.YtihopeogaeinhaaGreatDoor
