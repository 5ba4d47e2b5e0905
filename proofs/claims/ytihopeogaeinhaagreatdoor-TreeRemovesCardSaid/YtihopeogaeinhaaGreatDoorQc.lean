import Derived.Test.YtihopeogaeinhaaGreatDoorQb
import Derived.Test.YtihopeogaeinhaaGreatDoorHr
set_option linter.unusedVariables false
set_option linter.unusedSimpArgs false
set_option maxRecDepth 100000
/- Bytes, cloned and put one behind another. -/
namespace Go.Vc
theorem NextH.capS {P : Program} {H : Heap} {t e : TypeId} {ty : TypeId} {cb : Array Bool} {a : Option Addr} {n cap : Nat} {K : Value → Heap → Prop} (ht : P.underlying t = some (.slice e)) (h : K (.int .i64 cap) H) : NextH P (builtin .cap #[t] ty cb #[.slice a n cap]) H K := by
  refine ⟨fun w hw => ?_⟩
  have hr : (builtin .cap #[t] ty cb #[.slice a n cap]).run P w = .ok (.value (.int .i64 cap)) w := by simp [builtin, Builtin.cap_, Sem.run_bind, underlying_of ht, goInt]
  rw [hr]
  exact ⟨Same.refl w, by rw [hw]; exact h⟩
/-- noughts behind nothing -/
theorem NextH.appendZ {P : Program} {H : Heap} {t u e ty : TypeId} {k : IntKind} {i : TypeInfo} {z : Value} {m : Nat} {cb : Array Bool} {K : Value → Heap → Prop}
    (ht : P.underlying t = some (.slice e)) (hu : P.underlying u = some (.int k)) (hi : P.info? e = some i) (hz : i.zero = some z) (hzs : z.cells.size = i.size) (h0 : 0 < m)
    (h63 : m ≤ maxLen) (hbytes : m * i.bytes ≤ 140737488355328) (hs1 : 0 < i.size)
    (hk : ∀ cap' H', Own H' H.size e i.size (some ⟨H.size, 0, none⟩) 0 cap' [] → Ext H H' → m ≤ cap' → K (.slice (some ⟨H.size, 0, none⟩) m cap') H') :
    NextH P (builtin .append #[t, u] ty cb #[.slice none 0 0, .int .i64 m]) H K := by
  refine ⟨fun w hw => ?_⟩
  have hsmall : m ≤ 9223372036854775807 := by have := h63; simp only [maxLen] at this; omega
  have goal : ∀ {v w'}, (Builtin.append_ #[t, u] ty #[.slice none 0 0, .int .i64 m]).run P w = .ok v w' → Same w w' → K v w'.heap → Nexts P w K ((builtin .append #[t, u] ty cb #[.slice none 0 0, .int .i64 m]).run P w) := by
    intro v w' hr hs hk
    simp only [builtin, Sem.run_bind, hr, Result.andThen_ok]
    exact ⟨hs, hk⟩
  have hgrow : 0 < 0 + m := by omega
  have h63' : ¬ (9223372036854775807 < ((0 : Int) + (m : Int))) := by omega
  have hfit := growslice_fits hgrow (show (0 + m) * i.bytes ≤ _ by rw [Nat.zero_add]; exact hbytes)
  have h48 : ¬ (281474976710656 < Builtin.nextslicecap (0 + m) 0 * i.bytes) := by omega
  have hge : 0 + m ≤ grownCap w (0 + m) 0 e := grownCap_ge w (0 + m) 0 e
  have hcm : grownCap w (0 + m) 0 e ≤ maxLen := grownCap_le_maxLen w (0 + m) 0 e (by omega)
  have hold : ∀ w' : World, w'.heap = H → (Builtin.firstCells i.size 0 (.slice none 0 0)).run P w' = .ok #[] w' := fun w' hw' => run_firstRow (Row.nil _ _) (by simp) w' hw'
  have hwrap : IntKind.i64.wrap (m : Int) = m := by simp [IntKind.wrap, IntKind.bits, IntKind.signed]; omega
  have hng : ¬ ((m : Int) < 0) := by omega
  have hbm : ¬ (281474976710656 < (m : Int) * (i.bytes : Int)) := by
    have : ((m * i.bytes : Nat) : Int) ≤ 140737488355328 := by omega
    rw [Int.natCast_mul] at this; omega
  have hms : ¬ (m * i.size = 0) := by have := Nat.mul_pos h0 hs1; omega
  refine goal (v := .slice (some ⟨w.heap.size, 0, none⟩) (0 + m) (grownCap w (0 + m) 0 e))
    (w' := w.drew.alloc (.cells (#[] ++ Builtin.zeroCells z.cells m ++ Builtin.zeroCells z.cells (grownCap w (0 + m) 0 e - (0 + m))) e)) ?_ ⟨rfl, rfl, rfl⟩ ?_
  · have e1 := hold w.drew hw
    have hm0 : ¬ (m = 0) := by omega
    have hsz : i.size ≠ 0 := by omega
    simp [Builtin.append_, underlying_of ht, underlying_of hu, sizeOf_of hi, typeInfo_of hi, asInt, asIntOf, hwrap, hng, hbm, hm0, hsz, hms, Question.forced, e1, zeroValue, hz, newRow, grownCap] at h63' h48 ⊢
    simp [Int.not_lt.2 h63', Nat.not_lt.2 h48, e1]
  · subst hw
    rw [Nat.zero_add] at *
    refine hk _ _ ⟨by simp, .inr ⟨w.heap.size, _, rfl, Nat.le_refl _, Blk.new (push_last _ _), Nat.zero_le _, hcm, ?_, by simp⟩⟩ (Only.push _ _ _) hge
    simp only [Array.size_append, size_zeroCells, hzs, ← Nat.add_mul]
    simp
    rw [← Nat.add_mul]; congr 1; omega
end Go.Vc
namespace Go.Proofs.YtihopeogaeinhaaGreatDoor
open Go Go.Vc Go.Scr Go.Pth Go.Tre
theorem row_nil {H : Heap} {l : List UInt8} (hr : Row H none (strV l)) : l = [] := by
  cases l with
  | nil => rfl
  | cons c t => obtain ⟨b, o, h, _⟩ := hr.at (by simp [strV]); cases h
theorem clone_any (l : List UInt8) (a : Option Addr) (n cap : Nat) (H : Heap) (hr : Row H a (strV l)) (hn : l.length = n) (hm : n ≤ 140737488355328) :
    CallH Tryz.prog 66 [.slice a n cap] H fun v H' => (∃ a' cap', v = .slice a' n cap' ∧ Own H' H.size 5 1 a' n cap' (strV l)) ∧ Ext H H' := by
  refine Vc.CallH.body Tryz.func66 Tryz.call66 rfl (by decide +kernel) rfl ?_
  cases a with
  | none =>
    obtain rfl := row_nil hr
    obtain rfl : 0 = n := hn
    ((conv => whnf); repeat (any_goals (first | ((refine CondH.pos rfl ?_); (conv => whnf)) | (refine Vc.sts ?_; (conv => whnf)))))
    exact ⟨⟨none, 0, rfl, Own.nil _ _ _ _⟩, Ext.refl _⟩
  | some p =>
    ((conv => whnf); repeat (any_goals (first | ((refine CondH.neg rfl ?_); (conv => whnf)) | (refine Vc.sts ?_; (conv => whnf)))))
    refine SemH.lit (vs := []) rfl rfl rfl rfl rfl rfl rfl ?_
    intro H1 hs1 hb1 hx1
    ((conv => whnf); repeat (any_goals (first | (refine Vc.sts ?_; (conv => whnf)))))
    refine NextH.append (i := Tryz.t5) (z := .int .u8 0) (base := H.size) rfl ⟨_, rfl, fun _ h => by cases h⟩ rfl rfl rfl (own_new hb1 (Nat.le_refl _)) (Src.row (hr.ext hx1) (by rw [strV_length, hn]; exact (Nat.mul_one _).symm) (strV_plain _)) (by unfold maxLen; omega) (by show (0 + n) * 1 ≤ _; omega) (by omega) ?_
    intro a3 cap3 H3 ho3 hw3 hn3
    ((conv => whnf); repeat (any_goals (first | (refine Vc.sts ?_; (conv => whnf)))))
    rw [Nat.zero_add, List.nil_append] at *
    exact ⟨⟨a3, cap3, rfl, ho3⟩, hx1.but hw3.toBut (Nat.le_refl _)⟩
theorem grow0_any (n : Nat) (H : Heap) (hm : n ≤ 1000000000000) : CallH Tryz.prog 106 [.slice none 0 0, .int .i64 n] H fun v H' => (∃ a' cap', v = .slice a' 0 cap' ∧ Own H' H.size 5 1 a' 0 cap' []) ∧ Ext H H' := by
  refine Vc.CallH.body Tryz.func106 Tryz.call106 rfl (by decide +kernel) rfl ?_
  by_cases h0 : n = 0
  · subst h0
    ((conv => whnf); repeat (any_goals (first | (((with_reducible apply NextH.capS); (focus (rfl)); (focus ((conv => whnf)))); (conv => whnf)) | (refine Vc.stp ?_; intros; (conv => whnf)) | (refine Vc.spl ?_ ?_ <;> (intro _; (conv => whnf))))))
    exact ⟨⟨none, 0, rfl, Own.nil _ _ _ _⟩, Ext.refl _⟩
  · ((conv => whnf); repeat (any_goals (first | (((with_reducible apply NextH.capS); (focus (rfl)); (focus ((conv => whnf)))); (conv => whnf)) | ((refine BndH.nat 0 rfl (by omega) ?_); (conv => whnf)) | (((with_reducible apply NextH.appendZ); (focus (rfl)); (focus (rfl)); (focus (rfl)); (focus (rfl)); (focus (rfl)); (focus (omega)); (focus ((unfold maxLen; omega))); (focus ((show n * 1 ≤ _; omega))); (focus (decide)); (focus ((intro c5 H5 ho5 hx5 hc5; (conv => whnf))))); (conv => whnf)) | ((rw [show ((n : Int) - (((0 : Nat) : Int) - ((0 : Nat) : Int))) = (n : Int) by omega]); (conv => whnf)) | (refine Vc.stp ?_; intros; (conv => whnf)) | (refine Vc.spl ?_ ?_ <;> (intro _; (conv => whnf))))))
    exact ⟨⟨_, c5, rfl, ho5⟩, hx5⟩
theorem IdxA.cell {H : Heap} {a : Option Addr} {vs : List Value} {n : Nat} {i : Int} {K : Addr → Prop} (h : Row H a vs) (hn : vs.length = n) (j : Nat) (v : Value) (hi : i = j) (hv : vs[j]? = some v)
    (hk : ∀ b o, hcell H ⟨b, o + j, none⟩ = some v → K ⟨b, o + j, none⟩) : IdxA a n 1 i K := by
  have hj := (List.getElem?_eq_some_iff.1 hv).1
  refine (Go.Vc.IdxA.row (size := 1) h (by rw [hn, Nat.mul_one]) (by decide) j hi (by omega) fun b o h1 h2 h3 => ?_)
  have h3 := h3 0 v (by rw [Nat.mul_one, Nat.add_zero]; exact hv)
  rw [Nat.mul_one]
  rw [Nat.mul_one] at h3
  exact hk b o (by simpa using h3)
theorem row_two {H : Heap} {g : Nat} {e : TypeId} {u v : Value} (h : Blk H g #[u, v] e) : Row H (some ⟨g, 0, none⟩) [u, v] := Blk.row (c := [u, v]) h
theorem pick_two {x y : List UInt8} {i : Nat} {l : List UInt8} (h : [x, y][i]? = some l) : (i = 0 ∧ l = x) ∨ (i = 1 ∧ l = y) := by
  match i, h with
  | 0, h => simp at h; exact .inl ⟨rfl, h.symm⟩
  | 1, h => simp at h; exact .inr ⟨rfl, h.symm⟩
structure CcS where
  i : Nat
  a : Option Addr
  cap : Nat
theorem concat_any (x y : List UInt8) (a b : Option Addr) (n m ca cb g : Nat) (H : Heap) (hx : Row H a (strV x)) (hy : Row H b (strV y)) (hn : x.length = n) (hm : y.length = m) (hm1 : n ≤ 100000000000) (hm2 : m ≤ 100000000000) (hg : Blk H g #[.slice a n ca, .slice b m cb] 25) :
    CallH Tryz.prog 96 [.slice (some ⟨g, 0, none⟩) 2 2] H fun v H' => (∃ a' cap', v = .slice a' (n + m) cap' ∧ Own H' H.size 5 1 a' (n + m) cap' (strV (x ++ y))) ∧ Ext H H' := by
  have hr := row_two hg
  refine Vc.CallH.body Tryz.func96 Tryz.call96 rfl (by decide +kernel) rfl ?_
  ((conv => whnf); repeat (any_goals (first | (refine Vc.stp ?_; intros; (conv => whnf)) | (refine Vc.spl ?_ ?_ <;> (intro _; (conv => whnf))))))
  obtain ⟨L, l0, l1, l2⟩ : ∃ L : Nat → Nat, L 0 = 0 ∧ L 1 = n ∧ L 2 = n + m := ⟨fun i => if i = 0 then 0 else if i = 1 then n else n + m, rfl, rfl, rfl⟩
  obtain ⟨M, m0, m1, m2⟩ : ∃ M : Nat → List UInt8, M 0 = [] ∧ M 1 = x ∧ M 2 = x ++ y := ⟨fun i => if i = 0 then [] else if i = 1 then x else x ++ y, rfl, rfl, rfl⟩
  refine LoopH.intro (fun (i : Nat) => [(11, .int .i64 i), (3, .int .i64 (L i))]) (fun i H' => H = H' ∧ i ≤ 2) (fun i => 2 - i) 0 ⟨rfl, by rw [l0]; rfl, trivial⟩ ⟨rfl, Nat.zero_le _⟩ ?_
  rintro i _ ⟨rfl, hi⟩
  dsimp only
  by_cases h0 : i = 0
  · subst h0
    ((conv => whnf); repeat (any_goals (first | ((refine IdxA.cell hr rfl 0 _ rfl rfl ?_; intro _ _ _); (conv => whnf)) | (refine Vc.stp ?_; intros; (conv => whnf)) | (refine Vc.spl ?_ ?_ <;> (intro _; (conv => whnf))))))
    exact ⟨1, ⟨rfl, by (show Value.int .i64 (((L 0 : Nat) : Int) + n) = Value.int .i64 (L 1 : Int); rw [l0, l1]; congr 1; omega), trivial⟩, ⟨rfl, by omega⟩, by omega⟩
  by_cases h1 : i = 1
  · subst h1
    ((conv => whnf); repeat (any_goals (first | ((refine IdxA.cell hr rfl 1 _ rfl rfl ?_; intro _ _ _); (conv => whnf)) | (refine Vc.stp ?_; intros; (conv => whnf)) | (refine Vc.spl ?_ ?_ <;> (intro _; (conv => whnf))))))
    exact ⟨2, ⟨rfl, by (show Value.int .i64 ((L 1 : Int) + m) = Value.int .i64 (L 2 : Int); rw [l1, l2]; congr 1), trivial⟩, ⟨rfl, by omega⟩, by omega⟩
  obtain rfl : i = 2 := by omega
  rw [l2]
  have hgr := fun H => grow0_any (n + m) H (by omega)
  ((conv => whnf); repeat (any_goals (first | ((refine (hgr _).mono ?_; rintro _ H1 ⟨⟨a1, c1, rfl, ho1⟩, hx1⟩; have hz1 := hx1.size); (conv => whnf)) | (refine Vc.stp ?_; intros; (conv => whnf)) | (refine Vc.spl ?_ ?_ <;> (intro _; (conv => whnf))))))
  refine LoopH.intro (fun (x : CcS) => [(27, .int .i64 x.i), (6, .slice x.a (L x.i) x.cap)]) (fun z H' => z.i ≤ 2 ∧ Own H' H.size 5 1 z.a (L z.i) z.cap (strV (M z.i)) ∧ Ext H H') (fun z => 2 - z.i) ⟨0, a1, c1⟩ ⟨rfl, by (show Value.slice a1 0 c1 = .slice a1 (L 0) c1; rw [l0]), trivial⟩ ⟨Nat.zero_le _, by (show Own H1 H.size _ 1 a1 (L 0) c1 (strV (M 0)); rw [l0, m0]; exact ho1), hx1⟩ ?_
  rintro ⟨i, a2, c2⟩ H2 ⟨hi, ho2, hx2⟩
  dsimp only at hi ho2 ⊢
  have hz2 := hx2.size
  have hr2 := hr.ext hx2
  have hx' := hx.ext hx2
  have hy' := hy.ext hx2
  by_cases h0 : i = 0
  · subst h0
    ((conv => whnf); repeat (any_goals (first | ((refine IdxA.cell hr2 rfl 0 _ rfl rfl ?_; intro _ _ _); (conv => whnf)) | ((refine NextH.append (m := n) (i := Tryz.t5) (z := .int .u8 0) (base := H.size) rfl ⟨_, rfl, fun _ h => by cases h⟩ rfl rfl rfl ho2 (Src.row hx' (by rw [strV_length, hn]; exact (Nat.mul_one _).symm) (strV_plain _)) (by unfold maxLen; omega) (by show (L 0 + n) * 1 ≤ _; omega) (by omega) ?_; intro a3 c3 H3 ho3 hw3 hn3); (conv => whnf)) | (refine Vc.stp ?_; intros; (conv => whnf)) | (refine Vc.spl ?_ ?_ <;> (intro _; (conv => whnf))))))
    have e1 : L 0 + n = L 1 := by omega
    have e2 : strV (M 0) ++ strV x = strV (M 1) := by rw [m0, m1]; rfl
    rw [e1, e2] at ho3
    exact ⟨⟨1, a3, c3⟩, ⟨rfl, by rw [e1]; rfl, trivial⟩, ⟨by show 1 ≤ 2; omega, ho3, hx2.wr ho2 (Nat.le_refl _) hw3⟩, by show 2 - 1 < 2 - 0; omega⟩
  by_cases h1 : i = 1
  · subst h1
    ((conv => whnf); repeat (any_goals (first | ((refine IdxA.cell hr2 rfl 1 _ rfl rfl ?_; intro _ _ _); (conv => whnf)) | ((refine NextH.append (m := m) (i := Tryz.t5) (z := .int .u8 0) (base := H.size) rfl ⟨_, rfl, fun _ h => by cases h⟩ rfl rfl rfl ho2 (Src.row hy' (by rw [strV_length, hm]; exact (Nat.mul_one _).symm) (strV_plain _)) (by unfold maxLen; omega) (by show (L 1 + m) * 1 ≤ _; omega) (by omega) ?_; intro a3 c3 H3 ho3 hw3 hn3); (conv => whnf)) | (refine Vc.stp ?_; intros; (conv => whnf)) | (refine Vc.spl ?_ ?_ <;> (intro _; (conv => whnf))))))
    have e1 : L 1 + m = L 2 := by omega
    have e2 : strV (M 1) ++ strV y = strV (M 2) := by rw [m1, m2, strV_append]
    rw [e1, e2] at ho3
    exact ⟨⟨2, a3, c3⟩, ⟨rfl, by rw [e1]; rfl, trivial⟩, ⟨Nat.le_refl _, ho3, hx2.wr ho2 (Nat.le_refl _) hw3⟩, by show 2 - 2 < 2 - 1; omega⟩
  obtain rfl : i = 2 := by omega
  rw [l2, m2] at *
  ((conv => whnf); repeat (any_goals (first | (refine Vc.stp ?_; intros; (conv => whnf)) | (refine Vc.spl ?_ ?_ <;> (intro _; (conv => whnf))))))
  exact ⟨⟨a2, c2, rfl, ho2⟩, hx2⟩
end Go.Proofs.YtihopeogaeinhaaGreatDoor
