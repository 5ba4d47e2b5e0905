import Derived.Test.YtlgcfcdmldlefaaDoorSt
import Derived.Test.YtlgcfcdmldlefaaDoorRows
import Derived.KernelRfl
import Derived.Test.YtlgcfcdmldlefaaDoorTq
set_option linter.unusedVariables false
set_option linter.unusedSimpArgs false
set_option maxRecDepth 100000
/- Build scripts, the code: words. -/
namespace Go.Proofs.YtlgcfcdmldlefaaDoor
open Go Go.Vc Go.Scr

theorem mixed : Tryd.prog.follows .mixedOrders = true := by kernel_rfl
theorem isB_nat (c : UInt8) : isB c = (c.toNat == 32 || c.toNat == 9) := by
  unfold isB
  have h : ∀ d : UInt8, (c == d) = (c.toNat == d.toNat) := fun d => by
    rw [Bool.eq_iff_iff, beq_iff_eq, beq_iff_eq]
    exact ⟨fun e => by rw [e], UInt8.toNat_inj.1⟩
  rw [h, h]; rfl
theorem isB_t {c : UInt8} (h : c.toNat = 32 ∨ c.toNat = 9) : isB c = true := by rw [isB_nat]; rcases h with h | h <;> rw [h] <;> rfl
theorem isB_f {c : UInt8} (h1 : c.toNat ≠ 32) (h2 : c.toNat ≠ 9) : isB c = false := by rw [isB_nat]; simp [h1, h2]
theorem blank_any (c : UInt8) (H : Heap) : CallH Tryd.prog 56 [.int .u8 c.toNat] H fun v H' => v = .bool (isB c) ∧ H = H' := by
  refine Vc.CallH.body Tryd.func56 Tryd.call56 rfl (by decide +kernel) rfl ?_
  ((conv => whnf); repeat (any_goals (first | (refine Vc.stp ?_; intros; (conv => whnf)) | (refine Vc.spl ?_ ?_ <;> (intro _; (conv => whnf))))))
  · exact ⟨by rw [isB_t (.inl (by omega))]; rfl, rfl⟩
  · refine ⟨?_, rfl⟩
    show Value.bool _ = Value.bool _
    rw [isB_nat]
    rename_i h
    have : (c.toNat == 32) = false := by rw [beq_eq_false_iff_ne]; omega
    rw [this, Bool.false_or]
    congr 1
    rw [Bool.eq_iff_iff, beq_iff_eq, beq_iff_eq]; omega
/-- the predicate of Words, at a rune -/
theorem pred_any (c : Int) (H : Heap) : CallH Tryd.prog 58 [.int .i32 c] H fun v H' => v = .bool (c == 32 || c == 9) ∧ H = H' := by
  refine Vc.CallH.body Tryd.func58 Tryd.call58 rfl (by decide +kernel) rfl ?_
  ((conv => whnf); repeat (any_goals (first | (refine Vc.stp ?_; intros; (conv => whnf)) | (refine Vc.spl ?_ ?_ <;> (intro _; (conv => whnf))))))
  · rename_i h; subst h; exact ⟨rfl, rfl⟩
  · rename_i h
    refine ⟨?_, rfl⟩
    have : (c == 32) = false := by rw [beq_eq_false_iff_ne]; exact h
    rw [this]; rfl
/-- how far the first word goes -/
def runF (l : Bs) : Nat := (l.takeWhile fun x => !isB x).length
theorem runF_le : ∀ l : Bs, runF l ≤ l.length
  | [] => Nat.le_refl _
  | c :: t => by
    unfold runF
    rw [List.takeWhile_cons]
    split
    · have := runF_le t; unfold runF at this; simp only [List.length_cons]; omega
    · simp
theorem runF_no : ∀ (l : Bs) (j : Nat), j < runF l → isB (l.getD j 0) = false
  | [], j, h => by simp [runF] at h
  | c :: t, j, h => by
    unfold runF at h
    rw [List.takeWhile_cons] at h
    split at h
    · rename_i hc
      cases j with
      | zero => simpa using hc
      | succ j => exact runF_no t j (by simpa [runF] using h)
    · simp at h
theorem runF_at : ∀ (l : Bs), runF l < l.length → isB (l.getD (runF l) 0) = true
  | [], h => by simp at h
  | c :: t, h => by
    unfold runF at h ⊢
    rw [List.takeWhile_cons] at h ⊢
    split
    · rename_i hc
      rw [if_pos hc] at h
      have := runF_at t (by simp only [List.length_cons] at h; unfold runF; omega)
      simpa [runF] using this
    · rename_i hc; simpa using hc
theorem runF_uniq {l : Bs} {p : Nat} (h1 : ∀ j, j < p → isB (l.getD j 0) = false) (h2 : p < l.length) (h3 : isB (l.getD p 0) = true) : runF l = p := by
  have hle := runF_le l
  rcases Nat.lt_trichotomy (runF l) p with h | h | h
  · have := runF_at l (by omega); rw [h1 _ h] at this; cases this
  · exact h
  · have := runF_no l p h; rw [h3] at this; cases this
theorem runF_all {l : Bs} (h1 : ∀ j, j < l.length → isB (l.getD j 0) = false) : runF l = l.length := by
  have hle := runF_le l
  rcases Nat.lt_or_ge (runF l) l.length with h | h
  · have := runF_at l h; rw [h1 _ h] at this; cases this
  · omega
theorem run_take (l : Bs) : l.takeWhile (fun x => !isB x) = l.take (runF l) := by
  unfold runF
  exact (List.prefix_iff_eq_take.1 (List.takeWhile_prefix _))
theorem run_drop : ∀ l : Bs, l.dropWhile (fun x => !isB x) = l.drop (runF l)
  | [] => rfl
  | c :: t => by
    unfold runF
    rw [List.takeWhile_cons, List.dropWhile_cons]
    split
    · rw [run_drop t]; rfl
    · rfl
set_option maxHeartbeats 1000000 in
theorem indexFunc_any (l : Bs) (hl : l.length ≤ 4000000000000) (H : Heap) : CallH Tryd.prog 85 [.string (mkS l), .func (.func 58) #[] #[], .bool true] H fun v H' => v = .int .i64 (if runF l < l.length then (runF l : Int) else -1) ∧ Ext H H' := by
  have hsz : (mkS l).size = l.length := rfl
  refine Vc.CallH.body Tryd.func85 Tryd.call85 rfl (by decide +kernel) rfl ?_
  ((conv => whnf); repeat (any_goals (first | (refine Vc.sts ?_; (conv => whnf)))))
  refine SemH.range_str rfl ?_
  intro H1 hs1 hi1 hx1
  ((conv => whnf); repeat (any_goals (first | (refine Vc.sts ?_; (conv => whnf)))))
  refine LoopH.intro (fun (p : Nat) => []) (fun p H' => p ≤ l.length ∧ (∀ j, j < p → isB (l.getD j 0) = false) ∧ Iter H' H.size (mkS l) p ∧ Ext H H') (fun p => l.length - p) 0 trivial ⟨by omega, fun j h => by omega, hi1, hx1⟩ ?_
  rintro p H2 ⟨hp, hno, hi2, hx2⟩
  by_cases hlt : p < l.length
  · have hr := decode_runes l p hlt
    obtain ⟨⟨c, w⟩, hd⟩ : ∃ x, Utf8.decode (mkS l) p = x := ⟨_, rfl⟩
    rw [hd] at hr
    dsimp only at hr
    obtain ⟨hw1, hle, hlo, hhi⟩ := hr
    ((conv => whnf); repeat (any_goals (first | (refine Vc.sts ?_; (conv => whnf)))))
    refine SemH.next_str hi2 (by omega) ?_
    rw [hd]
    dsimp only
    intro H3 hs3 hi3 hx3
    have e3 : Ext H H3 := hx2.but hx3 (Nat.le_refl _)
    by_cases hc : c = 32 ∨ c = 9
    · have hb : (((c : Int) == 32 || (c : Int) == 9) == true) = true := by rcases hc with rfl | rfl <;> rfl
      ((conv => whnf); repeat (any_goals (first | ((refine (pred_any _ _).mono ?_; rintro _ _ ⟨rfl, rfl⟩); (conv => whnf)) | ((refine CondH.pos hb ?_); (conv => whnf)) | (refine Vc.sts ?_; (conv => whnf)))))
      have hb8 : (l.getD p 0).toNat < 128 := by
        rcases Nat.lt_or_ge (l.getD p 0).toNat 128 with h | h
        · exact h
        · have := (hhi h).1; omega
      have hce := (hlo hb8).1
      have : runF l = p := runF_uniq hno hlt (isB_t (by omega))
      rw [this, if_pos hlt]
      exact ⟨rfl, e3⟩
    · have hb : (((c : Int) == 32 || (c : Int) == 9) == true) = false := by
        have h1 : ((c : Int) == 32) = false := by rw [beq_eq_false_iff_ne]; omega
        have h2 : ((c : Int) == 9) = false := by rw [beq_eq_false_iff_ne]; omega
        rw [h1, h2]; rfl
      ((conv => whnf); repeat (any_goals (first | ((refine (pred_any _ _).mono ?_; rintro _ _ ⟨rfl, rfl⟩); (conv => whnf)) | ((refine CondH.neg hb ?_); (conv => whnf)) | (refine Vc.sts ?_; (conv => whnf)))))
      refine ⟨p + w, trivial, ⟨hle, fun j hj => ?_, hi3, e3⟩, by omega⟩
      rcases Nat.lt_or_ge j p with h | h
      · exact hno j h
      · rcases Nat.lt_or_ge (l.getD p 0).toNat 128 with h8 | h8
        · obtain ⟨e1, e2⟩ := hlo h8
          have : j = p := by omega
          subst this
          exact isB_f (by omega) (by omega)
        · have := (hhi h8).2 j h hj
          exact isB_f (by omega) (by omega)
  · ((conv => whnf); repeat (any_goals (first | (refine Vc.sts ?_; (conv => whnf)))))
    refine SemH.next_end hi2 (by omega) ?_
    ((conv => whnf); repeat (any_goals (first | (refine Vc.sts ?_; (conv => whnf)))))
    have : runF l = l.length := runF_all fun j hj => hno j (by omega)
    rw [this, if_neg (by omega)]
    exact ⟨rfl, hx2⟩
theorem IndexFunc_any (l : Bs) (hl : l.length ≤ 4000000000000) (H : Heap) : CallH Tryd.prog 57 [.string (mkS l), .func (.func 58) #[] #[]] H fun v H' => v = .int .i64 (if runF l < l.length then (runF l : Int) else -1) ∧ Ext H H' := by
  refine Vc.CallH.body Tryd.func57 Tryd.call57 rfl (by decide +kernel) rfl ?_
  ((conv => whnf); repeat (any_goals (first | ((refine (indexFunc_any l hl _).mono ?_; rintro _ H1 ⟨rfl, hx1⟩); (conv => whnf)) | (refine Vc.sts ?_; (conv => whnf)))))
  exact ⟨rfl, hx1⟩
end Go.Proofs.YtlgcfcdmldlefaaDoor
