import Derived.Test.YtlgcfcdmldlefaaDoorUb
set_option linter.unusedVariables false
set_option linter.unusedSimpArgs false
set_option maxRecDepth 100000
/- Build scripts, the statements: how many. -/
namespace Go.Scr
def mkLn : Ln := ⟨3, [97], [], [], 0, false⟩
theorem many_get (j : Nat) (h : j < 5) : parseF (catF (List.replicate (198 + j) mkL)) = if j ≤ 2 then (some (List.replicate (198 + j) mkLn), 0) else (none, 201) := by
  have := List.all_eq_true.1 many_ok j (List.mem_range.2 h)
  unfold mkLn
  simpa using this
def deepA (i n : Nat) : Txt := if (i + n) % 2 = 0 then ifL else rpL
theorem deepL_mod (d n : Nat) : deepL d n = (List.range d).map (fun i => deepA i n) ++ List.replicate d endL := rfl
theorem deepL_two (d n : Nat) : deepL d (n % 2) = deepL d n := by
  unfold deepL
  congr 1
  apply List.map_congr_left
  intro i _
  have : (i + n % 2) % 2 = (i + n) % 2 := by omega
  rw [this]
theorem deep_get (d n : Nat) (h : d < 12) : match parseF (catF (deepL d n)) with
    | (some l, at_) => d ≤ 8 ∧ l.length = 2 * d ∧ at_ = 0
    | (none, at_) => 8 < d ∧ at_ = 9 := by
  have := List.all_eq_true.1 (List.all_eq_true.1 deep_ok d (List.mem_range.2 h)) (n % 2) (List.mem_range.2 (by omega))
  rw [deepL_two] at this
  revert this
  cases parseF (catF (deepL d n)) with
  | mk r i =>
    cases r with
    | none => intro h; simpa using h
    | some l => intro h; simpa [and_assoc] using h
theorem catF_snoc (l : List Txt) (x : Txt) : catF (l ++ [x]) = catF l ++ (x ++ [10]) := by rw [catF_append]; simp [catF]
theorem catF_len {m : Nat} : ∀ l : List Txt, (∀ x ∈ l, x.length ≤ m) → (catF l).length ≤ (m + 1) * l.length
  | [], _ => by simp [catF]
  | x :: l, h => by
    have h1 := catF_len (m := m) l fun y hy => h y (by simp [hy])
    have h2 := h x (by simp)
    have e : catF (x :: l) = x ++ 10 :: catF l := by simp [catF]
    rw [e, List.length_append, List.length_cons, List.length_cons, Nat.mul_add]
    omega
theorem deepA_len (i n : Nat) : (deepA i n).length ≤ 20 := by unfold deepA; split <;> decide
end Go.Scr
namespace Go.Proofs.YtlgcfcdmldlefaaDoor
open Go Go.Vc Go.Scr
def deepS : List Bs := [ifL ++ [10], rpL ++ [10]]
theorem deepS_get (i n : Nat) : deepS.getD ((i + n) % 2) [] = deepA i n ++ [10] := by
  have : (i + n) % 2 = 0 ∨ (i + n) % 2 = 1 := by omega
  unfold deepA
  rcases this with h | h <;> rw [h] <;> rfl
theorem many_parse (j : Nat) (h : j < 5) (H : Heap) : CallH Tryd.prog 36 [.string (mkS (catF (List.replicate (198 + j) mkL)))] H fun v H' => (∃ (a0 : Option Addr) (n0 c0 : Nat) (at0 e0 : Int), v = .tuple #[.slice a0 n0 c0, .int .i64 at0, .int .i64 e0] ∧ ((j ≤ 2 ∧ e0 = 0 ∧ n0 = 198 + j) ∨ (2 < j ∧ at0 = 201 ∧ e0 = 66))) ∧ Ext H H' := by
  have hl := catF_len (m := 7) (List.replicate (198 + j) mkL) fun x hx => by rw [List.eq_of_mem_replicate hx]; decide
  rw [List.length_replicate] at hl
  refine (parse_any (catF (List.replicate (198 + j) mkL)) (by omega) H).mono ?_
  rintro v H' ⟨hv, hx⟩
  refine ⟨?_, hx⟩
  rw [many_get j h] at hv
  by_cases hj : j ≤ 2
  · rw [if_pos hj] at hv
    obtain ⟨a, c, rfl, _⟩ := hv
    exact ⟨a, _, c, _, _, rfl, .inl ⟨hj, rfl, by simp⟩⟩
  · rw [if_neg hj] at hv
    exact ⟨none, 0, 0, 201, 66, hv, .inr ⟨by omega, rfl, rfl⟩⟩
theorem deepL_len (d n : Nat) (h : d < 12) : (catF (deepL d n)).length ≤ 500 := by
  have hl := catF_len (m := 20) (deepL d n) fun x hx => by
    rw [deepL_mod] at hx
    rcases List.mem_append.1 hx with hx | hx
    · obtain ⟨i, _, rfl⟩ := List.mem_map.1 hx; exact deepA_len i n
    · rw [List.eq_of_mem_replicate hx]; decide
  have : (deepL d n).length = 2 * d := by rw [deepL_mod, List.length_append, List.length_map, List.length_range, List.length_replicate]; omega
  rw [this] at hl; omega
theorem deep_parse (d n : Nat) (h : d < 12) (H : Heap) : CallH Tryd.prog 36 [.string (mkS (catF (deepL d n)))] H fun v H' => (∃ (a0 : Option Addr) (n0 c0 : Nat) (at0 e0 : Int), v = .tuple #[.slice a0 n0 c0, .int .i64 at0, .int .i64 e0] ∧ ((d ≤ 8 ∧ e0 = 0 ∧ n0 = 2 * d) ∨ (8 < d ∧ at0 = 9 ∧ e0 = 66))) ∧ Ext H H' := by
  have hl := deepL_len d n h
  refine (parse_any (catF (deepL d n)) (by omega) H).mono ?_
  rintro v H' ⟨hv, hx⟩
  refine ⟨?_, hx⟩
  have hg := deep_get d n h
  revert hv hg
  cases parseF (catF (deepL d n)) with
  | mk r i =>
  cases r with
  | none => exact fun hv hg => ⟨none, 0, 0, i, 66, hv, .inr ⟨hg.1, by omega, rfl⟩⟩
  | some l =>
    rintro ⟨a, c, rfl, _⟩ hg
    exact ⟨a, _, c, _, _, rfl, .inl ⟨hg.1, rfl, hg.2.1⟩⟩
set_option maxHeartbeats 4000000 in
theorem many_law (n deep : Nat) (hn : n < 256) (hd : deep < 256) (H : Heap) : CallH Tryd.prog 10 [.int .u8 n, .int .u8 deep] H fun v H' => v = .bool true ∧ Ext H H' := by
  refine Vc.CallH.body Tryd.func10 Tryd.call10 rfl (by decide +kernel) rfl ?_
  obtain ⟨j, hjj⟩ : ∃ j, n % 5 = j := ⟨_, rfl⟩
  have hj5 : j < 5 := by omega
  have ejj : (n : Int) % 5 = (j : Int) := by omega
  obtain ⟨d, hdd⟩ : ∃ d, deep % 12 = d := ⟨_, rfl⟩
  have hd12 : d < 12 := by omega
  have edd : (deep : Int) % 12 = (d : Int) := by omega
  have hm10 : (⟨#[109, 107, 100, 105, 114, 32, 97, 10]⟩ : ByteArray).size = 8 := rfl
  have he4 : (⟨#[101, 110, 100, 10]⟩ : ByteArray).size = 4 := rfl
  have c1 := many_parse j hj5
  have c2 := deep_parse d n hd12
  ((conv => whnf); repeat (any_goals (first | ((refine (known_any _).mono ?_; rintro _ H1 ⟨rfl, hx1⟩; have hz1 := hx1.size); (conv => whnf)) | (refine Vc.stp ?_; intros; (conv => whnf)) | (refine Vc.spl ?_ ?_ <;> (intro _; (conv => whnf))))))
  refine LoopH.intro (fun (i : Nat) => [(7, .int .i64 i), (6, .string (mkS (catF (List.replicate i mkL))))]) (fun i H' => H1 = H' ∧ i ≤ 198 + j) (fun i => 198 + j - i) 0 ⟨rfl, rfl, trivial⟩ ⟨rfl, Nat.zero_le _⟩ ?_
  rintro i _ ⟨rfl, hi⟩
  by_cases hlt : i < 198 + j
  · have hl := catF_len (m := 7) (List.replicate i mkL) fun x hx => by rw [List.eq_of_mem_replicate hx]; decide
    rw [List.length_replicate] at hl
    have hs1 : (mkS (catF (List.replicate i mkL))).size = (catF (List.replicate i mkL)).length := rfl
    ((conv => whnf); repeat (any_goals (first | (refine Vc.stp ?_; intros; (conv => whnf)) | (refine Vc.spl ?_ ?_ <;> (intro _; (conv => whnf))))))
    refine ⟨i + 1, ⟨rfl, ?_, trivial⟩, ⟨rfl, by omega⟩, by omega⟩
    show Value.string (mkS (catF (List.replicate i mkL)) ++ mkS (mkL ++ [10])) = Value.string (mkS (catF (List.replicate (i + 1) mkL)))
    rw [mkS_app, List.replicate_succ', catF_snoc]
  · obtain rfl : i = 198 + j := by omega
    ((conv => whnf); repeat (any_goals (first | ((refine (c1 _).mono ?_; rintro _ H2 ⟨⟨a2, n2, k2, at2, e2, rfl, hf2⟩, hx2⟩; have hz2 := hx2.size); (conv => whnf)) | (refine Vc.stp ?_; intros; (conv => whnf)) | (refine Vc.spl ?_ ?_ <;> (intro _; (conv => whnf))))))
    all_goals
      refine LoopH.intro (fun (i : Nat) => [(12, .int .i64 i), (6, .string (mkS (catF ((List.range i).map fun x => deepA x n))))]) (fun i H' => Ext H2 H' ∧ i ≤ d) (fun i => d - i) 0 ⟨rfl, rfl, trivial⟩ ⟨Ext.refl _, Nat.zero_le _⟩ ?_
      rintro i H3 ⟨hx3, hi⟩
      have hz3 := hx3.size
      have hbl : ∀ i, (catF ((List.range i).map fun x => deepA x n)).length ≤ 21 * i := fun i => by
        have := catF_len (m := 20) ((List.range i).map fun x => deepA x n) fun x hx => by obtain ⟨y, _, rfl⟩ := List.mem_map.1 hx; exact deepA_len y n
        simpa using this
      by_cases hlt2 : i < d
      · have hl := hbl i
        have hal := deepA_len i n
        have hs1 : (mkS (catF ((List.range i).map fun x => deepA x n))).size = (catF ((List.range i).map fun x => deepA x n)).length := rfl
        have hs2 : (mkS (deepS.getD ((i + n) % 2) [])).size = (deepA i n).length + 1 := by rw [deepS_get]; show (deepA i n ++ [10]).length = _; simp
        ((conv => whnf); repeat (any_goals (first | ((refine IdxA.strD (Blk.row (c := strs deepS) (by (repeat (first | assumption | ((with_reducible apply Vc.Blk.ext); (case k => assumption)) | ((with_reducible apply Vc.Blk.but); (case k => assumption); (case hb => omega)))))) rfl ((i + n) % 2) (by omega) (by show _ < 2; omega) ?_; intro _ _ _ _ _); (conv => whnf)) | ((refine NeedH.mk ⟨by (simp only [ByteArray.size_append]; omega), ?_⟩); (conv => whnf)) | (refine Vc.stp ?_; intros; (conv => whnf)) | (refine Vc.spl ?_ ?_ <;> (intro _; (conv => whnf))))))
        refine ⟨i + 1, ⟨rfl, ?_, trivial⟩, ⟨by (repeat (first | assumption | exact Vc.Ext.refl _ | ((with_reducible apply Vc.Ext.trans); (case k => assumption)) | ((with_reducible apply Vc.Ext.but); (case k => assumption); (case hb => omega)))), by omega⟩, by omega⟩
        show Value.string (mkS (catF ((List.range i).map fun x => deepA x n)) ++ mkS (deepS.getD ((i + n) % 2) [])) = Value.string (mkS (catF ((List.range (i + 1)).map fun x => deepA x n)))
        rw [mkS_app, deepS_get, List.range_succ, List.map_append, List.map_singleton, catF_snoc]
      · obtain rfl : i = d := by omega
        ((conv => whnf); repeat (any_goals (first | (refine Vc.stp ?_; intros; (conv => whnf)) | (refine Vc.spl ?_ ?_ <;> (intro _; (conv => whnf))))))
        refine LoopH.intro (fun (k : Nat) => [(13, .int .i64 k), (6, .string (mkS (catF ((List.range i).map (fun x => deepA x n) ++ List.replicate k endL))))]) (fun k H' => H3 = H' ∧ k ≤ i) (fun k => i - k) 0 ⟨rfl, by show Value.string (mkS (catF ((List.range i).map fun x => deepA x n))) = Value.string (mkS (catF ((List.range i).map (fun x => deepA x n) ++ List.replicate 0 endL))); simp, trivial⟩ ⟨rfl, Nat.zero_le _⟩ ?_
        rintro k _ ⟨rfl, hk⟩
        by_cases hlt3 : k < i
        · have hl := hbl i
          have hl4 := catF_len (m := 3) (List.replicate k endL) fun x hx => by rw [List.eq_of_mem_replicate hx]; decide
          rw [List.length_replicate] at hl4
          have hs1 : (mkS (catF ((List.range i).map (fun x => deepA x n) ++ List.replicate k endL))).size = (catF ((List.range i).map fun x => deepA x n)).length + (catF (List.replicate k endL)).length := by rw [catF_append]; show (_ ++ _ : Bs).length = _; rw [List.length_append]
          ((conv => whnf); repeat (any_goals (first | (refine Vc.stp ?_; intros; (conv => whnf)) | (refine Vc.spl ?_ ?_ <;> (intro _; (conv => whnf))))))
          refine ⟨k + 1, ⟨rfl, ?_, trivial⟩, ⟨rfl, by omega⟩, by omega⟩
          show Value.string (mkS (catF ((List.range i).map (fun x => deepA x n) ++ List.replicate k endL)) ++ mkS (endL ++ [10])) = Value.string (mkS (catF ((List.range i).map (fun x => deepA x n) ++ List.replicate (k + 1) endL)))
          have e : catF ((List.range i).map (fun x => deepA x n) ++ (List.replicate k endL ++ [endL])) = catF ((List.range i).map (fun x => deepA x n) ++ List.replicate k endL) ++ (endL ++ [10]) := by rw [← List.append_assoc, catF_snoc]
          rw [mkS_app, List.replicate_succ', e]
        · obtain rfl : k = i := by omega
          rw [← deepL_mod]
          ((conv => whnf); repeat (any_goals (first | ((refine (c2 _).mono ?_; rintro _ H4 ⟨⟨a4, n4, k4, at4, e4, rfl, hf4⟩, hx4⟩; have hz4 := hx4.size); (conv => whnf)) | (refine Vc.stp ?_; intros; (conv => whnf)) | (refine Vc.spl ?_ ?_ <;> (intro _; (conv => whnf))))))
          all_goals exact ⟨by first | rfl | (show Value.bool (_ == _) = _; rw [Value.bool.injEq, beq_iff_eq]; omega), by (repeat (first | assumption | exact Vc.Ext.refl _ | ((with_reducible apply Vc.Ext.trans); (case k => assumption)) | ((with_reducible apply Vc.Ext.but); (case k => assumption); (case hb => omega))))⟩
end Go.Proofs.YtlgcfcdmldlefaaDoor
