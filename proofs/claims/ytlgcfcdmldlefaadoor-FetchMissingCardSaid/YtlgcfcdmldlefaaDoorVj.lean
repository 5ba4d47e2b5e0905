import Derived.Test.YtlgcfcdmldlefaaDoorVi
set_option linter.unusedVariables false
set_option linter.unusedSimpArgs false
set_option maxRecDepth 100000
/- Errors, the statements: what they lean on. -/
namespace Go.Proofs.YtlgcfcdmldlefaaDoor
open Go Go.Vc Go.RowKit Go.Sort
/- no error -/
theorem find_nil (H : Heap) : CallH Tryd.prog 43 [.nilIface] H fun u H' => u = .tuple #[.int .i64 0, .slice none 0 0, .bool false] ∧ Ext H H' := by
  refine Vc.CallH.body Tryd.func43 Tryd.call43 rfl (by decide +kernel) rfl ?_
  ((conv => whnf); repeat (any_goals (first | (refine Vc.stp ?_; intros; (conv => whnf)) | (refine Vc.spl ?_ ?_ <;> (intro _; (conv => whnf))))))
  exact ⟨rfl, by (repeat (first | assumption | exact Vc.Ext.refl _ | ((with_reducible apply Vc.Ext.trans); (case k => assumption)) | ((with_reducible apply Vc.Ext.but); (case k => assumption); (case hb => omega))))⟩
theorem code_nil (H : Heap) : CallH Tryd.prog 17 [.nilIface] H fun u H' => u = .int .i64 0 ∧ Ext H H' := by
  refine Vc.CallH.body Tryd.func17 Tryd.call17 rfl (by decide +kernel) rfl ?_
  ((conv => whnf); repeat (any_goals (first | ((refine (find_nil _).mono ?_; rintro _ H3 ⟨rfl, hx3⟩; have hz3 := hx3.size); (conv => whnf)) | (refine Vc.stp ?_; intros; (conv => whnf)) | (refine Vc.spl ?_ ?_ <;> (intro _; (conv => whnf))))))
  exact ⟨rfl, hx3⟩
theorem ops_nil (H : Heap) : CallH Tryd.prog 19 [.nilIface] H fun u H' => u = .slice none 0 0 ∧ Ext H H' := by
  refine Vc.CallH.body Tryd.func19 Tryd.call19 rfl (by decide +kernel) rfl ?_
  ((conv => whnf); repeat (any_goals (first | ((refine (find_nil _).mono ?_; rintro _ H3 ⟨rfl, hx3⟩; have hz3 := hx3.size); (conv => whnf)) | (refine Vc.stp ?_; intros; (conv => whnf)) | (refine Vc.spl ?_ ?_ <;> (intro _; (conv => whnf))))))
  exact ⟨rfl, hx3⟩
theorem fis_nil (H : Heap) : CallH Tryd.prog 18 [.nilIface, .int .i64 0] H fun u H' => u = .bool true ∧ H = H' := by
  refine Vc.CallH.body Tryd.func18 Tryd.call18 rfl (by decide +kernel) rfl ?_
  ((conv => whnf); repeat (any_goals (first | ((refine (none_nil _).mono ?_; rintro _ _ ⟨rfl, rfl⟩); (conv => whnf)) | (refine Vc.stp ?_; intros; (conv => whnf)) | (refine Vc.spl ?_ ?_ <;> (intro _; (conv => whnf))))))
  exact ⟨rfl, rfl⟩
theorem join_none (H : Heap) : CallH Tryd.prog 25 [.slice none 0 0] H fun u H' => u = .nilIface ∧ H = H' := by
  refine Vc.CallH.body Tryd.func25 Tryd.call25 rfl (by decide +kernel) rfl ?_
  ((conv => whnf); repeat (any_goals (first | (refine Vc.stp ?_; intros; (conv => whnf)) | (refine Vc.spl ?_ ?_ <;> (intro _; (conv => whnf))))))
  refine LoopH.intro (fun (i : Nat) => [(8, .int .i64 0), (3, .slice none 0 0)]) (fun i H' => H = H') (fun i => 1) 0 ⟨rfl, rfl, trivial⟩ rfl ?_
  rintro i _ rfl
  ((conv => whnf); repeat (any_goals (first | (refine Vc.stp ?_; intros; (conv => whnf)) | (refine Vc.spl ?_ ?_ <;> (intro _; (conv => whnf))))))
  exact ⟨rfl, rfl⟩
theorem is6_any {m : Int} {ws : Chain} {b : Bas} {H : Heap} {v : Value} (hok : BasOk b) (h : ErV H ws b v) : CallH Tryd.prog 23 [v, .int .i64 m] H fun u H' => u = .bool (isB m b) ∧ Ext H H' := by
  refine Vc.CallH.body Tryd.func23 Tryd.call23 rfl (by decide +kernel) rfl ?_
  ((conv => whnf); repeat (any_goals (first | ((refine (eis_any hok h).mono ?_; rintro _ H1 ⟨rfl, hx1⟩); (conv => whnf)) | (refine Vc.stp ?_; intros; (conv => whnf)) | (refine Vc.spl ?_ ?_ <;> (intro _; (conv => whnf))))))
  exact ⟨rfl, hx1⟩
/- layers -/
def lyV (l : Chain) : List Value := l.flatMap fun x => [.string (mkS x.1), .string (mkS x.2)]
theorem lyV_length : ∀ l : Chain, (lyV l).length = l.length * 2
  | [] => rfl
  | x :: l => by
    have e : lyV (x :: l) = [.string (mkS x.1), .string (mkS x.2)] ++ lyV l := rfl
    rw [e, List.length_append, lyV_length l]
    show 2 + _ = _
    rw [List.length_cons]; omega
theorem lyV_get : ∀ (l : Chain) (j : Nat) (x : Bs × Bs), l[j]? = some x → (lyV l)[j * 2]? = some (.string (mkS x.1)) ∧ (lyV l)[j * 2 + 1]? = some (.string (mkS x.2))
  | [], j, x, h => by simp at h
  | y :: l, 0, x, h => by
    simp only [List.getElem?_cons_zero, Option.some.injEq] at h
    subst h; exact ⟨rfl, rfl⟩
  | y :: l, j + 1, x, h => by
    obtain ⟨h1, h2⟩ := lyV_get l j x (by simpa using h)
    have e : lyV (y :: l) = .string (mkS y.1) :: .string (mkS y.2) :: lyV l := rfl
    rw [e, show (j + 1) * 2 = j * 2 + 1 + 1 by omega]
    exact ⟨by simpa using h1, by simpa using h2⟩
theorem IdxA.ly {H : Heap} {a : Option Addr} {l : Chain} {n : Nat} {i : Int} {K : Addr → Prop} (h : Row H a (lyV l)) (hn : l.length = n) (j : Nat) (x : Bs × Bs) (hi : i = j) (hx : l[j]? = some x)
    (hk : ∀ b o, hcell H ⟨b, o, none⟩ = some (.string (mkS x.1)) → hcell H ⟨b, o + 1, none⟩ = some (.string (mkS x.2)) → K ⟨b, o, none⟩) : IdxA a n 2 i K := by
  have hj := (List.getElem?_eq_some_iff.1 hx).1
  obtain ⟨g1, g2⟩ := lyV_get l j x hx
  refine (Go.Vc.IdxA.row (size := 2) h (by rw [lyV_length, hn]) (by decide) j hi (by omega) fun b o h1 h2 h3 => ?_)
  have k1 := h3 0 _ (by rw [Nat.add_zero]; exact g1)
  have k2 := h3 1 _ g2
  exact hk b (o + j * 2) (by simpa using k1) k2
def lightB (l : Chain) : Bool := decide (l.length ≤ 12) && l.all fun x => decide (x.1.length ≤ 30) && decide (x.2.length ≤ 30)
set_option maxHeartbeats 1000000 in
theorem light_any (l : Chain) (a : Option Addr) (n cap : Nat) (H : Heap) (hr : Row H a (lyV l)) (hn : l.length = n) (hm : n ≤ 9223372036854775807) : CallH Tryd.prog 14 [.slice a n cap] H fun v H' => v = .bool (lightB l) ∧ H = H' := by
  obtain ⟨B, hB⟩ : ∃ B, lightB l = B := ⟨_, rfl⟩
  rw [hB]
  unfold lightB at hB
  refine Vc.CallH.body Tryd.func14 Tryd.call14 rfl (by decide +kernel) rfl ?_
  by_cases h12 : 12 < n
  · rw [decide_eq_false (by omega), Bool.false_and] at hB
    ((conv => whnf); repeat (any_goals (first | (refine Vc.stp ?_; intros; (conv => whnf)) | (refine Vc.spl ?_ ?_ <;> (intro _; (conv => whnf))))))
    rw [← hB]; exact ⟨rfl, rfl⟩
  · rw [decide_eq_true (by omega), Bool.true_and] at hB
    ((conv => whnf); repeat (any_goals (first | (refine Vc.stp ?_; intros; (conv => whnf)) | (refine Vc.spl ?_ ?_ <;> (intro _; (conv => whnf))))))
    refine LoopH.intro (fun (i : Nat) => [(3, .int .i64 i)]) (fun i H' => H = H' ∧ i ≤ n ∧ B = (l.drop i).all fun x => decide (x.1.length ≤ 30) && decide (x.2.length ≤ 30)) (fun i => n - i) 0 ⟨rfl, trivial⟩ ⟨rfl, Nat.zero_le _, hB.symm⟩ ?_
    rintro i _ ⟨rfl, hi, hinv⟩
    by_cases hlt : i < n
    · obtain ⟨x, hx⟩ : ∃ x, l[i]? = some x := ⟨_, List.getElem?_eq_getElem (by omega)⟩
      have hdr : l.drop i = x :: l.drop (i + 1) := by
        rw [List.drop_eq_getElem_cons (by omega)]; congr 1; rw [List.getElem?_eq_getElem (by omega)] at hx; exact Option.some.inj hx
      rw [hdr, List.all_cons] at hinv
      have s1 : (mkS x.1).size = x.1.length := rfl
      have s2 : (mkS x.2).size = x.2.length := rfl
      by_cases h1 : x.1.length ≤ 30
      · by_cases h2 : x.2.length ≤ 30
        · rw [decide_eq_true h1, decide_eq_true h2, Bool.true_and, Bool.true_and] at hinv
          ((conv => whnf); repeat (any_goals (first | ((refine IdxA.ly hr hn i x rfl hx ?_; intro _ _ _ _); (conv => whnf)) | (refine Vc.stp ?_; intros; (conv => whnf)) | (refine Vc.spl ?_ ?_ <;> (intro _; (conv => whnf))))))
          exact ⟨i + 1, ⟨rfl, trivial⟩, ⟨rfl, by omega, hinv⟩, by omega⟩
        · rw [decide_eq_true h1, decide_eq_false h2, Bool.true_and, Bool.false_and] at hinv
          ((conv => whnf); repeat (any_goals (first | ((refine IdxA.ly hr hn i x rfl hx ?_; intro _ _ _ _); (conv => whnf)) | (refine Vc.stp ?_; intros; (conv => whnf)) | (refine Vc.spl ?_ ?_ <;> (intro _; (conv => whnf))))))
          rw [hinv]; exact ⟨rfl, rfl⟩
      · rw [decide_eq_false h1, Bool.false_and, Bool.false_and] at hinv
        ((conv => whnf); repeat (any_goals (first | ((refine IdxA.ly hr hn i x rfl hx ?_; intro _ _ _ _); (conv => whnf)) | (refine Vc.stp ?_; intros; (conv => whnf)) | (refine Vc.spl ?_ ?_ <;> (intro _; (conv => whnf))))))
        rw [hinv]; exact ⟨rfl, rfl⟩
    · rw [List.drop_of_length_le (by omega)] at hinv
      ((conv => whnf); repeat (any_goals (first | (refine Vc.stp ?_; intros; (conv => whnf)) | (refine Vc.spl ?_ ?_ <;> (intro _; (conv => whnf))))))
      rw [hinv]; exact ⟨rfl, rfl⟩
theorem wrap_some (op nm : Bs) {H : Heap} {ws : Chain} {b : Bas} {v : Value} (hb : noneB ws b = false) (h : ErV H ws b v) : CallH Tryd.prog 16 [.string (mkS op), .string (mkS nm), v] H fun u H' => ErV H' ((op, nm) :: ws) b u ∧ Ext H H' := by
  refine (wrap_any op nm h).mono ?_
  rintro u H' ⟨h1, h2⟩
  rw [hb] at h1
  exact ⟨by simpa using h1, h2⟩
theorem wrap_none (op nm : Bs) {H : Heap} {ws : Chain} {b : Bas} {v : Value} (hb : noneB ws b = true) (h : ErV H ws b v) : CallH Tryd.prog 16 [.string (mkS op), .string (mkS nm), v] H fun u H' => u = .nilIface ∧ Ext H H' := by
  refine (wrap_any op nm h).mono ?_
  rintro u H' ⟨h1, h2⟩
  rw [hb] at h1
  exact ⟨by simpa using h1, h2⟩
/- the chapter's example -/
theorem errS_52 : wrS [([103, 101, 116], [97])] (errS 52) = [103, 101, 116, 32, 97, 58, 32, 101, 114, 114, 32, 53, 50] := by
  have : Lib.itoa 52 = [53, 50] := by
    rw [show (52 : Int) = ((52 : Nat) : Int) from rfl, itoa_nat, dd_big (by decide), dd_small (by decide), dd_small (by decide)]; rfl
  unfold errS; rw [this]; rfl
set_option maxHeartbeats 1000000 in
theorem known6_any {H : Heap} (hg : Glb H) : CallH Tryd.prog 13 [] H fun v H' => v = .bool true ∧ Ext H H' := by
  have ok52 : BasOk (.num 52) := by show I64 52; unfold I64; omega
  have sm1 : Small [([103, 101, 116], [97])] := ⟨by decide, fun x hx => by rw [List.mem_singleton.1 hx]; decide⟩
  have sm2 : Small [([98], [99]), ([103, 101, 116], [97])] := ⟨by decide, fun x hx => by rcases List.mem_cons.1 hx with rfl | hx; decide; rw [List.mem_singleton.1 hx]; decide⟩
  have c1 := wrap_some [103, 101, 116] [97] (H := H) (ws := []) (b := .num 52) (by decide) rfl
  refine Vc.CallH.body Tryd.func13 Tryd.call13 rfl (by decide +kernel) rfl ?_
  ((conv => whnf); repeat (any_goals (first | ((refine c1.mono ?_; rintro v H1 ⟨hv, hx1⟩; obtain ⟨ty, pl, rfl⟩ := ErV.iface hv; have hz1 := hx1.size); (conv => whnf)) | (refine Vc.stp ?_; intros; (conv => whnf)) | (refine Vc.spl ?_ ?_ <;> (intro _; (conv => whnf))))))
  have hg1 := hg.ext hx1
  have c2 := fun H' (k : Ext H1 H') => text_err (hg1.ext k) sm1 ok52 (ErV.ext hv k)
  rw [show wrS [([103, 101, 116], [97])] (basT (.num 52)) = _ from errS_52] at c2
  have c3 := fun H' (k : Ext H1 H') => code_any (hg1.ext k) sm1 ok52 (ErV.ext hv k)
  have c4 := fun H' (k : Ext H1 H') => fis_any (m := 52) ok52 (ErV.ext hv k)
  rw [show (if (52 : Int) = 0 then noneB [([103, 101, 116], [97])] (.num 52) else isB 52 (.num 52)) = true by decide] at c4
  have c5 := fun H' (k : Ext H1 H') => fis_any (m := 53) ok52 (ErV.ext hv k)
  rw [show (if (53 : Int) = 0 then noneB [([103, 101, 116], [97])] (.num 52) else isB 53 (.num 52)) = false by decide] at c5
  have c6 := fun H' (k : Ext H1 H') => wrap_some [98] [99] (show noneB [([103, 101, 116], [97])] (.num 52) = false from rfl) (ErV.ext hv k)
  have e13 : ((mkS [103, 101, 116, 32, 97, 58, 32, 101, 114, 114, 32, 53, 50]).toList == (⟨#[103, 101, 116, 32, 97, 58, 32, 101, 114, 114, 32, 53, 50]⟩ : ByteArray).toList) = true := str_self _
  ((conv => whnf); repeat (any_goals (first | ((refine (c2 _ (by (repeat (first | assumption | exact Vc.Ext.refl _ | ((with_reducible apply Vc.Ext.trans); (case k => assumption)) | ((with_reducible apply Vc.Ext.but); (case k => assumption); (case hb => omega)))))).mono ?_; rintro _ H2 ⟨rfl, hx2⟩; have hz2 := hx2.size); (conv => whnf)) | ((refine (c3 _ (by (repeat (first | assumption | exact Vc.Ext.refl _ | ((with_reducible apply Vc.Ext.trans); (case k => assumption)) | ((with_reducible apply Vc.Ext.but); (case k => assumption); (case hb => omega)))))).mono ?_; rintro _ H3 ⟨rfl, hx3⟩; have hz3 := hx3.size); (conv => whnf)) | ((refine (c4 _ (by (repeat (first | assumption | exact Vc.Ext.refl _ | ((with_reducible apply Vc.Ext.trans); (case k => assumption)) | ((with_reducible apply Vc.Ext.but); (case k => assumption); (case hb => omega)))))).mono ?_; rintro _ H4 ⟨rfl, hx4⟩; have hz4 := hx4.size); (conv => whnf)) | ((refine (c5 _ (by (repeat (first | assumption | exact Vc.Ext.refl _ | ((with_reducible apply Vc.Ext.trans); (case k => assumption)) | ((with_reducible apply Vc.Ext.but); (case k => assumption); (case hb => omega)))))).mono ?_; rintro _ H5 ⟨rfl, hx5⟩; have hz5 := hx5.size); (conv => whnf)) | ((refine (wrap_nil _ _ _).mono ?_; rintro _ _ ⟨rfl, rfl⟩); (conv => whnf)) | ((refine (join_none _).mono ?_; rintro _ _ ⟨rfl, rfl⟩); (conv => whnf)) | ((refine (c6 _ (by (repeat (first | assumption | exact Vc.Ext.refl _ | ((with_reducible apply Vc.Ext.trans); (case k => assumption)) | ((with_reducible apply Vc.Ext.but); (case k => assumption); (case hb => omega)))))).mono ?_; rintro v6 H6 ⟨hv6, hx6⟩; have hz6 := hx6.size); (conv => whnf)) | (refine Vc.stp ?_; intros; (conv => whnf)) | (refine Vc.spl ?_ ?_ <;> (intro _; (conv => whnf))))))
  have k16 : Ext H1 H6 := by (repeat (first | assumption | exact Vc.Ext.refl _ | ((with_reducible apply Vc.Ext.trans); (case k => assumption)) | ((with_reducible apply Vc.Ext.but); (case k => assumption); (case hb => omega))))
  have c7 := ops_any (hg1.ext k16) sm2 ok52 hv6
  ((conv => whnf); repeat (any_goals (first | ((refine c7.mono ?_; rintro _ H7 ⟨⟨a7, k7, rfl, hc7, hr7⟩, hx7⟩; have hz7 := hx7.size); (conv => whnf)) | ((refine (strings_any [[98], [103, 101, 116]] [[98], [103, 101, 116]] _ _ _ _ _ _ _ (Row.ext hr7 (by (repeat (first | assumption | exact Vc.Ext.refl _ | ((with_reducible apply Vc.Ext.trans); (case k => assumption)) | ((with_reducible apply Vc.Ext.but); (case k => assumption); (case hb => omega)))))) (Blk.row (c := strs [[98], [103, 101, 116]]) (by (repeat (first | assumption | ((with_reducible apply Vc.Blk.ext); (case k => assumption)) | ((with_reducible apply Vc.Blk.but); (case k => assumption); (case hb => omega)))))) rfl rfl (by decide) (by decide)).mono ?_; rintro _ _ ⟨rfl, rfl⟩; rw [decide_eq_true rfl]); (conv => whnf)) | (refine Vc.stp ?_; intros; (conv => whnf)) | (refine Vc.spl ?_ ?_ <;> (intro _; (conv => whnf))))))
  exact ⟨rfl, hx1.trans (k16.trans (by (repeat (first | assumption | exact Vc.Ext.refl _ | ((with_reducible apply Vc.Ext.trans); (case k => assumption)) | ((with_reducible apply Vc.Ext.but); (case k => assumption); (case hb => omega))))))⟩
end Go.Proofs.YtlgcfcdmldlefaaDoor
