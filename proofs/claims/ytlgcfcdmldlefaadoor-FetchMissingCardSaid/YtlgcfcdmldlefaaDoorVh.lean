import Derived.Test.YtlgcfcdmldlefaaDoorVg
set_option linter.unusedVariables false
set_option linter.unusedSimpArgs false
set_option maxRecDepth 100000
/- Errors: the texts of several; where the first number is. -/
namespace Go.Proofs.YtlgcfcdmldlefaaDoor
open Go Go.Vc Go.RowKit Go.Sort
theorem errS_len (n : Int) (h : I64 n) : (errS n).length ≤ 40 := by
  have := itoa_len n h
  unfold errS; simp; omega
def chS (c : Chain × Int) : Bs := wrS c.1 (errS c.2)
theorem chS_len (c : Chain × Int) (h1 : Small c.1) (h2 : I64 c.2) : (chS c).length ≤ 7000 := by
  have := wrS_len c.1 (errS c.2) h1
  have := errS_len c.2 h2
  have := h1.1
  unfold chS; omega
def basT : Bas → Bs
  | .num n => errS n
  | .join l => Lib.join (l.map chS) [10]
theorem join_len : ∀ (ws : List Bs) (m : Nat), (∀ w ∈ ws, w.length ≤ m) → (Lib.join ws [10]).length ≤ (m + 1) * ws.length
  | [], m, _ => by simp [Lib.join, List.intercalate]
  | [w], m, h => by have := h w (by simp); simp [Lib.join, List.intercalate]; omega
  | w :: x :: ws, m, h => by
    have h1 := join_len (x :: ws) m fun y hy => h y (by simp [hy])
    have h2 := h w (by simp)
    have e : Lib.join (w :: x :: ws) [10] = w ++ ([10] ++ Lib.join (x :: ws) [10]) := by simp [Lib.join, List.intercalate, List.intersperse]
    rw [e]
    simp only [List.length_append, List.length_cons, List.length_nil] at h1 ⊢
    rw [Nat.mul_succ (m + 1) (ws.length + 1)]
    generalize (m + 1) * (ws.length + 1) = q at *
    omega
theorem said_ch {H : Heap} (hg : Glb H) {c : Chain × Int} {v : Value} (h1 : Small c.1) (h2 : I64 c.2) (h : WrV H c.1 (NumV c.2) v) : CallH Tryd.prog 45 [v] H fun u H' => u = .string (mkS (chS c)) ∧ Ext H H' :=
  said_wr (P := fun _ v => NumV c.2 v) (t := errS c.2) (by have := errS_len c.2 h2; omega) (fun _ _ _ h _ => h) (fun _ v h => ⟨_, _, h⟩) (fun H v hg h => by obtain rfl := h; exact said_num hg c.2 h2) c.1 H v h1 hg h
set_option maxHeartbeats 1000000 in
theorem said_join {H : Heap} (hg : Glb H) {l : List (Chain × Int)} {v : Value} (hok : BasOk (.join l)) (h : BasV H (.join l) v) : CallH Tryd.prog 45 [v] H fun u H' => u = .string (mkS (basT (.join l))) ∧ Ext H H' := by
  obtain ⟨g, a, cap, vs, rfl, hb, hc, hr, hvl, hall⟩ := h
  obtain ⟨h0, h20, hsm⟩ := hok
  obtain ⟨S, hS⟩ : ∃ S, l.map chS = S := ⟨_, rfl⟩
  have hSl : S.length = l.length := by rw [← hS, List.length_map]
  have hjl := join_len S 7000 fun w hw => by rw [← hS] at hw; obtain ⟨c, hc, rfl⟩ := List.mem_map.1 hw; exact chS_len c (hsm c hc).1 (hsm c hc).2
  have herr : CallH Tryd.prog 75 [.pointer (some ⟨g, 0, none⟩)] H fun u H' => u = .string (mkS (Lib.join S [10])) ∧ Ext H H' := by
    refine Vc.CallH.body Tryd.func75 Tryd.call75 rfl (by decide +kernel) rfl ?_
    ((conv => whnf); repeat (any_goals (first | (refine Vc.stp ?_; intros; (conv => whnf)) | (refine Vc.spl ?_ ?_ <;> (intro _; (conv => whnf))))))
    refine LoopH.intro (fun (x : Nat × Option Addr × Nat) => [(11, .int .i64 x.1), (3, .slice x.2.1 x.1 x.2.2)]) (fun x H' => x.1 ≤ l.length ∧ Own H' H.size 9 1 x.2.1 x.1 x.2.2 (strs (S.take x.1)) ∧ Ext H H') (fun x => l.length - x.1) (0, none, 0) ⟨rfl, rfl, trivial⟩ ⟨Nat.zero_le _, Own.nil _ _ _ _, Ext.refl _⟩ ?_
    rintro ⟨i, a1, c1⟩ H1 ⟨hi, ho1, hx1⟩
    dsimp only at hi ho1 ⊢
    have hz1 := hx1.size
    by_cases hlt : i < l.length
    · obtain ⟨c, hc⟩ : ∃ c, l[i]? = some c := ⟨_, List.getElem?_eq_getElem hlt⟩
      obtain ⟨e, he⟩ : ∃ e, vs[i]? = some e := ⟨_, List.getElem?_eq_getElem (by omega)⟩
      have hcm := List.mem_of_getElem? hc
      have hSi : S[i]? = some (chS c) := by rw [← hS, List.getElem?_map, hc]; rfl
      have htk : S.take (i + 1) = S.take i ++ [chS c] := by rw [List.take_add_one, hSi]; rfl
      have htl : (S.take i).length = i := by rw [List.length_take]; omega
      have hce := WrV.mono hx1 (fun _ h => h) _ _ (hall i c e hc he)
      have hsd := fun H' (k : Ext H1 H') => said_ch (hg.ext (hx1.trans k)) (hsm c hcm).1 (hsm c hcm).2 (WrV.mono k (fun _ h => h) _ _ hce)
      have htext : ∀ H' (k : Ext H1 H'), CallH Tryd.prog 20 [e] H' fun u H'' => u = .string (mkS (chS c)) ∧ Ext H' H'' := by
        intro H2 k
        refine Vc.CallH.body Tryd.func20 Tryd.call20 rfl (by decide +kernel) rfl ?_
        ((conv => whnf); repeat (any_goals (first | ((refine (hsd _ (k.trans (by (repeat (first | assumption | exact Vc.Ext.refl _ | ((with_reducible apply Vc.Ext.trans); (case k => assumption)) | ((with_reducible apply Vc.Ext.but); (case k => assumption); (case hb => omega))))))).mono ?_; rintro _ H3 ⟨rfl, hx3⟩; have hz3 := hx3.size); (conv => whnf)) | (refine Vc.stp ?_; intros; (conv => whnf)) | (refine Vc.spl ?_ ?_ <;> (intro _; (conv => whnf))))))
        exact ⟨rfl, hx3⟩
      have hrow := hr.ext hx1
      ((conv => whnf); repeat (any_goals (first | ((refine IdxA.val hrow hvl i e rfl he ?_; intro _ _ _); (conv => whnf)) | ((refine (htext _ (by (repeat (first | assumption | exact Vc.Ext.refl _ | ((with_reducible apply Vc.Ext.trans); (case k => assumption)) | ((with_reducible apply Vc.Ext.but); (case k => assumption); (case hb => omega)))))).mono ?_; rintro _ H2 ⟨rfl, hx2⟩; have hz2 := hx2.size); (conv => whnf)) | (refine Vc.stp ?_; intros; (conv => whnf)) | (refine Vc.spl ?_ ?_ <;> (intro _; (conv => whnf))))))
      rename_i H3 hs3 hb3 hx3 a4 c4 H4 ho4 hx4
      refine ⟨(i + 1, a4, c4), ⟨rfl, rfl, trivial⟩, ⟨by show i + 1 ≤ _; omega, ?_, hx4⟩, by show l.length - (i + 1) < l.length - i; omega⟩
      show Own H4 H.size _ 1 a4 (i + 1) c4 (strs (S.take (i + 1)))
      rw [htk, strs_append]; exact ho4
    · obtain rfl : i = l.length := by omega
      have hall2 : S.take l.length = S := List.take_of_length_le (by omega)
      rw [hall2] at ho1
      ((conv => whnf); repeat (any_goals (first | ((refine (join_any (ws := S) (sep := [10]) ho1.row hSl ho1.cap_le (by omega) (by omega)).mono ?_; rintro _ H2 ⟨rfl, hx2⟩; have hz2 := hx2.size); (conv => whnf)) | (refine Vc.stp ?_; intros; (conv => whnf)) | (refine Vc.spl ?_ ?_ <;> (intro _; (conv => whnf))))))
      exact ⟨rfl, hx1.trans hx2⟩
  have e : basT (.join l) = Lib.join S [10] := by rw [← hS]; rfl
  rw [e]
  refine Vc.CallH.body Tryd.func45 Tryd.call45 rfl (by decide +kernel) rfl ?_
  ((conv => whnf); repeat (any_goals (first | ((with_reducible apply ta_e_f); (conv => whnf)) | ((with_reducible apply ta_e_e); (conv => whnf)) | ((with_reducible apply ta_e_j); (conv => whnf)) | ((with_reducible apply ta_e_i); (conv => whnf)) | ((with_reducible apply ta_e_u); (conv => whnf)) | ((with_reducible apply ta_e_w); (conv => whnf)) | ((with_reducible apply ta_e_a); (conv => whnf)) | ((with_reducible apply ta_f_f); (conv => whnf)) | ((with_reducible apply ta_f_e); (conv => whnf)) | ((with_reducible apply ta_f_j); (conv => whnf)) | ((with_reducible apply ta_f_i); (conv => whnf)) | ((with_reducible apply ta_f_u); (conv => whnf)) | ((with_reducible apply ta_f_w); (conv => whnf)) | ((with_reducible apply ta_f_a); (conv => whnf)) | ((with_reducible apply ta_j_f); (conv => whnf)) | ((with_reducible apply ta_j_e); (conv => whnf)) | ((with_reducible apply ta_j_j); (conv => whnf)) | ((with_reducible apply ta_j_i); (conv => whnf)) | ((with_reducible apply ta_j_u); (conv => whnf)) | ((with_reducible apply ta_j_w); (conv => whnf)) | ((with_reducible apply ta_j_a); (conv => whnf)) | ((with_reducible apply eq_ee); (conv => whnf)) | ((with_reducible apply eq_fe); (conv => whnf)) | ((with_reducible apply eq_je); (conv => whnf)) | ((refine herr.mono ?_; rintro _ H1 ⟨rfl, hx1⟩; have hz1 := hx1.size); (conv => whnf)) | (refine Vc.stp ?_; intros; (conv => whnf)) | (refine Vc.spl ?_ ?_ <;> (intro _; (conv => whnf))))))
  exact ⟨rfl, hx1⟩
theorem basT_len {b : Bas} (h : BasOk b) : (basT b).length ≤ 200000 := by
  cases b with
  | num n => have := errS_len n h; show (errS n).length ≤ _; omega
  | join l =>
    obtain ⟨h0, h20, hsm⟩ := h
    have := join_len (l.map chS) 7000 fun w hw => by obtain ⟨c, hc, rfl⟩ := List.mem_map.1 hw; exact chS_len c (hsm c hc).1 (hsm c hc).2
    rw [List.length_map] at this
    show (Lib.join (l.map chS) [10]).length ≤ _
    omega
theorem said_any {H : Heap} (hg : Glb H) {ws : Chain} {b : Bas} {v : Value} (hw : Small ws) (hok : BasOk b) (h : ErV H ws b v) : CallH Tryd.prog 45 [v] H fun u H' => u = .string (mkS (wrS ws (basT b))) ∧ Ext H H' :=
  said_wr (P := fun H v => BasV H b v) (t := basT b) (by have := basT_len hok; omega) (fun _ _ _ h k => BasV.ext k _ _ h) (fun _ v h => bas_iface h)
    (fun H v hg h => by
      cases b with
      | num n => obtain rfl := h; exact said_num hg n hok
      | join l => exact said_join hg hok h) ws H v hw hg h
theorem text_err {H : Heap} (hg : Glb H) {ws : Chain} {b : Bas} {v : Value} (hw : Small ws) (hok : BasOk b) (h : ErV H ws b v) : CallH Tryd.prog 20 [v] H fun u H' => u = .string (mkS (wrS ws (basT b))) ∧ Ext H H' := by
  obtain ⟨ty, pl, rfl⟩ := ErV.iface h
  refine Vc.CallH.body Tryd.func20 Tryd.call20 rfl (by decide +kernel) rfl ?_
  ((conv => whnf); repeat (any_goals (first | ((refine (said_any hg hw hok h).mono ?_; rintro _ H3 ⟨rfl, hx3⟩; have hz3 := hx3.size); (conv => whnf)) | (refine Vc.stp ?_; intros; (conv => whnf)) | (refine Vc.spl ?_ ?_ <;> (intro _; (conv => whnf))))))
  exact ⟨rfl, hx3⟩
theorem fis_any {m : Int} {ws : Chain} {b : Bas} {H : Heap} {v : Value} (hok : BasOk b) (h : ErV H ws b v) : CallH Tryd.prog 18 [v, .int .i64 m] H fun u H' => u = .bool (if m = 0 then noneB ws b else isB m b) ∧ Ext H H' := by
  obtain ⟨ty, pl, rfl⟩ := ErV.iface h
  refine Vc.CallH.body Tryd.func18 Tryd.call18 rfl (by decide +kernel) rfl ?_
  by_cases hm : m = 0
  · rw [if_pos hm]
    ((conv => whnf); repeat (any_goals (first | ((refine (none_any h).mono ?_; rintro _ _ ⟨rfl, rfl⟩); (conv => whnf)) | (refine Vc.stp ?_; intros; (conv => whnf)) | (refine Vc.spl ?_ ?_ <;> (intro _; (conv => whnf))))))
    exact ⟨rfl, Ext.refl _⟩
  · rw [if_neg hm]
    ((conv => whnf); repeat (any_goals (first | ((refine (eis_any hok h).mono ?_; rintro _ H1 ⟨rfl, hx1⟩); (conv => whnf)) | (refine Vc.stp ?_; intros; (conv => whnf)) | (refine Vc.spl ?_ ?_ <;> (intro _; (conv => whnf))))))
    exact ⟨rfl, hx1⟩
end Go.Proofs.YtlgcfcdmldlefaaDoor
