import Derived.Test.YtlgcfcdmldlefaaDoorVa
set_option linter.unusedVariables false
set_option linter.unusedSimpArgs false
set_option maxRecDepth 100000
/- Errors: their texts. -/
namespace Go.Proofs.YtlgcfcdmldlefaaDoor
open Go Go.Vc Go.RowKit Go.Sort
/-- what the package variables hold -/
structure Glb (H : Heap) : Prop where
  et : hcell H ⟨0, 0, none⟩ = some (.iface 179 (.agg #[.pointer (some ⟨7, 27, none⟩)]))
  tab : ∃ t fr, H[4]? = some (.cells (Lib.pow10Tab.map fun z => Value.int .u64 z).toArray t fr)
theorem Glb.ext {H H' : Heap} (h : Glb H) (k : Ext H H') : Glb H' := by
  refine ⟨hcell_keep h.et k id, ?_⟩
  obtain ⟨t, fr, h1⟩ := h.tab
  exact ⟨t, fr, by rw [k.same 4 (Array.getElem?_eq_some_iff.1 h1).1 id]; exact h1⟩
theorem grow_drewN (w : World) (k : Nat) (os : Array Obj) : Same w (grow (w.drewN k) os) ∧ Ext w.heap (grow (w.drewN k) os).heap := by
  have h : (w.drewN k).heap = w.heap ∧ (w.drewN k).os = w.os ∧ (w.drewN k).tape = w.tape ∧ (w.drewN k).output = w.output := ⟨rfl, rfl, rfl, rfl⟩
  obtain ⟨h1, h2, h3, h4⟩ := h
  refine ⟨⟨h2, h3, h4⟩, ?_, fun b hb _ => ?_⟩
  · show w.heap.size ≤ ((w.drewN k).heap ++ os).size
    rw [h1, Array.size_append]; omega
  · show ((w.drewN k).heap ++ os)[b]? = _
    rw [h1, Array.getElem?_append_left hb]
theorem itoa_any {H : Heap} (hg : Glb H) (n : Int) (h0 : -9223372036854775808 ≤ n) (h1 : n ≤ 9223372036854775807) : CallH Tryd.prog 105 [.int .i64 n] H fun v H' => v = .string (mkS (Lib.itoa n)) ∧ Ext H H' := by
  refine CallH.calls Tryd.call105 fun w hw => ?_
  obtain ⟨t, fr, ht⟩ := hg.tab
  refine Calls.mono (Any.strconv_Itoa Tryd.laysM171 n h0 h1 w ?_) ?_
  · show (Option.bind (some _) _) = _
    rw [hw]
    simp [ht]
  · rintro e w' ⟨h1, k, os, rfl⟩
    obtain ⟨h2, h3⟩ := grow_drewN w k os
    exact ⟨_, h1, h2, rfl, hw ▸ h3⟩
def errS (n : Int) : Bs := [101, 114, 114, 32] ++ Lib.itoa n
def basS : Bas → Bs
  | .num n => errS n
  | .join l => Lib.join (l.map fun c => c.1.foldr (fun x t => x.1 ++ 32 :: (x.2 ++ 58 :: 32 :: t)) (errS c.2)) [10]
/-- an error's text -/
def wrS : Chain → Bs → Bs
  | [], t => t
  | x :: ws, t => x.1 ++ 32 :: (x.2 ++ 58 :: 32 :: wrS ws t)
def I64 (n : Int) : Prop := -9223372036854775808 ≤ n ∧ n ≤ 9223372036854775807
theorem dd_len : ∀ (k u : Nat), u < 10 ^ (k + 1) → (Lib.decDigits u).length ≤ k + 1
  | k, u, h => by
    rw [Lib.decDigits]
    split
    · simp
    · cases k with
      | zero => omega
      | succ k =>
        have := dd_len k (u / 10) (by rw [Nat.pow_succ] at h; omega)
        simp; omega
theorem itoa_len (n : Int) (h : I64 n) : (Lib.itoa n).length ≤ 30 := by
  unfold I64 at h
  unfold Lib.itoa
  split
  · have := dd_len 18 n.natAbs (by show n.natAbs < 10 ^ 19; omega)
    simp; omega
  · have := dd_len 18 n.toNat (by show n.toNat < 10 ^ 19; omega)
    omega
theorem error_num {H : Heap} (hg : Glb H) (n : Int) (h : I64 n) : CallH Tryd.prog 74 [.int .i64 n] H fun v H' => v = .string (mkS (errS n)) ∧ Ext H H' := by
  have hl := itoa_len n h
  have h1 : (mkS (Lib.itoa n)).size = (Lib.itoa n).length := rfl
  have h2 : (⟨#[101, 114, 114, 32]⟩ : ByteArray).size = 4 := rfl
  refine Vc.CallH.body Tryd.func74 Tryd.call74 rfl (by decide +kernel) rfl ?_
  ((conv => whnf); repeat (any_goals (first | ((refine (itoa_any (hg.ext (by (repeat (first | assumption | exact Vc.Ext.refl _ | ((with_reducible apply Vc.Ext.trans); (case k => assumption)) | ((with_reducible apply Vc.Ext.but); (case k => assumption); (case hb => omega)))))) n h.1 h.2).mono ?_; rintro _ H1 ⟨rfl, hx1⟩; have hz1 := hx1.size); (conv => whnf)) | (refine Vc.stp ?_; intros; (conv => whnf)) | (refine Vc.spl ?_ ?_ <;> (intro _; (conv => whnf))))))
  exact ⟨congrArg Value.string (mkS_app [101, 114, 114, 32] _), hx1⟩
theorem said_num {H : Heap} (hg : Glb H) (n : Int) (h : I64 n) : CallH Tryd.prog 45 [.iface 25 (.int .i64 n)] H fun v H' => v = .string (mkS (errS n)) ∧ Ext H H' := by
  refine Vc.CallH.body Tryd.func45 Tryd.call45 rfl (by decide +kernel) rfl ?_
  ((conv => whnf); repeat (any_goals (first | ((with_reducible apply ta_e_f); (conv => whnf)) | ((with_reducible apply ta_e_e); (conv => whnf)) | ((with_reducible apply ta_e_j); (conv => whnf)) | ((with_reducible apply ta_e_i); (conv => whnf)) | ((with_reducible apply ta_e_u); (conv => whnf)) | ((with_reducible apply ta_e_w); (conv => whnf)) | ((with_reducible apply ta_e_a); (conv => whnf)) | ((with_reducible apply ta_f_f); (conv => whnf)) | ((with_reducible apply ta_f_e); (conv => whnf)) | ((with_reducible apply ta_f_j); (conv => whnf)) | ((with_reducible apply ta_f_i); (conv => whnf)) | ((with_reducible apply ta_f_u); (conv => whnf)) | ((with_reducible apply ta_f_w); (conv => whnf)) | ((with_reducible apply ta_f_a); (conv => whnf)) | ((with_reducible apply ta_j_f); (conv => whnf)) | ((with_reducible apply ta_j_e); (conv => whnf)) | ((with_reducible apply ta_j_j); (conv => whnf)) | ((with_reducible apply ta_j_i); (conv => whnf)) | ((with_reducible apply ta_j_u); (conv => whnf)) | ((with_reducible apply ta_j_w); (conv => whnf)) | ((with_reducible apply ta_j_a); (conv => whnf)) | ((refine (error_num (hg.ext (by (repeat (first | assumption | exact Vc.Ext.refl _ | ((with_reducible apply Vc.Ext.trans); (case k => assumption)) | ((with_reducible apply Vc.Ext.but); (case k => assumption); (case hb => omega)))))) n h).mono ?_; rintro _ H1 ⟨rfl, hx1⟩; have hz1 := hx1.size); (conv => whnf)) | (refine Vc.stp ?_; intros; (conv => whnf)) | (refine Vc.spl ?_ ?_ <;> (intro _; (conv => whnf))))))
  exact ⟨rfl, hx1⟩
/-- lengths of what wraps are small -/
def Small (ws : Chain) : Prop := ws.length ≤ 20 ∧ ∀ x ∈ ws, x.1.length ≤ 100 ∧ x.2.length ≤ 100
theorem Small.tail {x : Bs × Bs} {ws : Chain} (h : Small (x :: ws)) : Small ws := ⟨by have := h.1; simp only [List.length_cons] at this; omega, fun y hy => h.2 y (by simp [hy])⟩
theorem wrS_len : ∀ (ws : Chain) (t : Bs), Small ws → (wrS ws t).length ≤ 300 * ws.length + t.length
  | [], t, _ => by simp [wrS]
  | x :: ws, t, h => by
    have h1 := wrS_len ws t h.tail
    have h2 := h.2 x (by simp)
    simp only [wrS, List.length_append, List.length_cons]; omega
/-- what tells an error's text, told of what is wrapped -/
theorem said_wr {P : Heap → Value → Prop} {t : Bs} (ht : t.length ≤ 1000000) (hP : ∀ H H' v, P H v → Ext H H' → P H' v) (hi : ∀ H v, P H v → ∃ t x, v = .iface t x)
    (hs : ∀ H v, Glb H → P H v → CallH Tryd.prog 45 [v] H fun u H' => u = .string (mkS t) ∧ Ext H H') :
    ∀ (ws : Chain) (H : Heap) (v : Value), Small ws → Glb H → WrV H ws (P H) v → CallH Tryd.prog 45 [v] H fun u H' => u = .string (mkS (wrS ws t)) ∧ Ext H H'
  | [], H, v, _, hg, h => hs H v hg h
  | x :: ws, H, v, hsm, hg, ⟨g, v', hv, hb, hw⟩ => by
    subst hv
    have ih := fun H' (k : Ext H H') => said_wr ht hP hi hs ws H' v' hsm.tail (hg.ext k) (WrV.mono k (fun u hu => hP _ _ _ hu k) ws v' hw)
    obtain ⟨ty, pl, rfl⟩ : ∃ t x, v' = .iface t x := by
      cases ws with
      | nil => exact hi _ _ hw
      | cons y ws => obtain ⟨g2, v2, h2, _⟩ := hw; exact ⟨_, _, h2⟩
    have hxl := hsm.2 x (by simp)
    have hwl := wrS_len ws t hsm.tail
    have hwn := hsm.1
    simp only [List.length_cons] at hwn
    have htext : ∀ H' (k : Ext H H'), CallH Tryd.prog 20 [.iface ty pl] H' fun u H'' => u = .string (mkS (wrS ws t)) ∧ Ext H' H'' := by
      intro H1 k
      refine Vc.CallH.body Tryd.func20 Tryd.call20 rfl (by decide +kernel) rfl ?_
      ((conv => whnf); repeat (any_goals (first | ((refine (ih _ (k.trans (by (repeat (first | assumption | exact Vc.Ext.refl _ | ((with_reducible apply Vc.Ext.trans); (case k => assumption)) | ((with_reducible apply Vc.Ext.but); (case k => assumption); (case hb => omega))))))).mono ?_; rintro _ H2 ⟨rfl, hx2⟩; have hz2 := hx2.size); (conv => whnf)) | (refine Vc.stp ?_; intros; (conv => whnf)) | (refine Vc.spl ?_ ?_ <;> (intro _; (conv => whnf))))))
      exact ⟨rfl, hx2⟩
    have herr : CallH Tryd.prog 73 [.pointer (some ⟨g, 0, none⟩)] H fun u H' => u = .string (mkS (wrS (x :: ws) t)) ∧ Ext H H' := by
      have h1 : (mkS x.1).size = x.1.length := rfl
      have h2 : (mkS x.2).size = x.2.length := rfl
      have h3 : (mkS (wrS ws t)).size = (wrS ws t).length := rfl
      have h4 : (⟨#[32]⟩ : ByteArray).size = 1 := rfl
      have h5 : (⟨#[58, 32]⟩ : ByteArray).size = 2 := rfl
      refine Vc.CallH.body Tryd.func73 Tryd.call73 rfl (by decide +kernel) rfl ?_
      ((conv => whnf); repeat (any_goals (first | ((refine (htext _ (by (repeat (first | assumption | exact Vc.Ext.refl _ | ((with_reducible apply Vc.Ext.trans); (case k => assumption)) | ((with_reducible apply Vc.Ext.but); (case k => assumption); (case hb => omega)))))).mono ?_; rintro _ H1 ⟨rfl, hx1⟩; have hz1 := hx1.size); (conv => whnf)) | ((refine NeedH.mk ⟨by (simp only [ByteArray.size_append]; omega), ?_⟩); (conv => whnf)) | (refine Vc.stp ?_; intros; (conv => whnf)) | (refine Vc.spl ?_ ?_ <;> (intro _; (conv => whnf))))))
      all_goals exact ⟨by show Value.string ((((mkS x.1 ++ mkS [32]) ++ mkS x.2) ++ mkS [58, 32]) ++ mkS (wrS ws t)) = _; simp only [mkS_app, wrS, List.append_assoc]; rfl, by (repeat (first | assumption | exact Vc.Ext.refl _ | ((with_reducible apply Vc.Ext.trans); (case k => assumption)) | ((with_reducible apply Vc.Ext.but); (case k => assumption); (case hb => omega))))⟩
    refine Vc.CallH.body Tryd.func45 Tryd.call45 rfl (by decide +kernel) rfl ?_
    ((conv => whnf); repeat (any_goals (first | ((with_reducible apply ta_e_f); (conv => whnf)) | ((with_reducible apply ta_e_e); (conv => whnf)) | ((with_reducible apply ta_e_j); (conv => whnf)) | ((with_reducible apply ta_e_i); (conv => whnf)) | ((with_reducible apply ta_e_u); (conv => whnf)) | ((with_reducible apply ta_e_w); (conv => whnf)) | ((with_reducible apply ta_e_a); (conv => whnf)) | ((with_reducible apply ta_f_f); (conv => whnf)) | ((with_reducible apply ta_f_e); (conv => whnf)) | ((with_reducible apply ta_f_j); (conv => whnf)) | ((with_reducible apply ta_f_i); (conv => whnf)) | ((with_reducible apply ta_f_u); (conv => whnf)) | ((with_reducible apply ta_f_w); (conv => whnf)) | ((with_reducible apply ta_f_a); (conv => whnf)) | ((with_reducible apply ta_j_f); (conv => whnf)) | ((with_reducible apply ta_j_e); (conv => whnf)) | ((with_reducible apply ta_j_j); (conv => whnf)) | ((with_reducible apply ta_j_i); (conv => whnf)) | ((with_reducible apply ta_j_u); (conv => whnf)) | ((with_reducible apply ta_j_w); (conv => whnf)) | ((with_reducible apply ta_j_a); (conv => whnf)) | ((refine herr.mono ?_; rintro _ H1 ⟨rfl, hx1⟩; have hz1 := hx1.size); (conv => whnf)) | (refine Vc.stp ?_; intros; (conv => whnf)) | (refine Vc.spl ?_ ?_ <;> (intro _; (conv => whnf))))))
    exact ⟨rfl, hx1⟩
end Go.Proofs.YtlgcfcdmldlefaaDoor
