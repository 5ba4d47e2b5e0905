import Derived.Test.YtlgcfcdmldlefaaDoorVh
set_option linter.unusedVariables false
set_option linter.unusedSimpArgs false
set_option maxRecDepth 100000
/- Errors: where the first number is, and the way to it. -/
namespace Go.Proofs.YtlgcfcdmldlefaaDoor
open Go Go.Vc Go.RowKit Go.Sort
def opsB : Bas → List Bs
  | .num _ => []
  | .join l => (l.headD ([], 0)).1.map (·.1)
def findR (H : Heap) (v : Value) (n : Int) (ops : List Bs) : Prop := ∃ a cap, v = .tuple #[.int .i64 n, .slice a ops.length cap, .bool true] ∧ ops.length ≤ cap ∧ Row H a (strs ops)
theorem find_num {H : Heap} (hg : Glb H) (n : Int) (h : I64 n) : CallH Tryd.prog 43 [.iface 25 (.int .i64 n)] H fun u H' => findR H' u n [] ∧ Ext H H' := by
  refine Vc.CallH.body Tryd.func43 Tryd.call43 rfl (by decide +kernel) rfl ?_
  ((conv => whnf); repeat (any_goals (first | (refine Vc.stp ?_; intros; (conv => whnf)) | (refine Vc.spl ?_ ?_ <;> (intro _; (conv => whnf))))))
  rename_i H1 hs1 hb1 hx1
  refine (eas_any (ws := []) (b := .num n) (hg.ext hx1) h rfl hb1).mono ?_
  rintro _ H2 ⟨rfl, hb2, hx2⟩
  have hb2 : Blk H2 H.size #[.int .i64 n] 25 := hb2
  ((conv => whnf); repeat (any_goals (first | ((with_reducible apply ta_e_f); (conv => whnf)) | ((with_reducible apply ta_e_e); (conv => whnf)) | ((with_reducible apply ta_e_j); (conv => whnf)) | ((with_reducible apply ta_e_i); (conv => whnf)) | ((with_reducible apply ta_e_u); (conv => whnf)) | ((with_reducible apply ta_e_w); (conv => whnf)) | ((with_reducible apply ta_e_a); (conv => whnf)) | ((with_reducible apply ta_f_f); (conv => whnf)) | ((with_reducible apply ta_f_e); (conv => whnf)) | ((with_reducible apply ta_f_j); (conv => whnf)) | ((with_reducible apply ta_f_i); (conv => whnf)) | ((with_reducible apply ta_f_u); (conv => whnf)) | ((with_reducible apply ta_f_w); (conv => whnf)) | ((with_reducible apply ta_f_a); (conv => whnf)) | ((with_reducible apply ta_j_f); (conv => whnf)) | ((with_reducible apply ta_j_e); (conv => whnf)) | ((with_reducible apply ta_j_j); (conv => whnf)) | ((with_reducible apply ta_j_i); (conv => whnf)) | ((with_reducible apply ta_j_u); (conv => whnf)) | ((with_reducible apply ta_j_w); (conv => whnf)) | ((with_reducible apply ta_j_a); (conv => whnf)) | ((with_reducible apply eq_ee); (conv => whnf)) | ((with_reducible apply eq_fe); (conv => whnf)) | ((with_reducible apply eq_je); (conv => whnf)) | (refine Vc.stp ?_; intros; (conv => whnf)) | (refine Vc.spl ?_ ?_ <;> (intro _; (conv => whnf))))))
  exact ⟨⟨none, 0, rfl, Nat.le_refl _, Row.nil _ _⟩, hx1.but hx2 (Nat.le_refl _)⟩
set_option maxHeartbeats 1000000 in
theorem find_wr {b : Bas} (hok : BasOk b) (hO : (opsB b).length ≤ 100) (hbas : ∀ H v, Glb H → BasV H b v → CallH Tryd.prog 43 [v] H fun u H' => findR H' u (codeB b) (opsB b) ∧ Ext H H') :
    ∀ (ws : Chain) (H : Heap) (v : Value), Small ws → Glb H → ErV H ws b v → CallH Tryd.prog 43 [v] H fun u H' => findR H' u (codeB b) (ws.map (·.1) ++ opsB b) ∧ Ext H H'
  | [], H, v, _, hg, h => hbas H v hg h
  | x :: ws, H, v, hsm, hg, h => by
    have hfull := h
    obtain ⟨g, v', hv, hb, hw⟩ := h
    subst hv
    have ih := fun H' (k : Ext H H') => find_wr hok hO hbas ws H' v' hsm.tail (hg.ext k) (ErV.ext hw k)
    obtain ⟨ty, pl, rfl⟩ := ErV.iface hw
    have hwn := hsm.1
    simp only [List.length_cons] at hwn
    obtain ⟨ops, hops⟩ : ∃ ops, ws.map (·.1) ++ opsB b = ops := ⟨_, rfl⟩
    have hol : ops.length ≤ 200 := by rw [← hops, List.length_append, List.length_map]; omega
    have hcons : (x :: ws).map (·.1) ++ opsB b = x.1 :: ops := by rw [← hops]; rfl
    rw [hops] at ih
    rw [hcons]
    refine Vc.CallH.body Tryd.func43 Tryd.call43 rfl (by decide +kernel) rfl ?_
    ((conv => whnf); repeat (any_goals (first | (refine Vc.stp ?_; intros; (conv => whnf)) | (refine Vc.spl ?_ ?_ <;> (intro _; (conv => whnf))))))
    rename_i H1 hs1 hb1 hx1
    refine (eas_any (ws := x :: ws) (b := b) (hg.ext hx1) hok (ErV.ext hfull hx1) hb1).mono ?_
    rintro _ H2 ⟨rfl, hb2, hx2⟩
    have hx12 : Ext H H2 := hx1.but hx2 (Nat.le_refl _)
    have hz2 := hx12.size
    ((conv => whnf); repeat (any_goals (first | ((with_reducible apply ta_e_f); (conv => whnf)) | ((with_reducible apply ta_e_e); (conv => whnf)) | ((with_reducible apply ta_e_j); (conv => whnf)) | ((with_reducible apply ta_e_i); (conv => whnf)) | ((with_reducible apply ta_e_u); (conv => whnf)) | ((with_reducible apply ta_e_w); (conv => whnf)) | ((with_reducible apply ta_e_a); (conv => whnf)) | ((with_reducible apply ta_f_f); (conv => whnf)) | ((with_reducible apply ta_f_e); (conv => whnf)) | ((with_reducible apply ta_f_j); (conv => whnf)) | ((with_reducible apply ta_f_i); (conv => whnf)) | ((with_reducible apply ta_f_u); (conv => whnf)) | ((with_reducible apply ta_f_w); (conv => whnf)) | ((with_reducible apply ta_f_a); (conv => whnf)) | ((with_reducible apply ta_j_f); (conv => whnf)) | ((with_reducible apply ta_j_e); (conv => whnf)) | ((with_reducible apply ta_j_j); (conv => whnf)) | ((with_reducible apply ta_j_i); (conv => whnf)) | ((with_reducible apply ta_j_u); (conv => whnf)) | ((with_reducible apply ta_j_w); (conv => whnf)) | ((with_reducible apply ta_j_a); (conv => whnf)) | ((with_reducible apply eq_ee); (conv => whnf)) | ((with_reducible apply eq_fe); (conv => whnf)) | ((with_reducible apply eq_je); (conv => whnf)) | ((refine (ih _ (by (repeat (first | assumption | exact Vc.Ext.refl _ | ((with_reducible apply Vc.Ext.trans); (case k => assumption)) | ((with_reducible apply Vc.Ext.but); (case k => assumption); (case hb => omega)))))).mono ?_; rintro _ H3 ⟨⟨a3, c3, rfl, hc3, hr3⟩, hx3⟩; have hz3 := hx3.size); (conv => whnf)) | (refine Vc.stp ?_; intros; (conv => whnf)) | (refine Vc.spl ?_ ?_ <;> (intro _; (conv => whnf))))))
    rename_i H4 hs4 hb4 hx4
    have ho4 : Own H4 H3.size 9 1 (some ⟨H3.size, 0, none⟩) 1 1 [.string (mkS x.1)] := own_lit (xs := [.string (mkS x.1)]) hb4 (Nat.le_refl _) rfl (Nat.le_of_ble_eq_true rfl)
    refine NextH.append (i := Tryd.t9) (z := .string ⟨#[]⟩) (base := H3.size) rfl ⟨_, rfl, fun _ h => by cases h⟩ rfl rfl rfl ho4 (Src.row (hr3.ext hx4) (by rw [strs_length]; exact (Nat.mul_one _).symm) (strs_plain ops)) (by unfold maxLen; omega) (by show (1 + ops.length) * 16 ≤ _; omega) hx4.size ?_
    intro a5 c5 H5 ho5 hw5 _
    ((conv => whnf); repeat (any_goals (first | (refine Vc.stp ?_; intros; (conv => whnf)) | (refine Vc.spl ?_ ?_ <;> (intro _; (conv => whnf))))))
    have hx5 : Ext H3 H5 := hx4.wr ho4 (Nat.le_refl _) hw5
    refine ⟨⟨a5, c5, by rw [List.length_cons, Nat.add_comm]; rfl, ?_, ?_⟩, hx12.trans (hx3.trans hx5)⟩
    · have := ho5.cap_le; rw [List.length_cons]; omega
    · exact ho5.row
set_option maxHeartbeats 1000000 in
theorem find_join {l : List (Chain × Int)} {H : Heap} {v : Value} (hok : BasOk (.join l)) (hg : Glb H) (h : BasV H (.join l) v) : CallH Tryd.prog 43 [v] H fun u H' => findR H' u (codeB (.join l)) (opsB (.join l)) ∧ Ext H H' := by
  have hfull := h
  obtain ⟨g, a, cap, vs, hv, hb, hc, hr, hvl, hall⟩ := h
  subst hv
  have hok2 := hok
  obtain ⟨h0, h20, hsm⟩ := hok
  obtain ⟨c, l, rfl⟩ : ∃ c l', l = c :: l' := by cases l with | nil => simp at h0 | cons c l => exact ⟨c, l, rfl⟩
  obtain ⟨e, vs, rfl⟩ : ∃ e vs', vs = e :: vs' := by cases vs with | nil => simp at hvl | cons e vs => exact ⟨e, vs, rfl⟩
  have hce := hall 0 c e rfl rfl
  obtain ⟨_, ty, pl, rfl⟩ := plain_wr hce
  have hcs := hsm c (by simp)
  have hln : ((c :: l).length : Int) = l.length + 1 := by simp
  refine Vc.CallH.body Tryd.func43 Tryd.call43 rfl (by decide +kernel) rfl ?_
  ((conv => whnf); repeat (any_goals (first | (refine Vc.stp ?_; intros; (conv => whnf)) | (refine Vc.spl ?_ ?_ <;> (intro _; (conv => whnf))))))
  rename_i H1 hs1 hb1 hx1
  refine (eas_any (ws := []) (b := .join (c :: l)) (hg.ext hx1) hok2 (BasV.ext hx1 _ _ hfull) hb1).mono ?_
  rintro _ H2 ⟨rfl, hb2, hx2⟩
  have hx12 : Ext H H2 := hx1.but hx2 (Nat.le_refl _)
  have hz2 := hx12.size
  have hr2 := hr.ext hx12
  have hce2 := WrV.mono hx12 (fun _ h => h) _ _ hce
  have hrec := find_wr (b := .num c.2) hcs.2 (Nat.zero_le _) (fun H v hg h => by obtain rfl := h; exact find_num hg c.2 hcs.2) c.1 H2 (.iface ty pl) hcs.1 (hg.ext hx12) hce2
  ((conv => whnf); repeat (any_goals (first | ((with_reducible apply ta_e_f); (conv => whnf)) | ((with_reducible apply ta_e_e); (conv => whnf)) | ((with_reducible apply ta_e_j); (conv => whnf)) | ((with_reducible apply ta_e_i); (conv => whnf)) | ((with_reducible apply ta_e_u); (conv => whnf)) | ((with_reducible apply ta_e_w); (conv => whnf)) | ((with_reducible apply ta_e_a); (conv => whnf)) | ((with_reducible apply ta_f_f); (conv => whnf)) | ((with_reducible apply ta_f_e); (conv => whnf)) | ((with_reducible apply ta_f_j); (conv => whnf)) | ((with_reducible apply ta_f_i); (conv => whnf)) | ((with_reducible apply ta_f_u); (conv => whnf)) | ((with_reducible apply ta_f_w); (conv => whnf)) | ((with_reducible apply ta_f_a); (conv => whnf)) | ((with_reducible apply ta_j_f); (conv => whnf)) | ((with_reducible apply ta_j_e); (conv => whnf)) | ((with_reducible apply ta_j_j); (conv => whnf)) | ((with_reducible apply ta_j_i); (conv => whnf)) | ((with_reducible apply ta_j_u); (conv => whnf)) | ((with_reducible apply ta_j_w); (conv => whnf)) | ((with_reducible apply ta_j_a); (conv => whnf)) | ((with_reducible apply eq_ee); (conv => whnf)) | ((with_reducible apply eq_fe); (conv => whnf)) | ((with_reducible apply eq_je); (conv => whnf)) | (refine Vc.stp ?_; intros; (conv => whnf)) | (refine Vc.spl ?_ ?_ <;> (intro _; (conv => whnf))))))
  refine LoopH.intro (fun (i : Nat) => [(54, .int .i64 i)]) (fun i H' => H2 = H' ∧ i = 0) (fun i => 1) 0 ⟨rfl, trivial⟩ ⟨rfl, rfl⟩ ?_
  rintro i _ ⟨rfl, rfl⟩
  ((conv => whnf); repeat (any_goals (first | ((refine IdxA.val hr2 hvl 0 (.iface ty pl) rfl rfl ?_; intro _ _ _); (conv => whnf)) | ((refine hrec.mono ?_; rintro _ H3 ⟨⟨a3, c3, rfl, hc3, hr3⟩, hx3⟩; have hz3 := hx3.size); (conv => whnf)) | (refine Vc.stp ?_; intros; (conv => whnf)) | (refine Vc.spl ?_ ?_ <;> (intro _; (conv => whnf))))))
  have e : opsB (.join (c :: l)) = c.1.map (·.1) ++ opsB (.num c.2) := by show c.1.map (·.1) = _ ++ []; rw [List.append_nil]
  rw [e]
  exact ⟨⟨a3, c3, rfl, hc3, hr3⟩, hx12.trans hx3⟩
theorem opsB_len {b : Bas} (h : BasOk b) : (opsB b).length ≤ 100 := by
  cases b with
  | num n => exact Nat.zero_le _
  | join l =>
    obtain ⟨h0, h20, hsm⟩ := h
    obtain ⟨c, l, rfl⟩ : ∃ c l', l = c :: l' := by cases l with | nil => simp at h0 | cons c l => exact ⟨c, l, rfl⟩
    have := (hsm c (by simp)).1.1
    show (c.1.map (·.1)).length ≤ _
    rw [List.length_map]; omega
theorem find_any {ws : Chain} {b : Bas} {H : Heap} {v : Value} (hg : Glb H) (hsm : Small ws) (hok : BasOk b) (h : ErV H ws b v) : CallH Tryd.prog 43 [v] H fun u H' => findR H' u (codeB b) (ws.map (·.1) ++ opsB b) ∧ Ext H H' :=
  find_wr hok (opsB_len hok) (fun H v hg h => by
    cases b with
    | num n => obtain rfl := h; exact find_num hg n hok
    | join l => exact find_join hok hg h) ws H v hsm hg h
theorem code_any {ws : Chain} {b : Bas} {H : Heap} {v : Value} (hg : Glb H) (hsm : Small ws) (hok : BasOk b) (h : ErV H ws b v) : CallH Tryd.prog 17 [v] H fun u H' => u = .int .i64 (codeB b) ∧ Ext H H' := by
  refine Vc.CallH.body Tryd.func17 Tryd.call17 rfl (by decide +kernel) rfl ?_
  ((conv => whnf); repeat (any_goals (first | ((refine (find_any hg hsm hok h).mono ?_; rintro _ H3 ⟨⟨a3, c3, rfl, hc3, hr3⟩, hx3⟩; have hz3 := hx3.size); (conv => whnf)) | (refine Vc.stp ?_; intros; (conv => whnf)) | (refine Vc.spl ?_ ?_ <;> (intro _; (conv => whnf))))))
  exact ⟨rfl, hx3⟩
theorem ops_any {ws : Chain} {b : Bas} {H : Heap} {v : Value} (hg : Glb H) (hsm : Small ws) (hok : BasOk b) (h : ErV H ws b v) : CallH Tryd.prog 19 [v] H fun u H' => (∃ a cap, u = .slice a (ws.map (·.1) ++ opsB b).length cap ∧ (ws.map (·.1) ++ opsB b).length ≤ cap ∧ Row H' a (strs (ws.map (·.1) ++ opsB b))) ∧ Ext H H' := by
  refine Vc.CallH.body Tryd.func19 Tryd.call19 rfl (by decide +kernel) rfl ?_
  ((conv => whnf); repeat (any_goals (first | ((refine (find_any hg hsm hok h).mono ?_; rintro _ H3 ⟨⟨a3, c3, rfl, hc3, hr3⟩, hx3⟩; have hz3 := hx3.size); (conv => whnf)) | (refine Vc.stp ?_; intros; (conv => whnf)) | (refine Vc.spl ?_ ?_ <;> (intro _; (conv => whnf))))))
  exact ⟨⟨a3, c3, rfl, hc3, hr3⟩, hx3⟩
end Go.Proofs.YtlgcfcdmldlefaaDoor
