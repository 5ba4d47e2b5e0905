import Derived.Test.YtphkaogbcfdllaaGreatDoorKh
import Derived.Test.YtphkaogbcfdllaaGreatDoorKf
import Derived.Test.YtphkaogbcfdllaaGreatDoorKd
import Derived.Test.YtphkaogbcfdllaaGreatDoorKc
set_option linter.unusedVariables false
set_option linter.unusedSimpArgs false
set_option maxRecDepth 100000
/- Errors: errors.Is, errors.As at a number. -/
namespace Go.Proofs.YtphkaogbcfdllaaGreatDoor
open Go Go.Vc Go.RowKit Go.Sort
structure Tgt (H : Heap) (tb : Nat) (vb : Addr) (T E : TypeId) (old : Value) : Prop where
  cell : hcell H vb = some (.pointer (some ⟨tb, 0, none⟩))
  blk : Blk H tb #[old] E
  ne : vb.block ≠ tb
theorem Tgt.ext {H H' : Heap} {tb : Nat} {vb : Addr} {T E : TypeId} {old : Value} (h : Tgt H tb vb T E old) (k : Ext H H') : Tgt H' tb vb T E old := ⟨hcell_keep h.cell k id, h.blk.ext k, h.ne⟩
set_option maxHeartbeats 1000000 in
theorem as_num : ∀ (ws : Chain) (n : Int) (H : Heap) (v : Value) (tb : Nat) (vb : Addr) (old : Value), WrV H ws (NumV n) v → Tgt H tb vb 219 34 old → CallH Tryz.prog 181 [v, .iface 219 (.pointer (some ⟨tb, 0, none⟩)), .agg #[hT 219, .pointer (some vb), .int .u64 150], tyV 34] H fun u H' => u = .bool true ∧ Blk H' tb #[.int .i64 n] 34 ∧ But tb H H' := by
  intro ws n H v tb vb old h ht
  refine Vc.CallH.body Tryz.func181 Tryz.call181 rfl (by decide +kernel) rfl ?_
  ((conv => whnf); repeat (any_goals (first | (refine Vc.stp ?_; intros; (conv => whnf)) | (refine Vc.spl ?_ ?_ <;> (intro _; (conv => whnf))))))
  rename_i H1 hs1 hb1 hx1
  have ht1 := ht.ext hx1
  have h1 := WrV.mono hx1 (fun _ h => h) _ _ h
  have hbox := hb1
  refine LoopH.intro (fun (x : Chain × Value) => [(0, x.2)]) (fun x H' => H1 = H' ∧ WrV H1 x.1 (NumV n) x.2) (fun x => x.1.length) (ws, v) ⟨rfl, trivial⟩ ⟨rfl, h1⟩ ?_
  rintro ⟨ws, v⟩ _ ⟨rfl, h⟩
  dsimp only at h ⊢
  cases ws with
  | nil =>
    have h : v = _ := h
    subst h
    ((conv => whnf); repeat (any_goals (first | ((refine (typeOf_n n _).mono ?_; rintro _ _ ⟨rfl, rfl⟩); (conv => whnf)) | ((refine assign_nn _ ?_); (conv => whnf)) | ((refine (elemV_n vb ⟨tb, 0, none⟩ _ ht1.cell).mono ?_; rintro _ _ ⟨rfl, rfl⟩); (conv => whnf)) | ((refine (valueOfE_n n _).mono ?_; rintro _ H2 ⟨rfl, hb2, hs2, hx2⟩; have hz2 := hx2.size); (conv => whnf)) | (refine Vc.stp ?_; intros; (conv => whnf)) | (refine Vc.spl ?_ ?_ <;> (intro _; (conv => whnf))))))
    have hc2 : hcell H2 ⟨H1.size, 0, none⟩ = some (.int .i64 n) := by rw [hb2.cell]; rfl
    ((conv => whnf); repeat (any_goals (first | ((refine (set_n n tb ⟨H1.size, 0, none⟩ old _ hc2 (ht1.blk.ext hx2)).mono ?_; rintro _ H3 ⟨rfl, hs3, hb3, hx3⟩; have hz3 := hx3.size); (conv => whnf)) | (refine Vc.stp ?_; intros; (conv => whnf)) | (refine Vc.spl ?_ ?_ <;> (intro _; (conv => whnf))))))
    exact ⟨rfl, hb3, Only.trans (hx1.trans hx2).only hx3 fun _ _ h => h⟩
  | cons x ws =>
    obtain ⟨g, v', rfl, hb, hw⟩ := h
    obtain ⟨_, ty, pl, rfl⟩ := plain_wr hw
    ((conv => whnf); repeat (any_goals (first | ((refine (typeOf_f _ _).mono ?_; rintro _ _ ⟨rfl, rfl⟩); (conv => whnf)) | ((refine assign_fn _ ?_); (conv => whnf)) | ((with_reducible apply ta_e_f); (conv => whnf)) | ((with_reducible apply ta_e_e); (conv => whnf)) | ((with_reducible apply ta_e_j); (conv => whnf)) | ((with_reducible apply ta_e_i); (conv => whnf)) | ((with_reducible apply ta_e_u); (conv => whnf)) | ((with_reducible apply ta_e_w); (conv => whnf)) | ((with_reducible apply ta_e_a); (conv => whnf)) | ((with_reducible apply ta_f_f); (conv => whnf)) | ((with_reducible apply ta_f_e); (conv => whnf)) | ((with_reducible apply ta_f_j); (conv => whnf)) | ((with_reducible apply ta_f_i); (conv => whnf)) | ((with_reducible apply ta_f_u); (conv => whnf)) | ((with_reducible apply ta_f_w); (conv => whnf)) | ((with_reducible apply ta_f_a); (conv => whnf)) | ((with_reducible apply ta_j_f); (conv => whnf)) | ((with_reducible apply ta_j_e); (conv => whnf)) | ((with_reducible apply ta_j_j); (conv => whnf)) | ((with_reducible apply ta_j_i); (conv => whnf)) | ((with_reducible apply ta_j_u); (conv => whnf)) | ((with_reducible apply ta_j_w); (conv => whnf)) | ((with_reducible apply ta_j_a); (conv => whnf)) | ((with_reducible apply eq_ee); (conv => whnf)) | ((with_reducible apply eq_fe); (conv => whnf)) | ((with_reducible apply eq_je); (conv => whnf)) | ((refine NextH.method (unwrap_f _) ?_; refine (unwrapF_any hb).mono ?_; rintro _ _ ⟨rfl, rfl⟩); (conv => whnf)) | (refine Vc.stp ?_; intros; (conv => whnf)) | (refine Vc.spl ?_ ?_ <;> (intro _; (conv => whnf))))))
    exact ⟨(ws, .iface ty pl), ⟨rfl, trivial⟩, ⟨rfl, hw⟩, by show ws.length < ws.length + 1; omega⟩
/-- the first number -/
def codeB : Bas → Int
  | .num n => n
  | .join l => (l.headD ([], 0)).2
set_option maxHeartbeats 1000000 in
theorem as_any : ∀ (ws : Chain) (b : Bas) (H : Heap) (v : Value) (tb : Nat) (vb : Addr) (old : Value), BasOk b → ErV H ws b v → Tgt H tb vb 219 34 old → CallH Tryz.prog 181 [v, .iface 219 (.pointer (some ⟨tb, 0, none⟩)), .agg #[hT 219, .pointer (some vb), .int .u64 150], tyV 34] H fun u H' => u = .bool true ∧ Blk H' tb #[.int .i64 (codeB b)] 34 ∧ But tb H H' := by
  intro ws b H v tb vb old hok h ht
  refine Vc.CallH.body Tryz.func181 Tryz.call181 rfl (by decide +kernel) rfl ?_
  ((conv => whnf); repeat (any_goals (first | (refine Vc.stp ?_; intros; (conv => whnf)) | (refine Vc.spl ?_ ?_ <;> (intro _; (conv => whnf))))))
  rename_i H1 hs1 hb1 hx1
  have ht1 := ht.ext hx1
  have h1 := ErV.ext h hx1
  have hbox := hb1
  refine LoopH.intro (fun (x : Chain × Value) => [(0, x.2)]) (fun x H' => H1 = H' ∧ ErV H1 x.1 b x.2) (fun x => x.1.length) (ws, v) ⟨rfl, trivial⟩ ⟨rfl, h1⟩ ?_
  rintro ⟨ws, v⟩ _ ⟨rfl, h⟩
  dsimp only at h ⊢
  cases ws with
  | nil =>
    cases b with
    | num n =>
      have h : v = _ := h
      subst h
      ((conv => whnf); repeat (any_goals (first | ((refine (typeOf_n n _).mono ?_; rintro _ _ ⟨rfl, rfl⟩); (conv => whnf)) | ((refine assign_nn _ ?_); (conv => whnf)) | ((refine (elemV_n vb ⟨tb, 0, none⟩ _ ht1.cell).mono ?_; rintro _ _ ⟨rfl, rfl⟩); (conv => whnf)) | ((refine (valueOfE_n n _).mono ?_; rintro _ H2 ⟨rfl, hb2, hs2, hx2⟩; have hz2 := hx2.size); (conv => whnf)) | (refine Vc.stp ?_; intros; (conv => whnf)) | (refine Vc.spl ?_ ?_ <;> (intro _; (conv => whnf))))))
      have hc2 : hcell H2 ⟨H1.size, 0, none⟩ = some (.int .i64 n) := by rw [hb2.cell]; rfl
      ((conv => whnf); repeat (any_goals (first | ((refine (set_n n tb ⟨H1.size, 0, none⟩ old _ hc2 (ht1.blk.ext hx2)).mono ?_; rintro _ H3 ⟨rfl, hs3, hb3, hx3⟩; have hz3 := hx3.size); (conv => whnf)) | (refine Vc.stp ?_; intros; (conv => whnf)) | (refine Vc.spl ?_ ?_ <;> (intro _; (conv => whnf))))))
      exact ⟨rfl, hb3, Only.trans (hx1.trans hx2).only hx3 fun _ _ h => h⟩
    | join l =>
      obtain ⟨g, a, cap, vs, rfl, hb, hc, hr, hvl, hall⟩ := h
      obtain ⟨h0, h20, hsm⟩ := hok
      have hpl := join_plain hvl hall
      have hU := unwrapJ_any hb hr hvl h0 (by omega) hpl
      obtain ⟨c, l, rfl⟩ : ∃ c l', l = c :: l' := by cases l with | nil => simp at h0 | cons c l => exact ⟨c, l, rfl⟩
      obtain ⟨e, vs, rfl⟩ : ∃ e vs', vs = e :: vs' := by cases vs with | nil => simp at hvl | cons e vs => exact ⟨e, vs, rfl⟩
      have hce := hall 0 c e rfl rfl
      obtain ⟨_, ty, pl, rfl⟩ := plain_wr hce
      ((conv => whnf); repeat (any_goals (first | ((refine (typeOf_j _ _).mono ?_; rintro _ _ ⟨rfl, rfl⟩); (conv => whnf)) | ((refine assign_jn _ ?_); (conv => whnf)) | ((with_reducible apply ta_e_f); (conv => whnf)) | ((with_reducible apply ta_e_e); (conv => whnf)) | ((with_reducible apply ta_e_j); (conv => whnf)) | ((with_reducible apply ta_e_i); (conv => whnf)) | ((with_reducible apply ta_e_u); (conv => whnf)) | ((with_reducible apply ta_e_w); (conv => whnf)) | ((with_reducible apply ta_e_a); (conv => whnf)) | ((with_reducible apply ta_f_f); (conv => whnf)) | ((with_reducible apply ta_f_e); (conv => whnf)) | ((with_reducible apply ta_f_j); (conv => whnf)) | ((with_reducible apply ta_f_i); (conv => whnf)) | ((with_reducible apply ta_f_u); (conv => whnf)) | ((with_reducible apply ta_f_w); (conv => whnf)) | ((with_reducible apply ta_f_a); (conv => whnf)) | ((with_reducible apply ta_j_f); (conv => whnf)) | ((with_reducible apply ta_j_e); (conv => whnf)) | ((with_reducible apply ta_j_j); (conv => whnf)) | ((with_reducible apply ta_j_i); (conv => whnf)) | ((with_reducible apply ta_j_u); (conv => whnf)) | ((with_reducible apply ta_j_w); (conv => whnf)) | ((with_reducible apply ta_j_a); (conv => whnf)) | ((with_reducible apply eq_ee); (conv => whnf)) | ((with_reducible apply eq_fe); (conv => whnf)) | ((with_reducible apply eq_je); (conv => whnf)) | ((refine NextH.method (unwrap_j _) ?_; refine hU.mono ?_; rintro _ H2 ⟨⟨a1, c1, rfl, hr1⟩, hx2⟩; have hz2 := hx2.size); (conv => whnf)) | (refine Vc.stp ?_; intros; (conv => whnf)) | (refine Vc.spl ?_ ?_ <;> (intro _; (conv => whnf))))))
      have hce2 := WrV.mono hx2 (fun _ h => h) _ _ hce
      have hrec := as_num c.1 c.2 H2 (.iface ty pl) tb vb old hce2 (ht1.ext hx2)
      have hln : ((c :: l).length : Int) = l.length + 1 := by simp
      refine LoopH.intro (fun (i : Nat) => [(50, .int .i64 i)]) (fun i H' => H2 = H' ∧ i = 0) (fun i => 1) 0 ⟨rfl, trivial⟩ ⟨rfl, rfl⟩ ?_
      rintro i _ ⟨rfl, rfl⟩
      ((conv => whnf); repeat (any_goals (first | ((refine IdxA.val hr1 hvl 0 (.iface ty pl) rfl rfl ?_; intro _ _ _); (conv => whnf)) | ((refine hrec.mono ?_; rintro _ H3 ⟨rfl, hb3, hx3⟩; have hz3 := hx3.size); (conv => whnf)) | (refine Vc.stp ?_; intros; (conv => whnf)) | (refine Vc.spl ?_ ?_ <;> (intro _; (conv => whnf))))))
      exact ⟨rfl, hb3, Only.trans (hx1.trans hx2).only hx3 fun _ _ h => h⟩
  | cons x ws =>
    obtain ⟨g, v', rfl, hb, hw⟩ := h
    obtain ⟨ty, pl, rfl⟩ := ErV.iface hw
    ((conv => whnf); repeat (any_goals (first | ((refine (typeOf_f _ _).mono ?_; rintro _ _ ⟨rfl, rfl⟩); (conv => whnf)) | ((refine assign_fn _ ?_); (conv => whnf)) | ((with_reducible apply ta_e_f); (conv => whnf)) | ((with_reducible apply ta_e_e); (conv => whnf)) | ((with_reducible apply ta_e_j); (conv => whnf)) | ((with_reducible apply ta_e_i); (conv => whnf)) | ((with_reducible apply ta_e_u); (conv => whnf)) | ((with_reducible apply ta_e_w); (conv => whnf)) | ((with_reducible apply ta_e_a); (conv => whnf)) | ((with_reducible apply ta_f_f); (conv => whnf)) | ((with_reducible apply ta_f_e); (conv => whnf)) | ((with_reducible apply ta_f_j); (conv => whnf)) | ((with_reducible apply ta_f_i); (conv => whnf)) | ((with_reducible apply ta_f_u); (conv => whnf)) | ((with_reducible apply ta_f_w); (conv => whnf)) | ((with_reducible apply ta_f_a); (conv => whnf)) | ((with_reducible apply ta_j_f); (conv => whnf)) | ((with_reducible apply ta_j_e); (conv => whnf)) | ((with_reducible apply ta_j_j); (conv => whnf)) | ((with_reducible apply ta_j_i); (conv => whnf)) | ((with_reducible apply ta_j_u); (conv => whnf)) | ((with_reducible apply ta_j_w); (conv => whnf)) | ((with_reducible apply ta_j_a); (conv => whnf)) | ((with_reducible apply eq_ee); (conv => whnf)) | ((with_reducible apply eq_fe); (conv => whnf)) | ((with_reducible apply eq_je); (conv => whnf)) | ((refine NextH.method (unwrap_f _) ?_; refine (unwrapF_any hb).mono ?_; rintro _ _ ⟨rfl, rfl⟩); (conv => whnf)) | (refine Vc.stp ?_; intros; (conv => whnf)) | (refine Vc.spl ?_ ?_ <;> (intro _; (conv => whnf))))))
    exact ⟨(ws, .iface ty pl), ⟨rfl, trivial⟩, ⟨rfl, hw⟩, by show ws.length < ws.length + 1; omega⟩
set_option maxHeartbeats 1000000 in
theorem eas_any {ws : Chain} {b : Bas} {H : Heap} {v : Value} {tb : Nat} {old : Value} (hg : Glb H) (hok : BasOk b) (h : ErV H ws b v) (ht : Blk H tb #[old] 34) : CallH Tryz.prog 133 [v, .iface 219 (.pointer (some ⟨tb, 0, none⟩))] H fun u H' => u = .bool true ∧ Blk H' tb #[.int .i64 (codeB b)] 34 ∧ But tb H H' := by
  obtain ⟨ty, pl, rfl⟩ := ErV.iface h
  have hlt := ht.lt
  have get := hg.et
  refine Vc.CallH.body Tryz.func133 Tryz.call133 rfl (by decide +kernel) rfl ?_
  ((conv => whnf); repeat (any_goals (first | ((refine (valueOf_n ⟨tb, 0, none⟩ _).mono ?_; rintro _ H1 ⟨rfl, hb1, hs1, hx1⟩; have hz1 := hx1.size); (conv => whnf)) | ((refine (typeV_n _ _).mono ?_; rintro _ _ ⟨rfl, rfl⟩); (conv => whnf)) | ((refine kind_n _ ?_); (conv => whnf)) | ((refine kindE_n _ ?_); (conv => whnf)) | ((refine elemT_n _ ?_); (conv => whnf)) | ((refine implements_n _ ?_); (conv => whnf)) | ((refine (isNil_n _ ⟨tb, 0, none⟩ _ (Go.Vc.hcell_keep (show hcell H1 ⟨H.size, 0, none⟩ = some (.pointer (some ⟨tb, 0, none⟩)) by rw [hb1.cell]; rfl) (show Ext H1 _ by exact Vc.xt) id)).mono ?_; rintro _ _ ⟨rfl, rfl⟩); (conv => whnf)) | (refine Vc.stp ?_; intros; (conv => whnf)) | (refine Vc.spl ?_ ?_ <;> (intro _; (conv => whnf))))))
  rename_i H2 hs2 hb2 hx2 H3 hs3 hb3 hx3
  have k13 : Ext H1 H3 := by exact Vc.xt
  have k3 : Ext H H3 := hx1.trans k13
  refine (as_any ws b H3 _ tb ⟨H.size, 0, none⟩ old hok (ErV.ext h k3) ⟨hcell_keep (show hcell H1 ⟨H.size, 0, none⟩ = some (.pointer (some ⟨tb, 0, none⟩)) by rw [hb1.cell]; rfl) k13 id, ht.ext k3, by show H.size ≠ tb; omega⟩).mono ?_
  rintro _ H4 ⟨rfl, hb4, hx4⟩
  ((conv => whnf); repeat (any_goals (first | (refine Vc.stp ?_; intros; (conv => whnf)) | (refine Vc.spl ?_ ?_ <;> (intro _; (conv => whnf))))))
  exact ⟨rfl, hb4, Only.trans k3.only hx4 fun _ _ h => h⟩
/- at a fault -/
end Go.Proofs.YtphkaogbcfdllaaGreatDoor
/- Errors: the texts of several; where the first number is. -/
namespace Go.Proofs.YtphkaogbcfdllaaGreatDoor
open Go Go.Vc Go.RowKit Go.Sort
theorem errS_len (n : Int) (h : I64 n) : (errS n).length ≤ 40 := by
  have := itoa_len n h
  unfold errS; simp; omega
def chS (c : Chain × Int) : Bs := wrS c.1 (errS c.2)
theorem chS_len (c : Chain × Int) (h1 : Small c.1) (h2 : I64 c.2) : (chS c).length ≤ 7000 := by
  have := wrS_len c.1 (errS c.2) h1
  have := errS_len c.2 h2
  have := h1.1
  unfold chS; omega
def basT : Bas → Bs
  | .num n => errS n
  | .join l => Lib.join (l.map chS) [10]
theorem join_len : ∀ (ws : List Bs) (m : Nat), (∀ w ∈ ws, w.length ≤ m) → (Lib.join ws [10]).length ≤ (m + 1) * ws.length
  | [], m, _ => by simp [Lib.join, List.intercalate]
  | [w], m, h => by have := h w (by simp); simp [Lib.join, List.intercalate]; omega
  | w :: x :: ws, m, h => by
    have h1 := join_len (x :: ws) m fun y hy => h y (by simp [hy])
    have h2 := h w (by simp)
    have e : Lib.join (w :: x :: ws) [10] = w ++ ([10] ++ Lib.join (x :: ws) [10]) := by simp [Lib.join, List.intercalate, List.intersperse]
    rw [e]
    simp only [List.length_append, List.length_cons, List.length_nil] at h1 ⊢
    rw [Nat.mul_succ (m + 1) (ws.length + 1)]
    generalize (m + 1) * (ws.length + 1) = q at *
    omega
theorem said_ch {H : Heap} (hg : Glb H) {c : Chain × Int} {v : Value} (h1 : Small c.1) (h2 : I64 c.2) (h : WrV H c.1 (NumV c.2) v) : CallH Tryz.prog 78 [v] H fun u H' => u = .string (mkS (chS c)) ∧ Ext H H' :=
  said_wr (P := fun _ v => NumV c.2 v) (t := errS c.2) (by have := errS_len c.2 h2; omega) (fun _ _ _ h _ => h) (fun _ v h => ⟨_, _, h⟩) (fun H v hg h => by obtain rfl := h; exact said_num hg c.2 h2) c.1 H v h1 hg h
set_option maxHeartbeats 1000000 in
theorem said_join {H : Heap} (hg : Glb H) {l : List (Chain × Int)} {v : Value} (hok : BasOk (.join l)) (h : BasV H (.join l) v) : CallH Tryz.prog 78 [v] H fun u H' => u = .string (mkS (basT (.join l))) ∧ Ext H H' := by
  obtain ⟨g, a, cap, vs, rfl, hb, hc, hr, hvl, hall⟩ := h
  obtain ⟨h0, h20, hsm⟩ := hok
  obtain ⟨S, hS⟩ : ∃ S, l.map chS = S := ⟨_, rfl⟩
  have hSl : S.length = l.length := by rw [← hS, List.length_map]
  have hjl := join_len S 7000 fun w hw => by rw [← hS] at hw; obtain ⟨c, hc, rfl⟩ := List.mem_map.1 hw; exact chS_len c (hsm c hc).1 (hsm c hc).2
  have herr : CallH Tryz.prog 139 [.pointer (some ⟨g, 0, none⟩)] H fun u H' => u = .string (mkS (Lib.join S [10])) ∧ Ext H H' := by
    refine Vc.CallH.body Tryz.func139 Tryz.call139 rfl (by decide +kernel) rfl ?_
    ((conv => whnf); repeat (any_goals (first | (refine Vc.stp ?_; intros; (conv => whnf)) | (refine Vc.spl ?_ ?_ <;> (intro _; (conv => whnf))))))
    refine LoopH.intro (fun (x : Nat × Option Addr × Nat) => [(11, .int .i64 x.1), (3, .slice x.2.1 x.1 x.2.2)]) (fun x H' => x.1 ≤ l.length ∧ Own H' H.size 9 1 x.2.1 x.1 x.2.2 (strs (S.take x.1)) ∧ Ext H H') (fun x => l.length - x.1) (0, none, 0) ⟨rfl, rfl, trivial⟩ ⟨Nat.zero_le _, Own.nil _ _ _ _, Ext.refl _⟩ ?_
    rintro ⟨i, a1, c1⟩ H1 ⟨hi, ho1, hx1⟩
    dsimp only at hi ho1 ⊢
    have hz1 := hx1.size
    by_cases hlt : i < l.length
    · obtain ⟨c, hc⟩ : ∃ c, l[i]? = some c := ⟨_, List.getElem?_eq_getElem hlt⟩
      obtain ⟨e, he⟩ : ∃ e, vs[i]? = some e := ⟨_, List.getElem?_eq_getElem (by omega)⟩
      have hcm := List.mem_of_getElem? hc
      have hSi : S[i]? = some (chS c) := by rw [← hS, List.getElem?_map, hc]; rfl
      have htk : S.take (i + 1) = S.take i ++ [chS c] := by rw [List.take_add_one, hSi]; rfl
      have htl : (S.take i).length = i := by rw [List.length_take]; omega
      have hce := WrV.mono hx1 (fun _ h => h) _ _ (hall i c e hc he)
      have hsd := fun H' (k : Ext H1 H') => said_ch (hg.ext (hx1.trans k)) (hsm c hcm).1 (hsm c hcm).2 (WrV.mono k (fun _ h => h) _ _ hce)
      have htext : ∀ H' (k : Ext H1 H'), CallH Tryz.prog 31 [e] H' fun u H'' => u = .string (mkS (chS c)) ∧ Ext H' H'' := by
        intro H2 k
        refine Vc.CallH.body Tryz.func31 Tryz.call31 rfl (by decide +kernel) rfl ?_
        ((conv => whnf); repeat (any_goals (first | ((refine (hsd _ (k.trans (by exact Vc.xt))).mono ?_; rintro _ H3 ⟨rfl, hx3⟩; have hz3 := hx3.size); (conv => whnf)) | (refine Vc.stp ?_; intros; (conv => whnf)) | (refine Vc.spl ?_ ?_ <;> (intro _; (conv => whnf))))))
        exact ⟨rfl, hx3⟩
      have hrow := hr.ext hx1
      ((conv => whnf); repeat (any_goals (first | ((refine IdxA.val hrow hvl i e rfl he ?_; intro _ _ _); (conv => whnf)) | ((refine (htext _ (by exact Vc.xt)).mono ?_; rintro _ H2 ⟨rfl, hx2⟩; have hz2 := hx2.size); (conv => whnf)) | (refine Vc.stp ?_; intros; (conv => whnf)) | (refine Vc.spl ?_ ?_ <;> (intro _; (conv => whnf))))))
      rename_i H3 hs3 hb3 hx3 a4 c4 H4 ho4 hx4
      refine ⟨(i + 1, a4, c4), ⟨rfl, rfl, trivial⟩, ⟨by show i + 1 ≤ _; omega, ?_, hx4⟩, by show l.length - (i + 1) < l.length - i; omega⟩
      show Own H4 H.size _ 1 a4 (i + 1) c4 (strs (S.take (i + 1)))
      rw [htk, strs_append]; exact ho4
    · obtain rfl : i = l.length := by omega
      have hall2 : S.take l.length = S := List.take_of_length_le (by omega)
      rw [hall2] at ho1
      ((conv => whnf); repeat (any_goals (first | ((refine (join_any (ws := S) (sep := [10]) ho1.row hSl ho1.cap_le (by omega) (by omega)).mono ?_; rintro _ H2 ⟨rfl, hx2⟩; have hz2 := hx2.size); (conv => whnf)) | (refine Vc.stp ?_; intros; (conv => whnf)) | (refine Vc.spl ?_ ?_ <;> (intro _; (conv => whnf))))))
      exact ⟨rfl, hx1.trans hx2⟩
  have e : basT (.join l) = Lib.join S [10] := by rw [← hS]; rfl
  rw [e]
  refine Vc.CallH.body Tryz.func78 Tryz.call78 rfl (by decide +kernel) rfl ?_
  ((conv => whnf); repeat (any_goals (first | ((with_reducible apply ta_e_f); (conv => whnf)) | ((with_reducible apply ta_e_e); (conv => whnf)) | ((with_reducible apply ta_e_j); (conv => whnf)) | ((with_reducible apply ta_e_i); (conv => whnf)) | ((with_reducible apply ta_e_u); (conv => whnf)) | ((with_reducible apply ta_e_w); (conv => whnf)) | ((with_reducible apply ta_e_a); (conv => whnf)) | ((with_reducible apply ta_f_f); (conv => whnf)) | ((with_reducible apply ta_f_e); (conv => whnf)) | ((with_reducible apply ta_f_j); (conv => whnf)) | ((with_reducible apply ta_f_i); (conv => whnf)) | ((with_reducible apply ta_f_u); (conv => whnf)) | ((with_reducible apply ta_f_w); (conv => whnf)) | ((with_reducible apply ta_f_a); (conv => whnf)) | ((with_reducible apply ta_j_f); (conv => whnf)) | ((with_reducible apply ta_j_e); (conv => whnf)) | ((with_reducible apply ta_j_j); (conv => whnf)) | ((with_reducible apply ta_j_i); (conv => whnf)) | ((with_reducible apply ta_j_u); (conv => whnf)) | ((with_reducible apply ta_j_w); (conv => whnf)) | ((with_reducible apply ta_j_a); (conv => whnf)) | ((with_reducible apply eq_ee); (conv => whnf)) | ((with_reducible apply eq_fe); (conv => whnf)) | ((with_reducible apply eq_je); (conv => whnf)) | ((refine herr.mono ?_; rintro _ H1 ⟨rfl, hx1⟩; have hz1 := hx1.size); (conv => whnf)) | (refine Vc.stp ?_; intros; (conv => whnf)) | (refine Vc.spl ?_ ?_ <;> (intro _; (conv => whnf))))))
  exact ⟨rfl, hx1⟩
theorem basT_len {b : Bas} (h : BasOk b) : (basT b).length ≤ 200000 := by
  cases b with
  | num n => have := errS_len n h; show (errS n).length ≤ _; omega
  | join l =>
    obtain ⟨h0, h20, hsm⟩ := h
    have := join_len (l.map chS) 7000 fun w hw => by obtain ⟨c, hc, rfl⟩ := List.mem_map.1 hw; exact chS_len c (hsm c hc).1 (hsm c hc).2
    rw [List.length_map] at this
    show (Lib.join (l.map chS) [10]).length ≤ _
    omega
theorem said_any {H : Heap} (hg : Glb H) {ws : Chain} {b : Bas} {v : Value} (hw : Small ws) (hok : BasOk b) (h : ErV H ws b v) : CallH Tryz.prog 78 [v] H fun u H' => u = .string (mkS (wrS ws (basT b))) ∧ Ext H H' :=
  said_wr (P := fun H v => BasV H b v) (t := basT b) (by have := basT_len hok; omega) (fun _ _ _ h k => BasV.ext k _ _ h) (fun _ v h => bas_iface h)
    (fun H v hg h => by
      cases b with
      | num n => obtain rfl := h; exact said_num hg n hok
      | join l => exact said_join hg hok h) ws H v hw hg h
theorem text_err {H : Heap} (hg : Glb H) {ws : Chain} {b : Bas} {v : Value} (hw : Small ws) (hok : BasOk b) (h : ErV H ws b v) : CallH Tryz.prog 31 [v] H fun u H' => u = .string (mkS (wrS ws (basT b))) ∧ Ext H H' := by
  obtain ⟨ty, pl, rfl⟩ := ErV.iface h
  refine Vc.CallH.body Tryz.func31 Tryz.call31 rfl (by decide +kernel) rfl ?_
  ((conv => whnf); repeat (any_goals (first | ((refine (said_any hg hw hok h).mono ?_; rintro _ H3 ⟨rfl, hx3⟩; have hz3 := hx3.size); (conv => whnf)) | (refine Vc.stp ?_; intros; (conv => whnf)) | (refine Vc.spl ?_ ?_ <;> (intro _; (conv => whnf))))))
  exact ⟨rfl, hx3⟩
end Go.Proofs.YtphkaogbcfdllaaGreatDoor
/- Errors: where the first number is, and the way to it. -/
namespace Go.Proofs.YtphkaogbcfdllaaGreatDoor
open Go Go.Vc Go.RowKit Go.Sort
def opsB : Bas → List Bs
  | .num _ => []
  | .join l => (l.headD ([], 0)).1.map (·.1)
def findR (H : Heap) (v : Value) (n : Int) (ops : List Bs) : Prop := ∃ a cap, v = .tuple #[.int .i64 n, .slice a ops.length cap, .bool true] ∧ ops.length ≤ cap ∧ Row H a (strs ops)
theorem find_num {H : Heap} (hg : Glb H) (n : Int) (h : I64 n) : CallH Tryz.prog 72 [.iface 34 (.int .i64 n)] H fun u H' => findR H' u n [] ∧ Ext H H' := by
  refine Vc.CallH.body Tryz.func72 Tryz.call72 rfl (by decide +kernel) rfl ?_
  ((conv => whnf); repeat (any_goals (first | (refine Vc.stp ?_; intros; (conv => whnf)) | (refine Vc.spl ?_ ?_ <;> (intro _; (conv => whnf))))))
  rename_i H1 hs1 hb1 hx1
  refine (eas_any (ws := []) (b := .num n) (hg.ext hx1) h rfl hb1).mono ?_
  rintro _ H2 ⟨rfl, hb2, hx2⟩
  have hb2 : Blk H2 H.size #[.int .i64 n] 34 := hb2
  ((conv => whnf); repeat (any_goals (first | ((with_reducible apply ta_e_f); (conv => whnf)) | ((with_reducible apply ta_e_e); (conv => whnf)) | ((with_reducible apply ta_e_j); (conv => whnf)) | ((with_reducible apply ta_e_i); (conv => whnf)) | ((with_reducible apply ta_e_u); (conv => whnf)) | ((with_reducible apply ta_e_w); (conv => whnf)) | ((with_reducible apply ta_e_a); (conv => whnf)) | ((with_reducible apply ta_f_f); (conv => whnf)) | ((with_reducible apply ta_f_e); (conv => whnf)) | ((with_reducible apply ta_f_j); (conv => whnf)) | ((with_reducible apply ta_f_i); (conv => whnf)) | ((with_reducible apply ta_f_u); (conv => whnf)) | ((with_reducible apply ta_f_w); (conv => whnf)) | ((with_reducible apply ta_f_a); (conv => whnf)) | ((with_reducible apply ta_j_f); (conv => whnf)) | ((with_reducible apply ta_j_e); (conv => whnf)) | ((with_reducible apply ta_j_j); (conv => whnf)) | ((with_reducible apply ta_j_i); (conv => whnf)) | ((with_reducible apply ta_j_u); (conv => whnf)) | ((with_reducible apply ta_j_w); (conv => whnf)) | ((with_reducible apply ta_j_a); (conv => whnf)) | ((with_reducible apply eq_ee); (conv => whnf)) | ((with_reducible apply eq_fe); (conv => whnf)) | ((with_reducible apply eq_je); (conv => whnf)) | (refine Vc.stp ?_; intros; (conv => whnf)) | (refine Vc.spl ?_ ?_ <;> (intro _; (conv => whnf))))))
  exact ⟨⟨none, 0, rfl, Nat.le_refl _, Row.nil _ _⟩, hx1.but hx2 (Nat.le_refl _)⟩
set_option maxHeartbeats 1000000 in
theorem find_wr {b : Bas} (hok : BasOk b) (hO : (opsB b).length ≤ 100) (hbas : ∀ H v, Glb H → BasV H b v → CallH Tryz.prog 72 [v] H fun u H' => findR H' u (codeB b) (opsB b) ∧ Ext H H') :
    ∀ (ws : Chain) (H : Heap) (v : Value), Small ws → Glb H → ErV H ws b v → CallH Tryz.prog 72 [v] H fun u H' => findR H' u (codeB b) (ws.map (·.1) ++ opsB b) ∧ Ext H H'
  | [], H, v, _, hg, h => hbas H v hg h
  | x :: ws, H, v, hsm, hg, h => by
    have hfull := h
    obtain ⟨g, v', hv, hb, hw⟩ := h
    subst hv
    have ih := fun H' (k : Ext H H') => find_wr hok hO hbas ws H' v' hsm.tail (hg.ext k) (ErV.ext hw k)
    obtain ⟨ty, pl, rfl⟩ := ErV.iface hw
    have hwn := hsm.1
    simp only [List.length_cons] at hwn
    obtain ⟨ops, hops⟩ : ∃ ops, ws.map (·.1) ++ opsB b = ops := ⟨_, rfl⟩
    have hol : ops.length ≤ 200 := by rw [← hops, List.length_append, List.length_map]; omega
    have hcons : (x :: ws).map (·.1) ++ opsB b = x.1 :: ops := by rw [← hops]; rfl
    rw [hops] at ih
    rw [hcons]
    refine Vc.CallH.body Tryz.func72 Tryz.call72 rfl (by decide +kernel) rfl ?_
    ((conv => whnf); repeat (any_goals (first | (refine Vc.stp ?_; intros; (conv => whnf)) | (refine Vc.spl ?_ ?_ <;> (intro _; (conv => whnf))))))
    rename_i H1 hs1 hb1 hx1
    refine (eas_any (ws := x :: ws) (b := b) (hg.ext hx1) hok (ErV.ext hfull hx1) hb1).mono ?_
    rintro _ H2 ⟨rfl, hb2, hx2⟩
    have hx12 : Ext H H2 := hx1.but hx2 (Nat.le_refl _)
    have hz2 := hx12.size
    ((conv => whnf); repeat (any_goals (first | ((with_reducible apply ta_e_f); (conv => whnf)) | ((with_reducible apply ta_e_e); (conv => whnf)) | ((with_reducible apply ta_e_j); (conv => whnf)) | ((with_reducible apply ta_e_i); (conv => whnf)) | ((with_reducible apply ta_e_u); (conv => whnf)) | ((with_reducible apply ta_e_w); (conv => whnf)) | ((with_reducible apply ta_e_a); (conv => whnf)) | ((with_reducible apply ta_f_f); (conv => whnf)) | ((with_reducible apply ta_f_e); (conv => whnf)) | ((with_reducible apply ta_f_j); (conv => whnf)) | ((with_reducible apply ta_f_i); (conv => whnf)) | ((with_reducible apply ta_f_u); (conv => whnf)) | ((with_reducible apply ta_f_w); (conv => whnf)) | ((with_reducible apply ta_f_a); (conv => whnf)) | ((with_reducible apply ta_j_f); (conv => whnf)) | ((with_reducible apply ta_j_e); (conv => whnf)) | ((with_reducible apply ta_j_j); (conv => whnf)) | ((with_reducible apply ta_j_i); (conv => whnf)) | ((with_reducible apply ta_j_u); (conv => whnf)) | ((with_reducible apply ta_j_w); (conv => whnf)) | ((with_reducible apply ta_j_a); (conv => whnf)) | ((with_reducible apply eq_ee); (conv => whnf)) | ((with_reducible apply eq_fe); (conv => whnf)) | ((with_reducible apply eq_je); (conv => whnf)) | ((refine (ih _ (by exact Vc.xt)).mono ?_; rintro _ H3 ⟨⟨a3, c3, rfl, hc3, hr3⟩, hx3⟩; have hz3 := hx3.size); (conv => whnf)) | (refine Vc.stp ?_; intros; (conv => whnf)) | (refine Vc.spl ?_ ?_ <;> (intro _; (conv => whnf))))))
    rename_i H4 hs4 hb4 hx4
    have ho4 : Own H4 H3.size 9 1 (some ⟨H3.size, 0, none⟩) 1 1 [.string (mkS x.1)] := own_lit (xs := [.string (mkS x.1)]) hb4 (Nat.le_refl _) rfl (Nat.le_of_ble_eq_true rfl)
    refine NextH.append (i := Tryz.t9) (z := .string ⟨#[]⟩) (base := H3.size) rfl ⟨_, rfl, fun _ h => by cases h⟩ rfl rfl rfl ho4 (Src.row (hr3.ext hx4) (by rw [strs_length]; exact (Nat.mul_one _).symm) (strs_plain ops)) (by unfold maxLen; omega) (by show (1 + ops.length) * 16 ≤ _; omega) hx4.size ?_
    intro a5 c5 H5 ho5 hw5 _
    ((conv => whnf); repeat (any_goals (first | (refine Vc.stp ?_; intros; (conv => whnf)) | (refine Vc.spl ?_ ?_ <;> (intro _; (conv => whnf))))))
    have hx5 : Ext H3 H5 := hx4.wr ho4 (Nat.le_refl _) hw5
    refine ⟨⟨a5, c5, by rw [List.length_cons, Nat.add_comm]; rfl, ?_, ?_⟩, hx12.trans (hx3.trans hx5)⟩
    · have := ho5.cap_le; rw [List.length_cons]; omega
    · exact ho5.row
set_option maxHeartbeats 1000000 in
theorem find_join {l : List (Chain × Int)} {H : Heap} {v : Value} (hok : BasOk (.join l)) (hg : Glb H) (h : BasV H (.join l) v) : CallH Tryz.prog 72 [v] H fun u H' => findR H' u (codeB (.join l)) (opsB (.join l)) ∧ Ext H H' := by
  have hfull := h
  obtain ⟨g, a, cap, vs, hv, hb, hc, hr, hvl, hall⟩ := h
  subst hv
  have hok2 := hok
  obtain ⟨h0, h20, hsm⟩ := hok
  obtain ⟨c, l, rfl⟩ : ∃ c l', l = c :: l' := by cases l with | nil => simp at h0 | cons c l => exact ⟨c, l, rfl⟩
  obtain ⟨e, vs, rfl⟩ : ∃ e vs', vs = e :: vs' := by cases vs with | nil => simp at hvl | cons e vs => exact ⟨e, vs, rfl⟩
  have hce := hall 0 c e rfl rfl
  obtain ⟨_, ty, pl, rfl⟩ := plain_wr hce
  have hcs := hsm c (by simp)
  have hln : ((c :: l).length : Int) = l.length + 1 := by simp
  refine Vc.CallH.body Tryz.func72 Tryz.call72 rfl (by decide +kernel) rfl ?_
  ((conv => whnf); repeat (any_goals (first | (refine Vc.stp ?_; intros; (conv => whnf)) | (refine Vc.spl ?_ ?_ <;> (intro _; (conv => whnf))))))
  rename_i H1 hs1 hb1 hx1
  refine (eas_any (ws := []) (b := .join (c :: l)) (hg.ext hx1) hok2 (BasV.ext hx1 _ _ hfull) hb1).mono ?_
  rintro _ H2 ⟨rfl, hb2, hx2⟩
  have hx12 : Ext H H2 := hx1.but hx2 (Nat.le_refl _)
  have hz2 := hx12.size
  have hr2 := hr.ext hx12
  have hce2 := WrV.mono hx12 (fun _ h => h) _ _ hce
  have hrec := find_wr (b := .num c.2) hcs.2 (Nat.zero_le _) (fun H v hg h => by obtain rfl := h; exact find_num hg c.2 hcs.2) c.1 H2 (.iface ty pl) hcs.1 (hg.ext hx12) hce2
  ((conv => whnf); repeat (any_goals (first | ((with_reducible apply ta_e_f); (conv => whnf)) | ((with_reducible apply ta_e_e); (conv => whnf)) | ((with_reducible apply ta_e_j); (conv => whnf)) | ((with_reducible apply ta_e_i); (conv => whnf)) | ((with_reducible apply ta_e_u); (conv => whnf)) | ((with_reducible apply ta_e_w); (conv => whnf)) | ((with_reducible apply ta_e_a); (conv => whnf)) | ((with_reducible apply ta_f_f); (conv => whnf)) | ((with_reducible apply ta_f_e); (conv => whnf)) | ((with_reducible apply ta_f_j); (conv => whnf)) | ((with_reducible apply ta_f_i); (conv => whnf)) | ((with_reducible apply ta_f_u); (conv => whnf)) | ((with_reducible apply ta_f_w); (conv => whnf)) | ((with_reducible apply ta_f_a); (conv => whnf)) | ((with_reducible apply ta_j_f); (conv => whnf)) | ((with_reducible apply ta_j_e); (conv => whnf)) | ((with_reducible apply ta_j_j); (conv => whnf)) | ((with_reducible apply ta_j_i); (conv => whnf)) | ((with_reducible apply ta_j_u); (conv => whnf)) | ((with_reducible apply ta_j_w); (conv => whnf)) | ((with_reducible apply ta_j_a); (conv => whnf)) | ((with_reducible apply eq_ee); (conv => whnf)) | ((with_reducible apply eq_fe); (conv => whnf)) | ((with_reducible apply eq_je); (conv => whnf)) | (refine Vc.stp ?_; intros; (conv => whnf)) | (refine Vc.spl ?_ ?_ <;> (intro _; (conv => whnf))))))
  refine LoopH.intro (fun (i : Nat) => [(54, .int .i64 i)]) (fun i H' => H2 = H' ∧ i = 0) (fun i => 1) 0 ⟨rfl, trivial⟩ ⟨rfl, rfl⟩ ?_
  rintro i _ ⟨rfl, rfl⟩
  ((conv => whnf); repeat (any_goals (first | ((refine IdxA.val hr2 hvl 0 (.iface ty pl) rfl rfl ?_; intro _ _ _); (conv => whnf)) | ((refine hrec.mono ?_; rintro _ H3 ⟨⟨a3, c3, rfl, hc3, hr3⟩, hx3⟩; have hz3 := hx3.size); (conv => whnf)) | (refine Vc.stp ?_; intros; (conv => whnf)) | (refine Vc.spl ?_ ?_ <;> (intro _; (conv => whnf))))))
  have e : opsB (.join (c :: l)) = c.1.map (·.1) ++ opsB (.num c.2) := by show c.1.map (·.1) = _ ++ []; rw [List.append_nil]
  rw [e]
  exact ⟨⟨a3, c3, rfl, hc3, hr3⟩, hx12.trans hx3⟩
theorem opsB_len {b : Bas} (h : BasOk b) : (opsB b).length ≤ 100 := by
  cases b with
  | num n => exact Nat.zero_le _
  | join l =>
    obtain ⟨h0, h20, hsm⟩ := h
    obtain ⟨c, l, rfl⟩ : ∃ c l', l = c :: l' := by cases l with | nil => simp at h0 | cons c l => exact ⟨c, l, rfl⟩
    have := (hsm c (by simp)).1.1
    show (c.1.map (·.1)).length ≤ _
    rw [List.length_map]; omega
theorem vfind_any {ws : Chain} {b : Bas} {H : Heap} {v : Value} (hg : Glb H) (hsm : Small ws) (hok : BasOk b) (h : ErV H ws b v) : CallH Tryz.prog 72 [v] H fun u H' => findR H' u (codeB b) (ws.map (·.1) ++ opsB b) ∧ Ext H H' :=
  find_wr hok (opsB_len hok) (fun H v hg h => by
    cases b with
    | num n => obtain rfl := h; exact find_num hg n hok
    | join l => exact find_join hok hg h) ws H v hsm hg h
theorem code_any {ws : Chain} {b : Bas} {H : Heap} {v : Value} (hg : Glb H) (hsm : Small ws) (hok : BasOk b) (h : ErV H ws b v) : CallH Tryz.prog 24 [v] H fun u H' => u = .int .i64 (codeB b) ∧ Ext H H' := by
  refine Vc.CallH.body Tryz.func24 Tryz.call24 rfl (by decide +kernel) rfl ?_
  ((conv => whnf); repeat (any_goals (first | ((refine (vfind_any hg hsm hok h).mono ?_; rintro _ H3 ⟨⟨a3, c3, rfl, hc3, hr3⟩, hx3⟩; have hz3 := hx3.size); (conv => whnf)) | (refine Vc.stp ?_; intros; (conv => whnf)) | (refine Vc.spl ?_ ?_ <;> (intro _; (conv => whnf))))))
  exact ⟨rfl, hx3⟩
end Go.Proofs.YtphkaogbcfdllaaGreatDoor
/- Law 18's known: the example. -/
namespace Go.Proofs.YtphkaogbcfdllaaGreatDoor
open Go Go.Vc Go.Scr Go.Pth Go.Tre Go.Blk Go.Run
theorem kv2_end (A : Tr) : runP kvM 100 0 ⟨0, A, none, []⟩ = ((1, 72), ⟨0, A, none, []⟩) := rfl
theorem kv_line : wrS [([108, 105, 110, 101], Lib.itoa ((0 : Nat) : Int))] (basT (.num 72)) = [108, 105, 110, 101, 32, 48, 58, 32, 101, 114, 114, 32, 55, 50] := by decide +kernel
set_option maxHeartbeats 2000000 in
theorem known18_any {H : Heap} (hg : Glb H) (hH : 2 ≤ H.size) : CallH Tryz.prog 14 [] H fun v H' => v = .bool true ∧ Ext H H' := by
  have hp1 := fun H => rparse_any kv1 (by decide) H
  have hp2 := fun H => rparse_any kv2 (by decide) H
  rw [kv1_parse] at hp1
  rw [kv2_parse] at hp2
  obtain ⟨⟨⟨u, e⟩, s1⟩, hR⟩ : ∃ R, runP kvL 100 0 ⟨0, [], none, []⟩ = R := ⟨_, rfl⟩
  have k1 := kv1_run
  rw [hR] at k1
  obtain ⟨k1, k2, k3⟩ := k1
  simp only [Prod.mk.injEq] at k1
  obtain ⟨rfl, rfl⟩ := k1
  dsimp only at k2 k3
  have ok1 : Okay s1.A := by have := run_okay kvL 100 0 ⟨0, [], none, []⟩ Okay.nil; rw [hR] at this; exact this
  refine Vc.CallH.body Tryz.func14 Tryz.call14 rfl (by decide +kernel) rfl ?_
  have lensL : ∀ x ∈ kvL, x.a.length ≤ 1000000 ∧ x.b.length ≤ 1000000 ∧ x.tx.length ≤ 1000000 ∧ x.n ≤ 1000000 := by decide
  have lensM : ∀ x ∈ kvM, x.a.length ≤ 1000000 ∧ x.b.length ≤ 1000000 ∧ x.tx.length ≤ 1000000 ∧ x.n ≤ 1000000 := by decide
  ((conv => whnf); repeat (any_goals (first | ((refine (hp1 _).mono ?_; rintro _ H1 ⟨⟨a1, c1, rfl, ho1⟩, hx1⟩; have hz1 := hx1.size); (conv => whnf)) | ((refine (new_any _).mono ?_; rintro _ H2 ⟨⟨b, mb, rfl, ht2, hb2, hm2⟩, hx2⟩; have hz2 := hx2.size); (conv => whnf)) | (refine Vc.stp ?_; intros; (conv => whnf)))))
  have hnl : kvL.length = 3 := rfl
  have hfu : min (max 100 0) 65536 = ((100 : Nat) : Int) := rfl
  have hro := ho1.row.ext hx2
  have q := run_any (cl := c1) (vm := none) (V := none) (A := []) (fuel := 100) (F := 100) hro rfl (by decide) kv_nested.1 lensL ht2 trivial Okay.nil (fun v hv => by cases hv) (hg.ext (hx1.trans hx2)) ⟨by omega, by omega, fun v hv => by cases hv⟩ (by omega) hfu
  rw [hR] at q
  dsimp only at q
  refine q.mono ?_
  rintro _ H3 ⟨er, rfl, her, ht3, _, ho3⟩
  rw [if_pos rfl] at her
  subst her
  rw [k2]
  have hz3 := ho3.size
  have hx13 : Ext H H3 := Only.trans (hx1.trans hx2) ho3 fun y hy e => (by rcases e with e | e | e; omega; omega; cases e)
  ((conv => whnf); repeat (any_goals (first | ((refine (read_any ht3 ok1 [97]).mono ?_; rintro _ H4 ⟨⟨a4, c4, rfl, ho4⟩, hx4⟩; rw [k3] at ho4 ⊢; have hz4 := hx4.size); (conv => whnf)) | ((refine (hp2 _).mono ?_; rintro _ H5 ⟨⟨a5, c5, rfl, ho5⟩, hx5⟩; have hz5 := hx5.size); (conv => whnf)) | (refine Vc.stp ?_; intros; (conv => whnf)))))
  have hx35 : Ext H3 H5 := hx4.trans hx5
  have hx15 : Ext H H5 := hx13.trans hx35
  have hnm : kvM.length = 1 := rfl
  have q2 := run_any (cl := c5) (vm := none) (V := none) (A := s1.A) (fuel := 100) (F := 100) ho5.row rfl (by decide) kv_nested.2 lensM (ht3.ext hx35) trivial ok1 (fun v hv => by cases hv) (hg.ext hx15) ⟨by omega, by omega, fun v hv => by cases hv⟩ (by omega) hfu
  rw [kv2_end] at q2
  dsimp only at q2
  refine q2.mono ?_
  rintro _ H6 ⟨er, rfl, her, ht6, _, ho6⟩
  rw [if_neg (by decide)] at her
  have hz6 := ho6.size
  have hx16 : Ext H H6 := Only.trans hx15 ho6 fun y hy e => (by rcases e with e | e | e; omega; omega; cases e)
  have hbl := ht3.blk.lt
  have hml := ht3.map.lt
  have hrs : Row H6 a4 (strV [120, 120, 120]) := (ho4.row.ext hx5).keep ho6 (by
    intro p hp e
    have := (ho4.block p hp).1
    rcases e with e | e | e
    · omega
    · omega
    · cases e)
  have hsm : Small [([108, 105, 110, 101], Lib.itoa ((0 : Nat) : Int))] := ⟨by decide, fun x hx => by
    rw [List.mem_singleton] at hx
    subst hx
    exact ⟨by decide, by decide +kernel⟩⟩
  have hok : BasOk (.num ((72 : Nat) : Int)) := ⟨by decide, by decide⟩
  have cc := fun H' (k : Ext H6 H') => code_any (hg.ext (hx16.trans k)) hsm hok (ErV.ext her k)
  have ct := fun H' (k : Ext H6 H') => text_err (hg.ext (hx16.trans k)) hsm hok (ErV.ext her k)
  rw [show wrS [([108, 105, 110, 101], Lib.itoa ((0 : Nat) : Int))] (basT (.num ((72 : Nat) : Int))) = _ from kv_line] at ct
  obtain ⟨ety, epl, rfl⟩ := ErV.iface her
  ((conv => whnf); repeat (any_goals (first | ((refine to_string' rfl rfl rfl hrs rfl ?_); (conv => whnf)) | ((refine (cc _ (by exact Vc.xt)).mono ?_; rintro _ H7 ⟨rfl, hx7⟩; have hz7 := hx7.size; dsimp only [codeB]); (conv => whnf)) | ((refine (ct _ (by exact Vc.xt)).mono ?_; rintro _ H8 ⟨rfl, hx8⟩; have hz8 := hx8.size); (conv => whnf)) | (refine Vc.stp ?_; intros; (conv => whnf)))))

  exact ⟨by kernel_rfl, hx16.trans (hx7.trans hx8)⟩
end Go.Proofs.YtphkaogbcfdllaaGreatDoor
/- Numbers' texts, the reference. -/
namespace Go.Proofs.YtphkaogbcfdllaaGreatDoor
open Go Go.Vc Go.Scr
theorem rdec_ind : ∀ (k n : Nat), n ≤ k → n ≤ 9223372036854775807 → ∀ H, CallH Tryz.prog 15 [.int .i64 n] H fun v H' => v = .string (mkS (Lib.decDigits n)) ∧ H = H'
  | k, n, hk, hn, H => by
    have hdl : (⟨#[48, 49, 50, 51, 52, 53, 54, 55, 56, 57]⟩ : ByteArray).size = 10 := rfl
    refine Vc.CallH.body Tryz.func15 Tryz.call15 rfl (by decide +kernel) rfl ?_
    by_cases h10 : n < 10
    · have hmx : max (n : Int) 0 = (n : Int) := by omega
      have hda := digs_at n h10
      ((conv => whnf); repeat (any_goals (first | ((rw [hmx]); (conv => whnf)) | ((refine BndH.nat (n + 1) (by omega) (by omega) ?_); (conv => whnf)) | ((refine BndH.nat n (by omega) (by omega) ?_; (conv => whnf)); (conv => whnf)) | (refine Vc.stp ?_; intros; (conv => whnf)))))
      exact ⟨by show Value.string _ = _; exact congrArg _ hda, rfl⟩
    · obtain ⟨k, rfl⟩ : ∃ k', k = k' + 1 := ⟨k - 1, by omega⟩
      have c1 := fun H => rdec_ind k (n / 10) (by omega) (by omega) H
      have hda := digs_at (n % 10) (by omega)
      have l1 : (Lib.decDigits (n / 10)).length ≤ 20 := by have := dd_len 19 (n / 10) (by omega); omega
      have hdm : (mkS (Lib.decDigits (n % 10))).size ≤ 1 := by rw [dd_small (by omega)]; exact Nat.le_refl _
      have hda' : ({ data := #[48, 49, 50, 51, 52, 53, 54, 55, 56, 57] } : ByteArray).extract (n % 10) (n % 10 + 1) = mkS (Lib.decDigits (n % 10)) := hda
      have hl1 : (mkS (Lib.decDigits (n / 10))).size ≤ 20 := l1
      ((conv => whnf); repeat (any_goals (first | ((refine (c1 _).mono ?_; rintro _ _ ⟨rfl, rfl⟩); (conv => whnf)) | ((refine NeedH.mk ⟨by rw [hda']; omega, ?_⟩; rw [hda']); (conv => whnf)) | ((refine BndH.nat (n % 10 + 1) (by omega) (by omega) ?_); (conv => whnf)) | ((refine BndH.nat (n % 10) (by omega) (by omega) ?_; (conv => whnf)); (conv => whnf)) | (refine Vc.stp ?_; intros; (conv => whnf)))))
      exact ⟨by show Value.string (mkS _ ++ mkS _) = _; rw [mkS_app, ← dd_big h10], rfl⟩
theorem rdec_any (n : Nat) (hn : n ≤ 9223372036854775807) (H : Heap) : CallH Tryz.prog 15 [.int .i64 n] H fun v H' => v = .string (mkS (Lib.itoa (n : Int))) ∧ H = H' := by
  rw [itoa_nat]; exact rdec_ind n n (Nat.le_refl _) hn H
end Go.Proofs.YtphkaogbcfdllaaGreatDoor
/- Build scripts, plain: how long what is read can be. -/
namespace Go.Scr
theorem quotedF_len2 : ∀ (n : Nat) (l : Txt), l.length ≤ n → ∀ {w r : Txt}, quotedF l = some (w, r) → w.length + r.length < l.length
  | _, [], _, _, _, h => by simp [quotedF] at h
  | 0, c :: t, hn, _, _, _ => by simp at hn
  | n + 1, c :: t, hn, w, r, h => by
    simp only [List.length_cons] at hn ⊢
    unfold quotedF at h
    split at h
    · cases h; simp
    · split at h
      · split at h
        · cases h
        · rename_i d u
          simp only [List.length_cons] at hn ⊢
          split at h
          · cases hq : quotedF u with
            | none => rw [hq] at h; cases h
            | some p => rw [hq] at h; cases h; have := quotedF_len2 n u (by omega) (w := p.1) (r := p.2) hq; simp only [List.length_cons]; omega
          · split at h
            · cases hq : quotedF u with
              | none => rw [hq] at h; cases h
              | some p => rw [hq] at h; cases h; have := quotedF_len2 n u (by omega) (w := p.1) (r := p.2) hq; simp only [List.length_cons]; omega
            · cases h
      · cases hq : quotedF t with
        | none => rw [hq] at h; cases h
        | some p => rw [hq] at h; cases h; have := quotedF_len2 n t (by omega) (w := p.1) (r := p.2) hq; simp only [List.length_cons]; omega
theorem takeWhile_len {p : UInt8 → Bool} : ∀ l : Txt, (l.takeWhile p).length ≤ l.length
  | [] => Nat.le_refl _
  | c :: t => by
    rw [List.takeWhile_cons]
    split
    · have := takeWhile_len (p := p) t; simp only [List.length_cons]; omega
    · simp
theorem words_len : ∀ (n : Nat) (l : Txt) (ws : List Txt), wordsN n l = some ws → ∀ w ∈ ws, w.length ≤ l.length
  | n, [], ws, h, w, hw => by
    cases n <;> (simp only [wordsN, Option.some.injEq] at h; subst h; cases hw)
  | 0, c :: t, ws, h, w, hw => by simp [wordsN] at h
  | n + 1, c :: t, ws, h, w, hw => by
    unfold wordsN at h
    have hd := dropWhile_len (p := fun x => !isB x) t
    have ht := takeWhile_len (p := fun x => !isB x) t
    rw [List.length_cons]
    split at h
    · have := words_len n t ws h w hw; omega
    · split at h
      · cases hq : quotedF t with
        | none => rw [hq] at h; cases h
        | some p =>
          obtain ⟨q, r⟩ := p
          have hl := quotedF_len2 _ t (Nat.le_refl _) hq
          rw [hq] at h
          dsimp only at h
          split at h
          · cases h
          · cases hr : wordsN n r with
            | none => rw [hr] at h; cases h
            | some l =>
              rw [hr] at h
              cases h
              rcases List.mem_cons.1 hw with rfl | hw
              · rw [List.length_cons]; omega
              · have := words_len n r l hr w hw; omega
      · cases hr : wordsN n (t.dropWhile fun x => !isB x) with
        | none => rw [hr] at h; cases h
        | some l =>
          rw [hr] at h
          cases h
          rcases List.mem_cons.1 hw with rfl | hw
          · rw [List.length_cons]; omega
          · have := words_len n _ l hr w hw; omega
structure LnB (N : Nat) (x : Ln) : Prop where
  a : x.a.length ≤ N
  b : x.b.length ≤ N
  tx : x.tx.length ≤ N
  n : x.n ≤ 1000
theorem two_len {N k : Nat} {ws : List Txt} {x : Ln} (hw : ∀ w ∈ ws, w.length ≤ N) (h : twoF k ws = some x) : LnB N x := by
  unfold twoF at h
  split at h
  · split at h
    · cases h
      exact ⟨hw _ (by simp), hw _ (by simp), Nat.zero_le _, Nat.zero_le _⟩
    · cases h
  · cases h
theorem text_len {N k : Nat} {ws : List Txt} {x : Ln} (hw : ∀ w ∈ ws, w.length ≤ N) (h : textF k ws = some x) : LnB N x := by
  unfold textF at h
  split at h
  · rename_i a b
    split at h
    · cases h
      have hb := hw b (by simp)
      exact ⟨hw _ (by simp), Nat.zero_le _, by show b.tail.length ≤ N; rw [List.length_tail]; omega, Nat.zero_le _⟩
    · cases h
  · cases h
theorem one_len {N k : Nat} {ws : List Txt} {x : Ln} (hw : ∀ w ∈ ws, w.length ≤ N) (h : oneF k ws = some x) : LnB N x := by
  unfold oneF at h
  split at h
  · split at h
    · cases h
      exact ⟨hw _ (by simp), Nat.zero_le _, Nat.zero_le _, Nat.zero_le _⟩
    · cases h
  · cases h
theorem asked_len {N : Nat} {ws : List Txt} {x : Ln} (hw : ∀ w ∈ ws, w.length ≤ N) (h : askedF ws = some x) : LnB N x := by
  unfold askedF at h
  split at h
  · split at h
    · cases h
      exact ⟨hw _ (by simp), Nat.zero_le _, Nat.zero_le _, Nat.zero_le _⟩
    · cases h
  · split at h
    · cases h
      exact ⟨hw _ (by simp), Nat.zero_le _, Nat.zero_le _, Nat.zero_le _⟩
    · cases h
  · cases h
theorem repeat_len {N : Nat} {ws : List Txt} {x : Ln} (h : repeatF ws = some x) : LnB N x := by
  unfold repeatF at h
  split at h
  · rename_i w
    cases hn : numberF w with
    | none => rw [hn] at h; cases h
    | some n =>
      rw [hn] at h
      cases h
      refine ⟨Nat.zero_le _, Nat.zero_le _, Nat.zero_le _, ?_⟩
      show n ≤ 1000
      unfold numberF at hn
      split at hn
      · cases hn
      · split at hn
        · cases hn
        · split at hn
          · cases hn; assumption
          · cases hn
  · cases h
theorem bare_len {N k : Nat} {ws : List Txt} {x : Ln} (h : bareF k ws = some x) : LnB N x := by
  unfold bareF at h
  split at h
  · cases h
    exact ⟨Nat.zero_le _, Nat.zero_le _, Nat.zero_le _, Nat.zero_le _⟩
  · cases h
theorem fail_len {N : Nat} {ws : List Txt} {x : Ln} (hw : ∀ w ∈ ws, w.length ≤ N) (h : failF ws = some x) : LnB N x := by
  unfold failF at h
  split at h
  · rename_i b
    split at h
    · cases h
      have hb := hw b (by simp)
      exact ⟨Nat.zero_le _, Nat.zero_le _, by show b.tail.length ≤ N; rw [List.length_tail]; omega, Nat.zero_le _⟩
    · cases h
  · cases h
theorem line_len {N : Nat} {ws : List Txt} {x : Ln} (hw : ∀ w ∈ ws, w.length ≤ N) (h : lineF ws = some x) : LnB N x := by
  unfold lineF at h
  split at h
  · cases h
  · rename_i w ws
    have hws : ∀ w ∈ ws, w.length ≤ N := fun v hv => hw v (List.mem_cons_of_mem _ hv)
    split at h <;> first | exact two_len hws h | exact text_len hws h | exact one_len hws h | exact asked_len hws h | exact repeat_len h | exact bare_len h | exact fail_len hws h | cases h
theorem split_len (c : UInt8) : ∀ (s : Txt), ∀ l ∈ splitF c s, l.length ≤ s.length
  | [], l, h => by simp [splitF] at h; subst h; simp
  | x :: t, l, h => by
    have ih := split_len c t
    unfold splitF at h
    rw [List.length_cons]
    split at h
    · rcases List.mem_cons.1 h with rfl | h
      · simp
      · have := ih l h; omega
    · split at h
      · rw [List.mem_singleton] at h; subst h; simp
      · rename_i w ls he
        rw [he] at ih
        rcases List.mem_cons.1 h with rfl | h
        · have := ih w (by simp); rw [List.length_cons]; omega
        · have := ih l (List.mem_cons_of_mem _ h); omega
theorem lines_len (s : Txt) : ∀ l ∈ linesF s, l.length ≤ s.length := fun l h => by
  unfold linesF at h
  dsimp only at h
  split at h
  · exact split_len 10 s l (List.dropLast_subset _ h)
  · exact split_len 10 s l h
theorem parseL_len {N : Nat} : ∀ (ls : List Txt) (i : Nat) (out : List Ln) (o : List Nat) (l : List Ln), (∀ w ∈ ls, w.length ≤ N) → (∀ x ∈ out, LnB N x) → out.length ≤ 200 → (parseL ls i out o).1 = some l → (∀ x ∈ l, LnB N x) ∧ l.length ≤ 200
  | [], i, out, o, l, _, hn, h200, h => by
    rw [parseL] at h
    split at h
    · cases h; exact ⟨hn, h200⟩
    · cases h
  | x :: ls, i, out, o, l, hw, hn, h200, h => by
    have hls : ∀ w ∈ ls, w.length ≤ N := fun v hv => hw v (List.mem_cons_of_mem _ hv)
    rw [parseL] at h
    split at h
    · exact parseL_len ls _ _ _ _ hls hn h200 h
    · split at h
      · cases h
      · rename_i ws hws
        split at h
        · cases h
        · rename_i y hy
          split at h
          · cases h
          · split at h
            · cases h
            · rename_i o' ho
              refine parseL_len ls _ _ _ _ hls ?_ (by rw [List.length_append]; simp; omega) h
              intro z hz
              rcases List.mem_append.1 hz with hz | hz
              · exact hn z hz
              · rw [List.mem_singleton.1 hz]
                exact line_len (fun w hw' => Nat.le_trans (words_len _ _ _ hws w hw') (hw x (by simp))) hy
theorem parse_len {s : Txt} {l : List Ln} {i : Nat} (h : parseF s = (some l, i)) : (∀ x ∈ l, LnB s.length x) ∧ l.length ≤ 200 := by
  unfold parseF at h
  split at h
  · cases h
  · exact parseL_len (linesF s) 0 [] [] l (lines_len s) (fun x hx => by cases hx) (by simp) (by rw [h])
end Go.Scr
/- Lists of files in a heap; the reference's tree. -/
namespace Go.Proofs.YtphkaogbcfdllaaGreatDoor
open Go Go.Vc Go.Scr Go.Pth Go.Tre
variable {Z : Nat → Prop}
def fileC (x : Txt × Tre.Node) (a : Option Addr) (cap : Nat) : List Value := [.string (mkS x.1), .bool x.2.1, .slice a x.2.2.length cap]
/-- the cells of a list of files -/
inductive FilesV (H : Heap) : Tr → List Value → Prop where
  | nil : FilesV H [] []
  | cons {x : Txt × Tre.Node} {l : Tr} {a : Option Addr} {cap : Nat} {vs : List Value} : Row H a (strV x.2.2) → FilesV H l vs → FilesV H (x :: l) (fileC x a cap ++ vs)
theorem FilesV.len {H : Heap} {A : Tr} {vs : List Value} (h : FilesV H A vs) : vs.length = A.length * 3 := by
  induction h with
  | nil => rfl
  | cons _ _ ih => rw [List.length_append, ih, List.length_cons]; show 3 + _ = _; omega
theorem FilesV.keep {F : Nat → Prop} {H H' : Heap} {A : Tr} {vs : List Value} (h : FilesV H A vs) (k : Only F H H') (hF : ∀ b, F b → b < H.size → Dumb H b) : FilesV H' A vs := by
  induction h with
  | nil => exact .nil
  | cons h _ ih => exact .cons (h.bytes k hF) ih
theorem FilesV.ext {H H' : Heap} {A : Tr} {vs : List Value} (h : FilesV H A vs) (k : Ext H H') : FilesV H' A vs := h.keep k fun _ h => h.elim
theorem FilesV.append {H : Heap} {A B : Tr} {vs ws : List Value} (h : FilesV H A vs) (k : FilesV H B ws) : FilesV H (A ++ B) (vs ++ ws) := by
  induction h with
  | nil => exact k
  | cons h _ ih => rw [List.cons_append, List.append_assoc]; exact .cons h ih
theorem FilesV.get {H : Heap} {A : Tr} {vs : List Value} (h : FilesV H A vs) : ∀ {i : Nat} {x : Txt × Tre.Node}, A[i]? = some x → ∃ a cap, Row H a (strV x.2.2) ∧ ∀ j v, (fileC x a cap)[j]? = some v → vs[i * 3 + j]? = some v := by
  induction h with
  | nil => intro i x hx; simp at hx
  | @cons y l a cap vs h _ ih =>
    intro i x hx
    cases i with
    | zero =>
      simp only [List.getElem?_cons_zero, Option.some.injEq] at hx
      subst hx
      refine ⟨a, cap, h, fun j v hv => ?_⟩
      have hj := (List.getElem?_eq_some_iff.1 hv).1
      rw [Nat.zero_mul, Nat.zero_add, List.getElem?_append_left hj]; exact hv
    | succ i =>
      obtain ⟨a', cap', h1, h2⟩ := ih (i := i) (x := x) (by simpa using hx)
      refine ⟨a', cap', h1, fun j v hv => ?_⟩
      rw [List.getElem?_append_right (by show 3 ≤ _; omega)]
      have e : (i + 1) * 3 + j - (fileC y a cap).length = i * 3 + j := by show (i + 1) * 3 + j - 3 = _; omega
      rw [e]; exact h2 j v hv
theorem FilesV.take {H : Heap} {A : Tr} {vs : List Value} (h : FilesV H A vs) : ∀ (k : Nat), FilesV H (A.take k) (vs.take (k * 3)) := by
  induction h with
  | nil => intro k; simp; exact .nil
  | @cons y l a cap vs h _ ih =>
    intro k
    cases k with
    | zero => simp; exact .nil
    | succ k =>
      rw [List.take_succ_cons, List.take_append, show (k + 1) * 3 - (fileC y a cap).length = k * 3 by show (k + 1) * 3 - 3 = _; omega, List.take_of_length_le (l := fileC y a cap) (by show 3 ≤ (k + 1) * 3; omega)]
      exact .cons h (ih k)
theorem FilesV.drop {H : Heap} {A : Tr} {vs : List Value} (h : FilesV H A vs) : ∀ (k : Nat), FilesV H (A.drop k) (vs.drop (k * 3)) := by
  induction h with
  | nil => intro k; simp; exact .nil
  | @cons y l a cap vs h h' ih =>
    intro k
    cases k with
    | zero => exact .cons h h'
    | succ k =>
      rw [List.drop_succ_cons, List.drop_append, show (k + 1) * 3 - (fileC y a cap).length = k * 3 by show (k + 1) * 3 - 3 = _; omega, show (fileC y a cap).drop ((k + 1) * 3) = [] from List.drop_of_length_le (by show 3 ≤ (k + 1) * 3; omega), List.nil_append]
      exact ih k
theorem FilesV.plain {H : Heap} {A : Tr} {vs : List Value} (h : FilesV H A vs) : ∀ u ∈ vs, plainV u = true := by
  induction h with
  | nil => intro u hu; cases hu
  | cons _ _ ih =>
    intro u hu
    rcases List.mem_append.1 hu with hu | hu
    · simp [fileC] at hu
      rcases hu with rfl | rfl | rfl <;> rfl
    · exact ih u hu
theorem FilesV.head {H : Heap} {A : Tr} {vs : List Value} (h : FilesV H A vs) (hn : vs ≠ []) : ∃ s, vs[0]? = some (.string s) := by
  cases h with
  | nil => exact absurd rfl hn
  | cons _ _ => exact ⟨_, rfl⟩
/-- a slice of files -/
structure RowF (H : Heap) (a : Option Addr) (A : Tr) : Prop where
  out : ∃ vs, Row H a vs ∧ FilesV H A vs
theorem RowF.nil (H : Heap) (a : Option Addr) : RowF H a [] := ⟨[], Row.nil _ _, .nil⟩
theorem RowF.keep {F : Nat → Prop} {H H' : Heap} {a : Option Addr} {A : Tr} (h : RowF H a A) (k : Only F H H') (hF : ∀ b, F b → b < H.size → Dumb H b) : RowF H' a A := by
  obtain ⟨vs, h1, h2⟩ := h.out
  refine ⟨vs, h1.keep' k fun hne p hp hf => ?_, h2.keep k hF⟩
  obtain ⟨b, o, ha, hlt, hc⟩ := h1.at (List.length_pos_iff.2 hne)
  rw [ha] at hp; cases hp
  obtain ⟨s, hs⟩ := h2.head hne
  have := (hF _ hf hlt).out _ _ (hc 0 _ hs)
  cases this
theorem RowF.ext {H H' : Heap} {a : Option Addr} {A : Tr} (h : RowF H a A) (k : Ext H H') : RowF H' a A := h.keep k fun _ h => h.elim
theorem RowF.take {H : Heap} {a : Option Addr} {A : Tr} (h : RowF H a A) (k : Nat) : RowF H a (A.take k) := by
  obtain ⟨vs, h1, h2⟩ := h.out
  exact ⟨_, h1.take (k * 3), h2.take k⟩
theorem RowF.drop {H : Heap} {a : Option Addr} {A : Tr} (h : RowF H a A) (m l : Nat) (hl : m = l → A.length ≤ l) : RowF H (sliceBase a m l 3) (A.drop l) := by
  obtain ⟨vs, h1, h2⟩ := h.out
  exact ⟨_, h1.drop m l 3 (fun e => by rw [h2.len]; exact Nat.mul_le_mul_right _ (hl e)), h2.drop l⟩
/-- an element of a slice of files -/
theorem IdxA.file {H : Heap} {a : Option Addr} {A : Tr} {n : Nat} {i : Int} {K : Addr → Prop} (h : RowF H a A) (hn : A.length = n) (j : Nat) (x : Txt × Tre.Node) (hi : i = j) (hx : A[j]? = some x)
    (hk : ∀ b o a' cap', Row H a' (strV x.2.2) → (∀ k v, (fileC x a' cap')[k]? = some v → hcell H ⟨b, o + k, none⟩ = some v) → K ⟨b, o, none⟩) : IdxA a n 3 i K := by
  obtain ⟨vs, h1, h2⟩ := h.out
  have hj := (List.getElem?_eq_some_iff.1 hx).1
  obtain ⟨a', cap', g1, g2⟩ := h2.get hx
  refine Go.Vc.IdxA.row (size := 3) h1 (by rw [h2.len, hn]) (by decide) j hi (by omega) fun b o k1 k2 k3 => ?_
  exact hk b (o + j * 3) a' cap' g1 fun k v hv => k3 k v (g2 k v hv)
/-- the reference's tree -/
structure RTree (H : Heap) (b : Nat) (A : Tr) : Prop where
  out : ∃ a spare, Blk H b #[.slice a A.length (A.length + spare)] 48 ∧ RowF H a A
theorem RTree.keep {F : Nat → Prop} {H H' : Heap} {b : Nat} {A : Tr} (h : RTree H b A) (k : Only F H H') (hb : ¬ F b) (hF : ∀ b, F b → b < H.size → Dumb H b) : RTree H' b A := by
  obtain ⟨a, cap, h1, h2⟩ := h.out
  exact ⟨a, cap, h1.keep k hb, h2.keep k hF⟩
theorem RTree.of {H : Heap} {b n cap : Nat} {a : Option Addr} {A : Tr} (h : Blk H b #[.slice a n cap] 48) (hn : A.length = n) (hc : n ≤ cap) (hr : RowF H a A) : RTree H b A := ⟨a, cap - n, by rw [hn, show n + (cap - n) = cap by omega]; exact h, hr⟩
theorem RTree.ext {H H' : Heap} {b : Nat} {A : Tr} (h : RTree H b A) (k : Ext H H') : RTree H' b A := h.keep k id fun _ h => h.elim
theorem slice_dumb (a : Option Addr) (n cap : Nat) : ∀ v ∈ (#[.slice a n cap] : Array Value).toList, dumbV v = true := by simp [dumbV]
theorem RTree.dumb {H : Heap} {b : Nat} {A : Tr} (h : RTree H b A) : Dumb H b := let ⟨_, _, h, _⟩ := h.out; .blk h (slice_dumb _ _ _)
theorem RTree.oth {H : Heap} {b : Nat} {A : Tr} (h : RTree H b A) : Oth H b := let ⟨_, _, h, _⟩ := h.out; .blk h (slice_dumb _ _ _) (by decide)
/-- beside a tree of the code -/
theorem RTree.other {H H' : Heap} {b b' mb' : Nat} {A A' : Tr} (h : RTree H b A) (h' : TreeO Z H b' mb' A') (k : ButT b' mb' H H') : RTree H' b A := by
  obtain ⟨a, cap, h1, _⟩ := h.out
  refine h.keep k (fun e => ?_) fun x e _ => ?_
  · rcases e with rfl | rfl
    · exact absurd (blk_one h1 h'.blk).1 (by decide)
    · exact h'.map.ne h1 rfl
  · rcases e with rfl | rfl
    · exact h'.oth.dumb
    · exact h'.map.oth.dumb
theorem TreeO.otherR {H H' : Heap} {b mb b' : Nat} {A A' : Tr} (h : TreeO Z H b mb A) (h' : RTree H b' A') (k : But b' H H') : TreeO Z H' b mb A := by
  obtain ⟨a, cap, h1, _⟩ := h'.out
  exact h.keep k (fun e => by subst e; exact absurd (blk_one h1 h.blk).1 (by decide)) (fun e => h.map.ne h1 e) fun x e _ => by subst e; exact .inl h'.oth
end Go.Proofs.YtphkaogbcfdllaaGreatDoor
