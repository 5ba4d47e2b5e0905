import Derived.Test.YtlgcfcdmldlefaaDoorVe
import Derived.Test.YtlgcfcdmldlefaaDoorVf
set_option linter.unusedVariables false
set_option linter.unusedSimpArgs false
set_option maxRecDepth 100000
/- Errors: errors.Is, errors.As at a number. -/
namespace Go.Proofs.YtlgcfcdmldlefaaDoor
open Go Go.Vc Go.RowKit Go.Sort
theorem eis_any {m : Int} {ws : Chain} {b : Bas} {H : Heap} {v : Value} (hok : BasOk b) (h : ErV H ws b v) : CallH Tryd.prog 44 [v, .iface 25 (.int .i64 m)] H fun u H' => u = .bool (isB m b) ∧ Ext H H' := by
  obtain ⟨ty, pl, rfl⟩ := ErV.iface h
  refine Vc.CallH.body Tryd.func44 Tryd.call44 rfl (by decide +kernel) rfl ?_
  ((conv => whnf); repeat (any_goals (first | ((refine (typeOf_n m _).mono ?_; rintro _ _ ⟨rfl, rfl⟩); (conv => whnf)) | ((refine comparable_n _ ?_); (conv => whnf)) | ((refine (is_any ws b _ _ hok h).mono ?_; rintro _ H1 ⟨rfl, hx1⟩); (conv => whnf)) | (refine Vc.stp ?_; intros; (conv => whnf)) | (refine Vc.spl ?_ ?_ <;> (intro _; (conv => whnf))))))
  exact ⟨rfl, hx1⟩
/-- what the target is, as errors.as has it -/
structure Tgt (H : Heap) (tb : Nat) (vb : Addr) (T E : TypeId) (old : Value) : Prop where
  cell : hcell H vb = some (.pointer (some ⟨tb, 0, none⟩))
  blk : Blk H tb #[old] E
  ne : vb.block ≠ tb
theorem Tgt.ext {H H' : Heap} {tb : Nat} {vb : Addr} {T E : TypeId} {old : Value} (h : Tgt H tb vb T E old) (k : Ext H H') : Tgt H' tb vb T E old := ⟨hcell_keep h.cell k id, h.blk.ext k, h.ne⟩
set_option maxHeartbeats 1000000 in
theorem as_num : ∀ (ws : Chain) (n : Int) (H : Heap) (v : Value) (tb : Nat) (vb : Addr) (old : Value), WrV H ws (NumV n) v → Tgt H tb vb 136 25 old → CallH Tryd.prog 79 [v, .iface 136 (.pointer (some ⟨tb, 0, none⟩)), .agg #[hT 136, .pointer (some vb), .int .u64 150], tyV 25] H fun u H' => u = .bool true ∧ Blk H' tb #[.int .i64 n] 25 ∧ But tb H H' := by
  intro ws n H v tb vb old h ht
  refine Vc.CallH.body Tryd.func79 Tryd.call79 rfl (by decide +kernel) rfl ?_
  ((conv => whnf); repeat (any_goals (first | (refine Vc.stp ?_; intros; (conv => whnf)) | (refine Vc.spl ?_ ?_ <;> (intro _; (conv => whnf))))))
  rename_i H1 hs1 hb1 hx1
  have ht1 := ht.ext hx1
  have h1 := WrV.mono hx1 (fun _ h => h) _ _ h
  have hbox := hb1
  refine LoopH.intro (fun (x : Chain × Value) => [(0, x.2)]) (fun x H' => H1 = H' ∧ WrV H1 x.1 (NumV n) x.2) (fun x => x.1.length) (ws, v) ⟨rfl, trivial⟩ ⟨rfl, h1⟩ ?_
  rintro ⟨ws, v⟩ _ ⟨rfl, h⟩
  dsimp only at h ⊢
  cases ws with
  | nil =>
    have h : v = _ := h
    subst h
    ((conv => whnf); repeat (any_goals (first | ((refine (typeOf_n n _).mono ?_; rintro _ _ ⟨rfl, rfl⟩); (conv => whnf)) | ((refine assign_nn _ ?_); (conv => whnf)) | ((refine (elemV_n vb ⟨tb, 0, none⟩ _ ht1.cell).mono ?_; rintro _ _ ⟨rfl, rfl⟩); (conv => whnf)) | ((refine (valueOfE_n n _).mono ?_; rintro _ H2 ⟨rfl, hb2, hs2, hx2⟩; have hz2 := hx2.size); (conv => whnf)) | (refine Vc.stp ?_; intros; (conv => whnf)) | (refine Vc.spl ?_ ?_ <;> (intro _; (conv => whnf))))))
    have hc2 : hcell H2 ⟨H1.size, 0, none⟩ = some (.int .i64 n) := by rw [hb2.cell]; rfl
    ((conv => whnf); repeat (any_goals (first | ((refine (set_n n tb ⟨H1.size, 0, none⟩ old _ hc2 (ht1.blk.ext hx2)).mono ?_; rintro _ H3 ⟨rfl, hs3, hb3, hx3⟩; have hz3 := hx3.size); (conv => whnf)) | (refine Vc.stp ?_; intros; (conv => whnf)) | (refine Vc.spl ?_ ?_ <;> (intro _; (conv => whnf))))))
    exact ⟨rfl, hb3, Only.trans (hx1.trans hx2).only hx3 fun _ _ h => h⟩
  | cons x ws =>
    obtain ⟨g, v', rfl, hb, hw⟩ := h
    obtain ⟨_, ty, pl, rfl⟩ := plain_wr hw
    ((conv => whnf); repeat (any_goals (first | ((refine (typeOf_f _ _).mono ?_; rintro _ _ ⟨rfl, rfl⟩); (conv => whnf)) | ((refine assign_fn _ ?_); (conv => whnf)) | ((with_reducible apply ta_e_f); (conv => whnf)) | ((with_reducible apply ta_e_e); (conv => whnf)) | ((with_reducible apply ta_e_j); (conv => whnf)) | ((with_reducible apply ta_e_i); (conv => whnf)) | ((with_reducible apply ta_e_u); (conv => whnf)) | ((with_reducible apply ta_e_w); (conv => whnf)) | ((with_reducible apply ta_e_a); (conv => whnf)) | ((with_reducible apply ta_f_f); (conv => whnf)) | ((with_reducible apply ta_f_e); (conv => whnf)) | ((with_reducible apply ta_f_j); (conv => whnf)) | ((with_reducible apply ta_f_i); (conv => whnf)) | ((with_reducible apply ta_f_u); (conv => whnf)) | ((with_reducible apply ta_f_w); (conv => whnf)) | ((with_reducible apply ta_f_a); (conv => whnf)) | ((with_reducible apply ta_j_f); (conv => whnf)) | ((with_reducible apply ta_j_e); (conv => whnf)) | ((with_reducible apply ta_j_j); (conv => whnf)) | ((with_reducible apply ta_j_i); (conv => whnf)) | ((with_reducible apply ta_j_u); (conv => whnf)) | ((with_reducible apply ta_j_w); (conv => whnf)) | ((with_reducible apply ta_j_a); (conv => whnf)) | ((with_reducible apply eq_ee); (conv => whnf)) | ((with_reducible apply eq_fe); (conv => whnf)) | ((with_reducible apply eq_je); (conv => whnf)) | ((refine NextH.method (unwrap_f _) ?_; refine (unwrapF_any hb).mono ?_; rintro _ _ ⟨rfl, rfl⟩); (conv => whnf)) | (refine Vc.stp ?_; intros; (conv => whnf)) | (refine Vc.spl ?_ ?_ <;> (intro _; (conv => whnf))))))
    exact ⟨(ws, .iface ty pl), ⟨rfl, trivial⟩, ⟨rfl, hw⟩, by show ws.length < ws.length + 1; omega⟩
/-- the first number -/
def codeB : Bas → Int
  | .num n => n
  | .join l => (l.headD ([], 0)).2
set_option maxHeartbeats 1000000 in
theorem as_any : ∀ (ws : Chain) (b : Bas) (H : Heap) (v : Value) (tb : Nat) (vb : Addr) (old : Value), BasOk b → ErV H ws b v → Tgt H tb vb 136 25 old → CallH Tryd.prog 79 [v, .iface 136 (.pointer (some ⟨tb, 0, none⟩)), .agg #[hT 136, .pointer (some vb), .int .u64 150], tyV 25] H fun u H' => u = .bool true ∧ Blk H' tb #[.int .i64 (codeB b)] 25 ∧ But tb H H' := by
  intro ws b H v tb vb old hok h ht
  refine Vc.CallH.body Tryd.func79 Tryd.call79 rfl (by decide +kernel) rfl ?_
  ((conv => whnf); repeat (any_goals (first | (refine Vc.stp ?_; intros; (conv => whnf)) | (refine Vc.spl ?_ ?_ <;> (intro _; (conv => whnf))))))
  rename_i H1 hs1 hb1 hx1
  have ht1 := ht.ext hx1
  have h1 := ErV.ext h hx1
  have hbox := hb1
  refine LoopH.intro (fun (x : Chain × Value) => [(0, x.2)]) (fun x H' => H1 = H' ∧ ErV H1 x.1 b x.2) (fun x => x.1.length) (ws, v) ⟨rfl, trivial⟩ ⟨rfl, h1⟩ ?_
  rintro ⟨ws, v⟩ _ ⟨rfl, h⟩
  dsimp only at h ⊢
  cases ws with
  | nil =>
    cases b with
    | num n =>
      have h : v = _ := h
      subst h
      ((conv => whnf); repeat (any_goals (first | ((refine (typeOf_n n _).mono ?_; rintro _ _ ⟨rfl, rfl⟩); (conv => whnf)) | ((refine assign_nn _ ?_); (conv => whnf)) | ((refine (elemV_n vb ⟨tb, 0, none⟩ _ ht1.cell).mono ?_; rintro _ _ ⟨rfl, rfl⟩); (conv => whnf)) | ((refine (valueOfE_n n _).mono ?_; rintro _ H2 ⟨rfl, hb2, hs2, hx2⟩; have hz2 := hx2.size); (conv => whnf)) | (refine Vc.stp ?_; intros; (conv => whnf)) | (refine Vc.spl ?_ ?_ <;> (intro _; (conv => whnf))))))
      have hc2 : hcell H2 ⟨H1.size, 0, none⟩ = some (.int .i64 n) := by rw [hb2.cell]; rfl
      ((conv => whnf); repeat (any_goals (first | ((refine (set_n n tb ⟨H1.size, 0, none⟩ old _ hc2 (ht1.blk.ext hx2)).mono ?_; rintro _ H3 ⟨rfl, hs3, hb3, hx3⟩; have hz3 := hx3.size); (conv => whnf)) | (refine Vc.stp ?_; intros; (conv => whnf)) | (refine Vc.spl ?_ ?_ <;> (intro _; (conv => whnf))))))
      exact ⟨rfl, hb3, Only.trans (hx1.trans hx2).only hx3 fun _ _ h => h⟩
    | join l =>
      obtain ⟨g, a, cap, vs, rfl, hb, hc, hr, hvl, hall⟩ := h
      obtain ⟨h0, h20, hsm⟩ := hok
      have hpl := join_plain hvl hall
      have hU := unwrapJ_any hb hr hvl h0 (by omega) hpl
      obtain ⟨c, l, rfl⟩ : ∃ c l', l = c :: l' := by cases l with | nil => simp at h0 | cons c l => exact ⟨c, l, rfl⟩
      obtain ⟨e, vs, rfl⟩ : ∃ e vs', vs = e :: vs' := by cases vs with | nil => simp at hvl | cons e vs => exact ⟨e, vs, rfl⟩
      have hce := hall 0 c e rfl rfl
      obtain ⟨_, ty, pl, rfl⟩ := plain_wr hce
      ((conv => whnf); repeat (any_goals (first | ((refine (typeOf_j _ _).mono ?_; rintro _ _ ⟨rfl, rfl⟩); (conv => whnf)) | ((refine assign_jn _ ?_); (conv => whnf)) | ((with_reducible apply ta_e_f); (conv => whnf)) | ((with_reducible apply ta_e_e); (conv => whnf)) | ((with_reducible apply ta_e_j); (conv => whnf)) | ((with_reducible apply ta_e_i); (conv => whnf)) | ((with_reducible apply ta_e_u); (conv => whnf)) | ((with_reducible apply ta_e_w); (conv => whnf)) | ((with_reducible apply ta_e_a); (conv => whnf)) | ((with_reducible apply ta_f_f); (conv => whnf)) | ((with_reducible apply ta_f_e); (conv => whnf)) | ((with_reducible apply ta_f_j); (conv => whnf)) | ((with_reducible apply ta_f_i); (conv => whnf)) | ((with_reducible apply ta_f_u); (conv => whnf)) | ((with_reducible apply ta_f_w); (conv => whnf)) | ((with_reducible apply ta_f_a); (conv => whnf)) | ((with_reducible apply ta_j_f); (conv => whnf)) | ((with_reducible apply ta_j_e); (conv => whnf)) | ((with_reducible apply ta_j_j); (conv => whnf)) | ((with_reducible apply ta_j_i); (conv => whnf)) | ((with_reducible apply ta_j_u); (conv => whnf)) | ((with_reducible apply ta_j_w); (conv => whnf)) | ((with_reducible apply ta_j_a); (conv => whnf)) | ((with_reducible apply eq_ee); (conv => whnf)) | ((with_reducible apply eq_fe); (conv => whnf)) | ((with_reducible apply eq_je); (conv => whnf)) | ((refine NextH.method (unwrap_j _) ?_; refine hU.mono ?_; rintro _ H2 ⟨⟨a1, c1, rfl, hr1⟩, hx2⟩; have hz2 := hx2.size); (conv => whnf)) | (refine Vc.stp ?_; intros; (conv => whnf)) | (refine Vc.spl ?_ ?_ <;> (intro _; (conv => whnf))))))
      have hce2 := WrV.mono hx2 (fun _ h => h) _ _ hce
      have hrec := as_num c.1 c.2 H2 (.iface ty pl) tb vb old hce2 (ht1.ext hx2)
      have hln : ((c :: l).length : Int) = l.length + 1 := by simp
      refine LoopH.intro (fun (i : Nat) => [(50, .int .i64 i)]) (fun i H' => H2 = H' ∧ i = 0) (fun i => 1) 0 ⟨rfl, trivial⟩ ⟨rfl, rfl⟩ ?_
      rintro i _ ⟨rfl, rfl⟩
      ((conv => whnf); repeat (any_goals (first | ((refine IdxA.val hr1 hvl 0 (.iface ty pl) rfl rfl ?_; intro _ _ _); (conv => whnf)) | ((refine hrec.mono ?_; rintro _ H3 ⟨rfl, hb3, hx3⟩; have hz3 := hx3.size); (conv => whnf)) | (refine Vc.stp ?_; intros; (conv => whnf)) | (refine Vc.spl ?_ ?_ <;> (intro _; (conv => whnf))))))
      exact ⟨rfl, hb3, Only.trans (hx1.trans hx2).only hx3 fun _ _ h => h⟩
  | cons x ws =>
    obtain ⟨g, v', rfl, hb, hw⟩ := h
    obtain ⟨ty, pl, rfl⟩ := ErV.iface hw
    ((conv => whnf); repeat (any_goals (first | ((refine (typeOf_f _ _).mono ?_; rintro _ _ ⟨rfl, rfl⟩); (conv => whnf)) | ((refine assign_fn _ ?_); (conv => whnf)) | ((with_reducible apply ta_e_f); (conv => whnf)) | ((with_reducible apply ta_e_e); (conv => whnf)) | ((with_reducible apply ta_e_j); (conv => whnf)) | ((with_reducible apply ta_e_i); (conv => whnf)) | ((with_reducible apply ta_e_u); (conv => whnf)) | ((with_reducible apply ta_e_w); (conv => whnf)) | ((with_reducible apply ta_e_a); (conv => whnf)) | ((with_reducible apply ta_f_f); (conv => whnf)) | ((with_reducible apply ta_f_e); (conv => whnf)) | ((with_reducible apply ta_f_j); (conv => whnf)) | ((with_reducible apply ta_f_i); (conv => whnf)) | ((with_reducible apply ta_f_u); (conv => whnf)) | ((with_reducible apply ta_f_w); (conv => whnf)) | ((with_reducible apply ta_f_a); (conv => whnf)) | ((with_reducible apply ta_j_f); (conv => whnf)) | ((with_reducible apply ta_j_e); (conv => whnf)) | ((with_reducible apply ta_j_j); (conv => whnf)) | ((with_reducible apply ta_j_i); (conv => whnf)) | ((with_reducible apply ta_j_u); (conv => whnf)) | ((with_reducible apply ta_j_w); (conv => whnf)) | ((with_reducible apply ta_j_a); (conv => whnf)) | ((with_reducible apply eq_ee); (conv => whnf)) | ((with_reducible apply eq_fe); (conv => whnf)) | ((with_reducible apply eq_je); (conv => whnf)) | ((refine NextH.method (unwrap_f _) ?_; refine (unwrapF_any hb).mono ?_; rintro _ _ ⟨rfl, rfl⟩); (conv => whnf)) | (refine Vc.stp ?_; intros; (conv => whnf)) | (refine Vc.spl ?_ ?_ <;> (intro _; (conv => whnf))))))
    exact ⟨(ws, .iface ty pl), ⟨rfl, trivial⟩, ⟨rfl, hw⟩, by show ws.length < ws.length + 1; omega⟩
set_option maxHeartbeats 1000000 in
theorem eas_any {ws : Chain} {b : Bas} {H : Heap} {v : Value} {tb : Nat} {old : Value} (hg : Glb H) (hok : BasOk b) (h : ErV H ws b v) (ht : Blk H tb #[old] 25) : CallH Tryd.prog 46 [v, .iface 136 (.pointer (some ⟨tb, 0, none⟩))] H fun u H' => u = .bool true ∧ Blk H' tb #[.int .i64 (codeB b)] 25 ∧ But tb H H' := by
  obtain ⟨ty, pl, rfl⟩ := ErV.iface h
  have hlt := ht.lt
  have get := hg.et
  refine Vc.CallH.body Tryd.func46 Tryd.call46 rfl (by decide +kernel) rfl ?_
  ((conv => whnf); repeat (any_goals (first | ((refine (valueOf_n ⟨tb, 0, none⟩ _).mono ?_; rintro _ H1 ⟨rfl, hb1, hs1, hx1⟩; have hz1 := hx1.size); (conv => whnf)) | ((refine (typeV_n _ _).mono ?_; rintro _ _ ⟨rfl, rfl⟩); (conv => whnf)) | ((refine kind_n _ ?_); (conv => whnf)) | ((refine kindE_n _ ?_); (conv => whnf)) | ((refine elemT_n _ ?_); (conv => whnf)) | ((refine implements_n _ ?_); (conv => whnf)) | ((refine (isNil_n _ ⟨tb, 0, none⟩ _ (Go.Vc.hcell_keep (show hcell H1 ⟨H.size, 0, none⟩ = some (.pointer (some ⟨tb, 0, none⟩)) by rw [hb1.cell]; rfl) (show Ext H1 _ by (repeat (first | assumption | exact Vc.Ext.refl _ | ((with_reducible apply Vc.Ext.trans); (case k => assumption)) | ((with_reducible apply Vc.Ext.but); (case k => assumption); (case hb => omega))))) id)).mono ?_; rintro _ _ ⟨rfl, rfl⟩); (conv => whnf)) | (refine Vc.stp ?_; intros; (conv => whnf)) | (refine Vc.spl ?_ ?_ <;> (intro _; (conv => whnf))))))
  rename_i H2 hs2 hb2 hx2 H3 hs3 hb3 hx3
  have k13 : Ext H1 H3 := by (repeat (first | assumption | exact Vc.Ext.refl _ | ((with_reducible apply Vc.Ext.trans); (case k => assumption)) | ((with_reducible apply Vc.Ext.but); (case k => assumption); (case hb => omega))))
  have k3 : Ext H H3 := hx1.trans k13
  refine (as_any ws b H3 _ tb ⟨H.size, 0, none⟩ old hok (ErV.ext h k3) ⟨hcell_keep (show hcell H1 ⟨H.size, 0, none⟩ = some (.pointer (some ⟨tb, 0, none⟩)) by rw [hb1.cell]; rfl) k13 id, ht.ext k3, by show H.size ≠ tb; omega⟩).mono ?_
  rintro _ H4 ⟨rfl, hb4, hx4⟩
  ((conv => whnf); repeat (any_goals (first | (refine Vc.stp ?_; intros; (conv => whnf)) | (refine Vc.spl ?_ ?_ <;> (intro _; (conv => whnf))))))
  exact ⟨rfl, hb4, Only.trans k3.only hx4 fun _ _ h => h⟩
/- at a fault -/
theorem asf_hit (g : Option Addr) (H : Heap) (tb : Nat) (vb : Addr) (old : Value) (ht : Tgt H tb vb 98 39 old) : CallH Tryd.prog 79 [.iface 39 (.pointer g), .iface 98 (.pointer (some ⟨tb, 0, none⟩)), .agg #[hT 98, .pointer (some vb), .int .u64 150], tyV 39] H fun u H' => u = .bool true ∧ Blk H' tb #[.pointer g] 39 ∧ But tb H H' := by
  refine Vc.CallH.body Tryd.func79 Tryd.call79 rfl (by decide +kernel) rfl ?_
  ((conv => whnf); repeat (any_goals (first | (refine Vc.stp ?_; intros; (conv => whnf)) | (refine Vc.spl ?_ ?_ <;> (intro _; (conv => whnf))))))
  rename_i H1 hs1 hb1 hx1
  have ht1 := ht.ext hx1
  refine LoopH.intro (fun (i : Nat) => [(0, .iface 39 (.pointer g))]) (fun i H' => H1 = H') (fun i => 1) 0 ⟨rfl, trivial⟩ rfl ?_
  rintro i _ rfl
  ((conv => whnf); repeat (any_goals (first | ((refine (typeOf_f g _).mono ?_; rintro _ _ ⟨rfl, rfl⟩); (conv => whnf)) | ((refine assign_ff _ ?_); (conv => whnf)) | ((refine (elemV_f vb ⟨tb, 0, none⟩ _ ht1.cell).mono ?_; rintro _ _ ⟨rfl, rfl⟩); (conv => whnf)) | ((refine (valueOfE_f g _).mono ?_; rintro _ H2 ⟨rfl, hb2, hs2, hx2⟩; have hz2 := hx2.size); (conv => whnf)) | (refine Vc.stp ?_; intros; (conv => whnf)) | (refine Vc.spl ?_ ?_ <;> (intro _; (conv => whnf))))))
  have hc2 : hcell H2 ⟨H1.size, 0, none⟩ = some (.pointer g) := by rw [hb2.cell]; rfl
  ((conv => whnf); repeat (any_goals (first | ((refine (set_f g tb ⟨H1.size, 0, none⟩ old _ hc2 (ht1.blk.ext hx2)).mono ?_; rintro _ H3 ⟨rfl, hs3, hb3, hx3⟩; have hz3 := hx3.size); (conv => whnf)) | (refine Vc.stp ?_; intros; (conv => whnf)) | (refine Vc.spl ?_ ?_ <;> (intro _; (conv => whnf))))))
  exact ⟨rfl, hb3, Only.trans (hx1.trans hx2).only hx3 fun _ _ h => h⟩
theorem asf_num (n : Int) (H : Heap) (tb : Nat) (vb : Addr) (old : Value) (ht : Tgt H tb vb 98 39 old) : CallH Tryd.prog 79 [.iface 25 (.int .i64 n), .iface 98 (.pointer (some ⟨tb, 0, none⟩)), .agg #[hT 98, .pointer (some vb), .int .u64 150], tyV 39] H fun u H' => u = .bool false ∧ Ext H H' := by
  refine Vc.CallH.body Tryd.func79 Tryd.call79 rfl (by decide +kernel) rfl ?_
  ((conv => whnf); repeat (any_goals (first | (refine Vc.stp ?_; intros; (conv => whnf)) | (refine Vc.spl ?_ ?_ <;> (intro _; (conv => whnf))))))
  rename_i H1 hs1 hb1 hx1
  refine LoopH.intro (fun (i : Nat) => [(0, .iface 25 (.int .i64 n))]) (fun i H' => H1 = H') (fun i => 1) 0 ⟨rfl, trivial⟩ rfl ?_
  rintro i _ rfl
  ((conv => whnf); repeat (any_goals (first | ((refine (typeOf_n n _).mono ?_; rintro _ _ ⟨rfl, rfl⟩); (conv => whnf)) | ((refine assign_nf _ ?_); (conv => whnf)) | ((with_reducible apply ta_e_f); (conv => whnf)) | ((with_reducible apply ta_e_e); (conv => whnf)) | ((with_reducible apply ta_e_j); (conv => whnf)) | ((with_reducible apply ta_e_i); (conv => whnf)) | ((with_reducible apply ta_e_u); (conv => whnf)) | ((with_reducible apply ta_e_w); (conv => whnf)) | ((with_reducible apply ta_e_a); (conv => whnf)) | ((with_reducible apply ta_f_f); (conv => whnf)) | ((with_reducible apply ta_f_e); (conv => whnf)) | ((with_reducible apply ta_f_j); (conv => whnf)) | ((with_reducible apply ta_f_i); (conv => whnf)) | ((with_reducible apply ta_f_u); (conv => whnf)) | ((with_reducible apply ta_f_w); (conv => whnf)) | ((with_reducible apply ta_f_a); (conv => whnf)) | ((with_reducible apply ta_j_f); (conv => whnf)) | ((with_reducible apply ta_j_e); (conv => whnf)) | ((with_reducible apply ta_j_j); (conv => whnf)) | ((with_reducible apply ta_j_i); (conv => whnf)) | ((with_reducible apply ta_j_u); (conv => whnf)) | ((with_reducible apply ta_j_w); (conv => whnf)) | ((with_reducible apply ta_j_a); (conv => whnf)) | ((with_reducible apply eq_ee); (conv => whnf)) | ((with_reducible apply eq_fe); (conv => whnf)) | ((with_reducible apply eq_je); (conv => whnf)) | (refine Vc.stp ?_; intros; (conv => whnf)) | (refine Vc.spl ?_ ?_ <;> (intro _; (conv => whnf))))))
  exact ⟨rfl, hx1⟩
theorem easf_hit (g : Option Addr) {H : Heap} {tb : Nat} {old : Value} (hg : Glb H) (ht : Blk H tb #[old] 39) : CallH Tryd.prog 46 [.iface 39 (.pointer g), .iface 98 (.pointer (some ⟨tb, 0, none⟩))] H fun u H' => u = .bool true ∧ Blk H' tb #[.pointer g] 39 ∧ But tb H H' := by
  have hlt := ht.lt
  have get := hg.et
  refine Vc.CallH.body Tryd.func46 Tryd.call46 rfl (by decide +kernel) rfl ?_
  ((conv => whnf); repeat (any_goals (first | ((refine (valueOf_f ⟨tb, 0, none⟩ _).mono ?_; rintro _ H1 ⟨rfl, hb1, hs1, hx1⟩; have hz1 := hx1.size); (conv => whnf)) | ((refine (typeV_f _ _).mono ?_; rintro _ _ ⟨rfl, rfl⟩); (conv => whnf)) | ((refine kind_f _ ?_); (conv => whnf)) | ((refine kindE_f _ ?_); (conv => whnf)) | ((refine elemT_f _ ?_); (conv => whnf)) | ((refine implements_f _ ?_); (conv => whnf)) | ((refine (isNil_f _ ⟨tb, 0, none⟩ _ (Go.Vc.hcell_keep (show hcell H1 ⟨H.size, 0, none⟩ = some (.pointer (some ⟨tb, 0, none⟩)) by rw [hb1.cell]; rfl) (show Ext H1 _ by (repeat (first | assumption | exact Vc.Ext.refl _ | ((with_reducible apply Vc.Ext.trans); (case k => assumption)) | ((with_reducible apply Vc.Ext.but); (case k => assumption); (case hb => omega))))) id)).mono ?_; rintro _ _ ⟨rfl, rfl⟩); (conv => whnf)) | (refine Vc.stp ?_; intros; (conv => whnf)) | (refine Vc.spl ?_ ?_ <;> (intro _; (conv => whnf))))))
  rename_i H2 hs2 hb2 hx2 H3 hs3 hb3 hx3
  have k13 : Ext H1 H3 := by (repeat (first | assumption | exact Vc.Ext.refl _ | ((with_reducible apply Vc.Ext.trans); (case k => assumption)) | ((with_reducible apply Vc.Ext.but); (case k => assumption); (case hb => omega))))
  have k3 : Ext H H3 := hx1.trans k13
  refine (asf_hit g H3 tb ⟨H.size, 0, none⟩ old ⟨hcell_keep (show hcell H1 ⟨H.size, 0, none⟩ = some (.pointer (some ⟨tb, 0, none⟩)) by rw [hb1.cell]; rfl) k13 id, ht.ext k3, by show H.size ≠ tb; omega⟩).mono ?_
  rintro _ H4 ⟨rfl, hb4, hx4⟩
  ((conv => whnf); repeat (any_goals (first | (refine Vc.stp ?_; intros; (conv => whnf)) | (refine Vc.spl ?_ ?_ <;> (intro _; (conv => whnf))))))
  exact ⟨rfl, hb4, Only.trans k3.only hx4 fun _ _ h => h⟩
theorem easf_num (n : Int) {H : Heap} {tb : Nat} {old : Value} (hg : Glb H) (ht : Blk H tb #[old] 39) : CallH Tryd.prog 46 [.iface 25 (.int .i64 n), .iface 98 (.pointer (some ⟨tb, 0, none⟩))] H fun u H' => u = .bool false ∧ Ext H H' := by
  have hlt := ht.lt
  have get := hg.et
  refine Vc.CallH.body Tryd.func46 Tryd.call46 rfl (by decide +kernel) rfl ?_
  ((conv => whnf); repeat (any_goals (first | ((refine (valueOf_f ⟨tb, 0, none⟩ _).mono ?_; rintro _ H1 ⟨rfl, hb1, hs1, hx1⟩; have hz1 := hx1.size); (conv => whnf)) | ((refine (typeV_f _ _).mono ?_; rintro _ _ ⟨rfl, rfl⟩); (conv => whnf)) | ((refine kind_f _ ?_); (conv => whnf)) | ((refine kindE_f _ ?_); (conv => whnf)) | ((refine elemT_f _ ?_); (conv => whnf)) | ((refine implements_f _ ?_); (conv => whnf)) | ((refine (isNil_f _ ⟨tb, 0, none⟩ _ (Go.Vc.hcell_keep (show hcell H1 ⟨H.size, 0, none⟩ = some (.pointer (some ⟨tb, 0, none⟩)) by rw [hb1.cell]; rfl) (show Ext H1 _ by (repeat (first | assumption | exact Vc.Ext.refl _ | ((with_reducible apply Vc.Ext.trans); (case k => assumption)) | ((with_reducible apply Vc.Ext.but); (case k => assumption); (case hb => omega))))) id)).mono ?_; rintro _ _ ⟨rfl, rfl⟩); (conv => whnf)) | (refine Vc.stp ?_; intros; (conv => whnf)) | (refine Vc.spl ?_ ?_ <;> (intro _; (conv => whnf))))))
  rename_i H2 hs2 hb2 hx2 H3 hs3 hb3 hx3
  have k13 : Ext H1 H3 := by (repeat (first | assumption | exact Vc.Ext.refl _ | ((with_reducible apply Vc.Ext.trans); (case k => assumption)) | ((with_reducible apply Vc.Ext.but); (case k => assumption); (case hb => omega))))
  have k3 : Ext H H3 := hx1.trans k13
  refine (asf_num n H3 tb ⟨H.size, 0, none⟩ old ⟨hcell_keep (show hcell H1 ⟨H.size, 0, none⟩ = some (.pointer (some ⟨tb, 0, none⟩)) by rw [hb1.cell]; rfl) k13 id, ht.ext k3, by show H.size ≠ tb; omega⟩).mono ?_
  rintro _ H4 ⟨rfl, hx4⟩
  ((conv => whnf); repeat (any_goals (first | (refine Vc.stp ?_; intros; (conv => whnf)) | (refine Vc.spl ?_ ?_ <;> (intro _; (conv => whnf))))))
  exact ⟨rfl, k3.trans hx4⟩
/-- the outermost fault -/
theorem found_hit (g : Addr) {H : Heap} (hg : Glb H) : CallH Tryd.prog 22 [.iface 39 (.pointer (some g))] H fun u H' => u = .tuple #[.pointer (some g), .bool true] ∧ Ext H H' := by
  refine Vc.CallH.body Tryd.func22 Tryd.call22 rfl (by decide +kernel) rfl ?_
  ((conv => whnf); repeat (any_goals (first | (refine Vc.stp ?_; intros; (conv => whnf)) | (refine Vc.spl ?_ ?_ <;> (intro _; (conv => whnf))))))
  rename_i H1 hs1 hb1 hx1
  refine (easf_hit (some g) (hg.ext hx1) hb1).mono ?_
  rintro _ H2 ⟨rfl, hb2, hx2⟩
  ((conv => whnf); repeat (any_goals (first | (refine Vc.stp ?_; intros; (conv => whnf)) | (refine Vc.spl ?_ ?_ <;> (intro _; (conv => whnf))))))
  all_goals exact ⟨rfl, hx1.but hx2 (Nat.le_refl _)⟩
theorem found_num (n : Int) {H : Heap} (hg : Glb H) : CallH Tryd.prog 22 [.iface 25 (.int .i64 n)] H fun u H' => u = .tuple #[.pointer none, .bool false] ∧ Ext H H' := by
  refine Vc.CallH.body Tryd.func22 Tryd.call22 rfl (by decide +kernel) rfl ?_
  ((conv => whnf); repeat (any_goals (first | (refine Vc.stp ?_; intros; (conv => whnf)) | (refine Vc.spl ?_ ?_ <;> (intro _; (conv => whnf))))))
  rename_i H1 hs1 hb1 hx1
  refine (easf_num n (hg.ext hx1) hb1).mono ?_
  rintro _ H2 ⟨rfl, hx2⟩
  ((conv => whnf); repeat (any_goals (first | (refine Vc.stp ?_; intros; (conv => whnf)) | (refine Vc.spl ?_ ?_ <;> (intro _; (conv => whnf))))))
  all_goals exact ⟨rfl, hx1.trans hx2⟩
end Go.Proofs.YtlgcfcdmldlefaaDoor
