import Derived.Test.YtlgcfcdmldlefaaDoorVm
set_option linter.unusedVariables false
set_option linter.unusedSimpArgs false
set_option maxRecDepth 100000
/- errors.As finds the outermost fault, with its op and its name, and errors.Is the number. -/
namespace Go.Proofs.YtlgcfcdmldlefaaDoor
open Go Go.Vc Go.ChangeShapes Go.WideShapes Go.ChangeAt Go.RowKit Go.Sort
theorem ArithH.succ {code : Int} (hI : I64 code) {K : Int → Prop} (h : ∀ m, m ≠ code → K m) : Go.Vc.ArithH .i64 (code + 1) K := by
  obtain ⟨h1, h2⟩ := hI
  by_cases hc : code = 9223372036854775807
  · subst hc
    exact ⟨h _ (by decide)⟩
  · exact Go.Vc.ArithH.i64 ⟨by omega, by omega⟩ (h _ (by omega))
theorem upTo_all {l : Chain} : upTo l l.length = l.reverse := by unfold upTo; rw [List.take_length]
structure ASt where
  i : Nat
  v : Value
set_option maxHeartbeats 4000000 in
theorem as_law (l : Chain) (a : Option Addr) (n cap : Nat) (code : Int) (H : Heap) (hg : Glb H) (hr : Row H a (lyV l)) (hn : l.length = n) (hm : n ≤ 9223372036854775807) (hI : I64 code) : CallH Tryd.prog 4 [.slice a n cap, .int .i64 code] H fun v H' => v = .bool true ∧ Ext H H' := by
  have hli := fun H' (k : Ext H H') => light_any l a n cap H' (hr.ext k) hn hm
  refine Vc.CallH.body Tryd.func4 Tryd.call4 rfl (by decide +kernel) rfl ?_
  cases hlb : lightB l with
  | false =>
    rw [hlb] at hli
    ((conv => whnf); repeat (any_goals (first | ((refine (known6_any hg).mono ?_; rintro _ H1 ⟨rfl, hx1⟩; have hz1 := hx1.size); (conv => whnf)) | ((refine (hli _ (by (repeat (first | assumption | exact Vc.Ext.refl _ | ((with_reducible apply Vc.Ext.trans); (case k => assumption)) | ((with_reducible apply Vc.Ext.but); (case k => assumption); (case hb => omega)))))).mono ?_; rintro _ _ ⟨rfl, rfl⟩); (conv => whnf)) | (refine Vc.stp ?_; intros; (conv => whnf)) | (refine Vc.spl ?_ ?_ <;> (intro _; (conv => whnf))))))
    exact ⟨rfl, hx1⟩
  | true =>
    rw [hlb] at hli
    obtain ⟨h12, h30⟩ := light_all hlb
    by_cases h0 : n = 0
    · subst h0
      ((conv => whnf); repeat (any_goals (first | ((refine (known6_any hg).mono ?_; rintro _ H1 ⟨rfl, hx1⟩; have hz1 := hx1.size); (conv => whnf)) | ((refine (hli _ (by (repeat (first | assumption | exact Vc.Ext.refl _ | ((with_reducible apply Vc.Ext.trans); (case k => assumption)) | ((with_reducible apply Vc.Ext.but); (case k => assumption); (case hb => omega)))))).mono ?_; rintro _ _ ⟨rfl, rfl⟩); (conv => whnf)) | (refine Vc.stp ?_; intros; (conv => whnf)) | (refine Vc.spl ?_ ?_ <;> (intro _; (conv => whnf))))))
      all_goals exact ⟨rfl, hx1⟩
    by_cases hc0 : code = 0
    · subst hc0
      ((conv => whnf); repeat (any_goals (first | ((refine (known6_any hg).mono ?_; rintro _ H1 ⟨rfl, hx1⟩; have hz1 := hx1.size); (conv => whnf)) | ((refine (hli _ (by (repeat (first | assumption | exact Vc.Ext.refl _ | ((with_reducible apply Vc.Ext.trans); (case k => assumption)) | ((with_reducible apply Vc.Ext.but); (case k => assumption); (case hb => omega)))))).mono ?_; rintro _ _ ⟨rfl, rfl⟩); (conv => whnf)) | (refine Vc.stp ?_; intros; (conv => whnf)) | (refine Vc.spl ?_ ?_ <;> (intro _; (conv => whnf))))))
      all_goals exact ⟨rfl, hx1⟩
    have hcn : (code == 0) = false := by rw [beq_eq_false_iff_ne]; exact hc0
    have hnb : ∀ ws, noneB ws (.num code) = false := fun ws => by cases ws with | nil => exact hcn | cons x ws => rfl
    have hok : BasOk (.num code) := hI
    ((conv => whnf); repeat (any_goals (first | ((refine (known6_any hg).mono ?_; rintro _ H1 ⟨rfl, hx1⟩; have hz1 := hx1.size); (conv => whnf)) | ((refine (hli _ (by (repeat (first | assumption | exact Vc.Ext.refl _ | ((with_reducible apply Vc.Ext.trans); (case k => assumption)) | ((with_reducible apply Vc.Ext.but); (case k => assumption); (case hb => omega)))))).mono ?_; rintro _ _ ⟨rfl, rfl⟩); (conv => whnf)) | (refine Vc.stp ?_; intros; (conv => whnf)) | (refine Vc.spl ?_ ?_ <;> (intro _; (conv => whnf))))))
    refine LoopH.intro (fun (x : ASt) => [(6, .int .i64 x.i), (5, x.v)]) (fun x H' => x.i ≤ n ∧ Ext H H' ∧ ErV H' (upTo l x.i) (.num code) x.v) (fun x => n - x.i) ⟨0, .iface 25 (.int .i64 code)⟩ ⟨rfl, rfl, trivial⟩ ⟨Nat.zero_le _, hx1, rfl⟩ ?_
    rintro ⟨i, v⟩ H2 ⟨hi, hx2, hv⟩
    dsimp only at hi hv ⊢
    have hz2 := hx2.size
    have hrow := hr.ext hx2
    by_cases hlt : i < n
    · obtain ⟨x, hx⟩ : ∃ x, l[i]? = some x := ⟨_, List.getElem?_eq_getElem (by omega)⟩
      have hwrap := fun H' (k : Ext H2 H') => wrap_some x.1 x.2 (hnb (upTo l i)) (ErV.ext hv k)
      ((conv => whnf); repeat (any_goals (first | ((refine IdxA.ly hrow hn i x rfl hx ?_; intro _ _ _ _); (conv => whnf)) | ((refine (hwrap _ (by (repeat (first | assumption | exact Vc.Ext.refl _ | ((with_reducible apply Vc.Ext.trans); (case k => assumption)) | ((with_reducible apply Vc.Ext.but); (case k => assumption); (case hb => omega)))))).mono ?_; rintro v3 H3 ⟨hv3, hx3⟩; have hz3 := hx3.size); (conv => whnf)) | (refine Vc.stp ?_; intros; (conv => whnf)) | (refine Vc.spl ?_ ?_ <;> (intro _; (conv => whnf))))))
      refine ⟨⟨i + 1, v3⟩, ⟨rfl, rfl, trivial⟩, ⟨by show i + 1 ≤ _; omega, hx2.trans hx3, ?_⟩, by show n - (i + 1) < n - i; omega⟩
      show ErV H3 (upTo l (i + 1)) _ v3
      rw [upTo_succ hx]; exact hv3
    · obtain rfl : i = n := by omega
      ((conv => whnf); repeat (any_goals (first | (refine Vc.stp ?_; intros; (conv => whnf)) | (refine Vc.spl ?_ ?_ <;> (intro _; (conv => whnf))))))
      refine LoopH.intro (fun (x : ASt) => [(7, .int .i64 ((x.i : Int) - 1)), (5, x.v)]) (fun x H' => x.i ≤ i ∧ Ext H H' ∧ ErV H' (upTo l x.i) (.num code) x.v) (fun x => x.i) ⟨i, v⟩ ⟨rfl, rfl, trivial⟩ ⟨Nat.le_refl _, hx2, hv⟩ ?_
      rintro ⟨j, v⟩ H3 ⟨hj, hx3, hv⟩
      dsimp only at hj hv ⊢
      have hz3 := hx3.size
      have hrow := hr.ext hx3
      have hg3 := hg.ext hx3
      have hv0 := hv
      have hia := fun H' (k : Ext H3 H') => is6_any (m := code) hok (ErV.ext hv0 k)
      have hib := fun H' m (k : Ext H3 H') => is6_any (m := m) hok (ErV.ext hv0 k)
      rw [show isB code (.num code) = true from beq_self_eq_true code] at hia
      by_cases hj0 : j = 0
      · subst hj0
        have hv : NumV code v := hv
        obtain rfl := hv
        ((conv => whnf); repeat (any_goals (first | ((refine (found_num code hg3).mono ?_; rintro _ H4 ⟨rfl, hx4⟩; have hz4 := hx4.size); (conv => whnf)) | ((refine (hia _ (by (repeat (first | assumption | exact Vc.Ext.refl _ | ((with_reducible apply Vc.Ext.trans); (case k => assumption)) | ((with_reducible apply Vc.Ext.but); (case k => assumption); (case hb => omega)))))).mono ?_; rintro _ H5 ⟨rfl, hx5⟩; have hz5 := hx5.size); (conv => whnf)) | (refine Vc.stp ?_; intros; (conv => whnf)) | (refine Vc.spl ?_ ?_ <;> (intro _; (conv => whnf))))))
        exact ⟨rfl, hx3.trans (hx4.trans hx5)⟩
      · obtain ⟨k, rfl⟩ : ∃ k, j = k + 1 := ⟨j - 1, by omega⟩
        obtain ⟨x, hx⟩ : ∃ x, l[k]? = some x := ⟨_, List.getElem?_eq_getElem (by omega)⟩
        rw [upTo_succ hx] at hv
        obtain ⟨g, v', rfl, hb, hv'⟩ := hv
        have hne : ∀ m, m ≠ code → isB m (.num code) = false := fun m hm => beq_eq_false_iff_ne.2 fun h => hm h.symm
        ((conv => whnf); repeat (any_goals (first | ((refine IdxA.ly hrow hn k x (by omega) hx ?_; intro _ _ _ _); (conv => whnf)) | ((refine (found_hit _ hg3).mono ?_; rintro _ H4 ⟨rfl, hx4⟩; have hz4 := hx4.size); (conv => whnf)) | ((refine ArithH.succ hI ?_; intro m hm); (conv => whnf)) | ((refine (hia _ (by (repeat (first | assumption | exact Vc.Ext.refl _ | ((with_reducible apply Vc.Ext.trans); (case k => assumption)) | ((with_reducible apply Vc.Ext.but); (case k => assumption); (case hb => omega)))))).mono ?_; rintro _ H5 ⟨rfl, hx5⟩; have hz5 := hx5.size); (conv => whnf)) | ((refine (hib _ m (by (repeat (first | assumption | exact Vc.Ext.refl _ | ((with_reducible apply Vc.Ext.trans); (case k => assumption)) | ((with_reducible apply Vc.Ext.but); (case k => assumption); (case hb => omega)))))).mono ?_; rw [hne m hm]; rintro _ H6 ⟨rfl, hx6⟩; have hz6 := hx6.size); (conv => whnf)) | ((refine (unwrapF_any (hb.ext (by (repeat (first | assumption | exact Vc.Ext.refl _ | ((with_reducible apply Vc.Ext.trans); (case k => assumption)) | ((with_reducible apply Vc.Ext.but); (case k => assumption); (case hb => omega))))))).mono ?_; rintro _ _ ⟨rfl, rfl⟩); (conv => whnf)) | (refine Vc.stp ?_; intros; (conv => whnf)) | (refine Vc.spl ?_ ?_ <;> (intro _; (conv => whnf))))))
        rename_i v'
        refine ⟨⟨k, v'⟩, ⟨?_, rfl, trivial⟩, ⟨by show k ≤ _; omega, by (repeat (first | assumption | exact Vc.Ext.refl _ | ((with_reducible apply Vc.Ext.trans); (case k => assumption)) | ((with_reducible apply Vc.Ext.but); (case k => assumption); (case hb => omega)))), ?_⟩, Nat.lt_succ_self k⟩
        · show Value.int .i64 ((↑(k + 1) : Int) - 1 - 1) = Value.int .i64 ((k : Int) - 1)
          congr 1; omega
        · exact WrV.mono (by (repeat (first | assumption | exact Vc.Ext.refl _ | ((with_reducible apply Vc.Ext.trans); (case k => assumption)) | ((with_reducible apply Vc.Ext.but); (case k => assumption); (case hb => omega))))) (fun v h => BasV.ext (b := .num code) (by (repeat (first | assumption | exact Vc.Ext.refl _ | ((with_reducible apply Vc.Ext.trans); (case k => assumption)) | ((with_reducible apply Vc.Ext.but); (case k => assumption); (case hb => omega))))) v h) _ _ hv'
namespace asL
set_option maxRecDepth 100000 in
theorem lifted (os : Os) (started : os.Started) (H : Type) (enc : TypeId × Value → H) :
    ReturnsInHanded {} Tryd.checked os 4 .any (fun w args => (Rows.faultAsSpec.pre enc Tryd.prog Tryd.f4 Rows.faultAsRow.domain false w args ∧ laidMetH Tryd.prog Rows.faultAsRow.laid w) ∧ sizedMet enc Tryd.prog Tryd.f4 (OpenSpec.ofChange Rows.faultAsSpec) false w args)
      (Rows.faultAsSpec.post enc Tryd.prog Tryd.f4 false true false false) := by
  refine returnsInHanded_of_change_and (C := Tryd.checked) (X := fun w _ => laidMetH Tryd.prog Rows.faultAsRow.laid w) (fun _ _ _ hh h => h.of_heap hh) own started (by kernel_rfl) Tryd.func4
    (ChangeSpec.witness_shaped (enc := enc) (C := Tryd.checked) (os := os) (X := fun w _ => laidMetH Tryd.prog Rows.faultAsRow.laid w) false (witW os) #[.slice none 0 0, .int .i64 0] 8 (witW_os os)
      (World.shaped_of_ZipB (by kernel_rfl) (by kernel_rfl)) (by kernel_rfl) (by kernel_rfl) (by kernel_rfl)
      (witW_met os _)) ?_
  intro W base args ds gs before hval0 hW hc _ hL _
  have hval : ∀ (j : Nat) t v, Tryd.f4.params[j]? = some t → args[j]? = some v → Value.okWide Tryd.prog W .any base t v := hval0
  have hW' := hW
  obtain ⟨p, q, hA, hV, _, _, _⟩ := hW
  rw [Tryd.params4] at hA hval
  obtain ⟨v0, v1, d0, d1, p0, p1, rfl, rfl, rfl, h0, h1⟩ := trodAll_two hA
  obtain ⟨n1, rfl, rfl, rfl, w1⟩ := open_int rfl (hval 1 _ v1 rfl rfl) h1
  obtain ⟨fl0, h0⟩ := h0
  obtain ⟨a, n, cap, l, hcs, hn, hc1, hm, hr⟩ := read_layers (P := Tryd.prog) rfl rfl (by kernel_rfl) rfl rfl (by kernel_rfl) (by kernel_rfl) rfl rfl h0
  obtain rfl := arg_slice rfl (hval 0 _ v0 rfl rfl) hcs
  exact law_calls (tb := 4) rfl (as_law l a n cap n1 W.heap (glb_of_laid hL) hr hn (by have := hm; unfold maxLen at this; omega) (i64_of w1)) hW' rfl (by obtain ⟨rfl, rfl⟩ := trodVars_none hV; rfl) rfl rfl laid_out (by kernel_rfl)
theorem over : Rows.FaultAsSaid :=
  OpenClaim.holds_of_wide 4 Tryd.f4 rfl rfl rfl rfl rfl rfl rfl ⟨rfl, rfl, rfl, rfl, rfl⟩ rfl rfl rfl rfl rfl (by kernel_rfl) Tryd.func4 (by kernel_rfl)
    (of_decide_eq_true (by kernel_rfl)) (by unfold Func.isWrapper; first | (rw [if_pos (by decide +kernel)]; kernel_rfl) | (rw [if_neg (by decide +kernel)]; exact ⟨rfl, rfl⟩))
    (fun os started H enc _ => lifted os started H enc)
end asL
theorem asL_holds : Rows.FaultAsCardSaid :=
  Claim7.holds_tied_plain_at .later [] [.data, .data, .data, .handle] true (true, "ec022585ead264ebfa090ea5a5077dc4c409f371d29c801cbacd222ad9e17bdd") true asL.over (fun _ h => by cases h) (by kernel_rfl) (fun _ h => by cases h) faultAs_row_tie rfl ⟨rfl, rfl⟩ (by kernel_rfl) rfl
    (fun f fn hf hfn => by
      obtain rfl : f = 4 := Option.some.inj ((show Tryd.prog.funcNamed Tryd.f4.name = some 4 by kernel_rfl).symm.trans hf) |>.symm
      obtain rfl : fn = Tryd.f4 := (Option.some.inj (Tryd.func4.symm.trans hfn)).symm
      exact ⟨by kernel_rfl, fun j t ht => by
        rw [Tryd.params4] at ht
        have hm : t ∈ [22, 3] := by simpa using Array.mem_of_getElem? ht
        have hall : ([22, 3].all fun u => !Tryd.prog.wantsStandIn u) = true := by kernel_rfl
        exact (show Tryd.prog.wantsStandIn t = false by simpa using List.all_eq_true.1 hall t hm)⟩)
    (by kernel_rfl)

end Go.Proofs.YtlgcfcdmldlefaaDoor
