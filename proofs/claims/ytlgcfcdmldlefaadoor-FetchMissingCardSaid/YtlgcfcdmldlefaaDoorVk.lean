import Derived.Test.YtlgcfcdmldlefaaDoorVj
set_option linter.unusedVariables false
set_option linter.unusedSimpArgs false
set_option maxRecDepth 100000
/- Errors, the statements: wrapped any number of times. -/
namespace Go.Proofs.YtlgcfcdmldlefaaDoor
open Go Go.Vc Go.RowKit Go.Sort
/-- the first i layers, the outermost first -/
def upTo (l : Chain) (i : Nat) : Chain := (l.take i).reverse
theorem upTo_succ {l : Chain} {i : Nat} {x : Bs × Bs} (h : l[i]? = some x) : upTo l (i + 1) = x :: upTo l i := by
  unfold upTo
  rw [List.take_add_one, h]; simp
theorem upTo_len (l : Chain) (i : Nat) (h : i ≤ l.length) : (upTo l i).length = i := by unfold upTo; rw [List.length_reverse, List.length_take]; omega
theorem light_all {l : Chain} (h : lightB l = true) : l.length ≤ 12 ∧ ∀ x ∈ l, x.1.length ≤ 30 ∧ x.2.length ≤ 30 := by
  unfold lightB at h
  simp only [Bool.and_eq_true, decide_eq_true_eq, List.all_eq_true] at h
  exact ⟨h.1, h.2⟩
theorem upTo_small {l : Chain} (h : lightB l = true) (i : Nat) : Small (upTo l i) := by
  obtain ⟨h1, h2⟩ := light_all h
  refine ⟨by unfold upTo; rw [List.length_reverse, List.length_take]; omega, fun x hx => ?_⟩
  unfold upTo at hx
  have := h2 x (List.take_subset _ _ (List.mem_reverse.1 hx))
  omega
structure LSt where
  i : Nat
  v : Value
  a : Option Addr
  cap : Nat
set_option maxHeartbeats 4000000 in
theorem wraps_law (l : Chain) (a : Option Addr) (n cap : Nat) (code : Int) (H : Heap) (hg : Glb H) (hr : Row H a (lyV l)) (hn : l.length = n) (hm : n ≤ 9223372036854775807) (hI : I64 code) : CallH Tryd.prog 3 [.slice a n cap, .int .i64 code] H fun v H' => v = .bool true ∧ Ext H H' := by
  have hli := fun H' (k : Ext H H') => light_any l a n cap H' (hr.ext k) hn hm
  refine Vc.CallH.body Tryd.func3 Tryd.call3 rfl (by decide +kernel) rfl ?_
  cases hlb : lightB l with
  | false =>
    rw [hlb] at hli
    ((conv => whnf); repeat (any_goals (first | ((refine (known6_any hg).mono ?_; rintro _ H1 ⟨rfl, hx1⟩; have hz1 := hx1.size); (conv => whnf)) | ((refine (hli _ (by (repeat (first | assumption | exact Vc.Ext.refl _ | ((with_reducible apply Vc.Ext.trans); (case k => assumption)) | ((with_reducible apply Vc.Ext.but); (case k => assumption); (case hb => omega)))))).mono ?_; rintro _ _ ⟨rfl, rfl⟩); (conv => whnf)) | (refine Vc.stp ?_; intros; (conv => whnf)) | (refine Vc.spl ?_ ?_ <;> (intro _; (conv => whnf))))))
    exact ⟨rfl, hx1⟩
  | true =>
    rw [hlb] at hli
    obtain ⟨h12, h30⟩ := light_all hlb
    have hdl := itoa_len code hI
    have s4 : (⟨#[101, 114, 114, 32]⟩ : ByteArray).size = 4 := rfl
    have sit : (mkS (Lib.itoa code)).size = (Lib.itoa code).length := rfl
    ((conv => whnf); repeat (any_goals (first | ((refine (known6_any hg).mono ?_; rintro _ H1 ⟨rfl, hx1⟩; have hz1 := hx1.size); (conv => whnf)) | ((refine (hli _ (by (repeat (first | assumption | exact Vc.Ext.refl _ | ((with_reducible apply Vc.Ext.trans); (case k => assumption)) | ((with_reducible apply Vc.Ext.but); (case k => assumption); (case hb => omega)))))).mono ?_; rintro _ _ ⟨rfl, rfl⟩); (conv => whnf)) | ((refine (dec_any code hI _).mono ?_; rintro _ H2 ⟨rfl, hx2⟩; have hz2 := hx2.size); (conv => whnf)) | (refine Vc.stp ?_; intros; (conv => whnf)) | (refine Vc.spl ?_ ?_ <;> (intro _; (conv => whnf))))))
    have hx12 : Ext H H2 := hx1.trans hx2
    have hel := errS_len code hI
    have s1 : (⟨#[32]⟩ : ByteArray).size = 1 := rfl
    have s2 : (⟨#[58, 32]⟩ : ByteArray).size = 2 := rfl
    by_cases hc0 : code = 0
    · subst hc0
      refine LoopH.intro (fun (x : LSt) => [(8, .int .i64 x.i), (5, x.v), (6, .string (mkS (wrS (upTo l x.i) (errS 0)))), (7, .slice x.a x.i x.cap)]) (fun x H' => x.i ≤ n ∧ Ext H H' ∧ (if 0 < x.i then x.v = .nilIface else x.v = .iface 25 (.int .i64 0)) ∧ x.i ≤ x.cap ∧ Row H' x.a (strs ((upTo l x.i).map (·.1)))) (fun x => n - x.i) ⟨0, .iface 25 (.int .i64 0), none, 0⟩ ⟨rfl, rfl, congrArg Value.string (mkS_app [101, 114, 114, 32] _), rfl, trivial⟩ ⟨Nat.zero_le _, hx12, rfl, Nat.le_refl _, Row.nil _ _⟩ ?_
      rintro ⟨i, v, a1, c1⟩ H2 ⟨hi, hx2, hv, hc1, hro⟩
      dsimp only at hi hv hc1 hro ⊢
      have hz2 := hx2.size
      have hrow := hr.ext hx2
      have hwl := wrS_len (upTo l i) (errS 0) (upTo_small hlb i)
      rw [upTo_len l i (by omega)] at hwl
      have hWl : ((upTo l i).map (·.1)).length = i := by rw [List.length_map, upTo_len l i (by omega)]
      by_cases hlt : i < n
      · obtain ⟨x, hx⟩ : ∃ x, l[i]? = some x := ⟨_, List.getElem?_eq_getElem (by omega)⟩
        have hxl := h30 x (List.mem_of_getElem? hx)
        have hwrap : ∀ H' (k : Ext H2 H'), CallH Tryd.prog 16 [.string (mkS x.1), .string (mkS x.2), v] H' fun u H'' => u = .nilIface ∧ Ext H' H'' := by
          intro H' k
          by_cases h0 : 0 < i
          · rw [if_pos h0] at hv; subst hv
            exact (wrap_nil _ _ _).mono fun u H'' ⟨h1, h2⟩ => ⟨h1, h2 ▸ Ext.refl _⟩
          · rw [if_neg h0] at hv
            exact wrap_none x.1 x.2 (ws := []) (b := .num 0) rfl hv
        have s5 : (mkS x.1).size = x.1.length := rfl
        have s6 : (mkS x.2).size = x.2.length := rfl
        have s7 : (mkS (wrS (upTo l i) (errS 0))).size = (wrS (upTo l i) (errS 0)).length := rfl
        ((conv => whnf); repeat (any_goals (first | ((refine IdxA.ly hrow hn i x rfl hx ?_; intro _ _ _ _); (conv => whnf)) | ((refine (hwrap _ (by (repeat (first | assumption | exact Vc.Ext.refl _ | ((with_reducible apply Vc.Ext.trans); (case k => assumption)) | ((with_reducible apply Vc.Ext.but); (case k => assumption); (case hb => omega)))))).mono ?_; rintro v3 H3 ⟨hv3, hx3⟩; have hz3 := hx3.size); (conv => whnf)) | ((refine NeedH.mk ⟨by (simp only [ByteArray.size_append]; omega), ?_⟩); (conv => whnf)) | (refine Vc.stp ?_; intros; (conv => whnf)) | (refine Vc.spl ?_ ?_ <;> (intro _; (conv => whnf))))))
        rename_i H4 hs4 hb4 hx4
        have ho4 : Own H4 H3.size 9 1 (some ⟨H3.size, 0, none⟩) 1 1 [.string (mkS x.1)] := own_lit (xs := [.string (mkS x.1)]) hb4 (Nat.le_refl _) rfl (Nat.le_of_ble_eq_true rfl)
        refine NextH.append (i := Tryd.t9) (z := .string ⟨#[]⟩) (base := H3.size) rfl ⟨_, rfl, fun _ h => by cases h⟩ rfl rfl rfl ho4 (Src.row (hro.ext (hx3.trans hx4)) (by rw [strs_length, hWl]; exact (Nat.mul_one _).symm) (strs_plain _)) (by unfold maxLen; omega) (by show (1 + i) * 16 ≤ _; omega) hx4.size ?_
        intro a5 c5 H5 ho5 hw5 _
        ((conv => whnf); repeat (any_goals (first | (refine Vc.stp ?_; intros; (conv => whnf)) | (refine Vc.spl ?_ ?_ <;> (intro _; (conv => whnf))))))
        have hx5 : Ext H3 H5 := hx4.wr ho4 (Nat.le_refl _) hw5
        refine ⟨⟨i + 1, v3, a5, c5⟩, ⟨rfl, rfl, ?_, by show Value.slice a5 (1 + i) c5 = Value.slice a5 (i + 1) c5; rw [Nat.add_comm], trivial⟩, ⟨by show i + 1 ≤ _; omega, hx2.trans (hx3.trans hx5), ?_, ?_, ?_⟩, by show n - (i + 1) < n - i; omega⟩
        · show Value.string ((((mkS x.1 ++ mkS [32]) ++ mkS x.2) ++ mkS [58, 32]) ++ mkS (wrS (upTo l i) (errS 0))) = Value.string (mkS (wrS (upTo l (i + 1)) (errS 0)))
          rw [upTo_succ hx]; simp only [mkS_app, wrS, List.append_assoc]; rfl
        · rw [if_pos (show 0 < i + 1 by omega)]; exact hv3
        · have := ho5.cap_le; show i + 1 ≤ c5; omega
        · show Row H5 a5 (strs ((upTo l (i + 1)).map (·.1)))
          rw [upTo_succ hx]; exact ho5.row
      · obtain rfl : i = n := by omega
        by_cases h0 : 0 < i
        · rw [if_pos h0] at hv
          subst hv
          ((conv => whnf); repeat (any_goals (first | ((refine (code_nil _).mono ?_; rintro _ H3 ⟨rfl, hx3⟩; have hz3 := hx3.size); (conv => whnf)) | ((refine (fis_nil _).mono ?_; rintro _ _ ⟨rfl, rfl⟩); (conv => whnf)) | ((refine (ops_nil _).mono ?_; rintro _ H5 ⟨rfl, hx5⟩; have hz5 := hx5.size); (conv => whnf)) | (refine Vc.stp ?_; intros; (conv => whnf)) | (refine Vc.spl ?_ ?_ <;> (intro _; (conv => whnf))))))
          exact ⟨rfl, hx2.trans (by (repeat (first | assumption | exact Vc.Ext.refl _ | ((with_reducible apply Vc.Ext.trans); (case k => assumption)) | ((with_reducible apply Vc.Ext.but); (case k => assumption); (case hb => omega)))))⟩
        · rw [if_neg h0] at hv
          obtain rfl : i = 0 := by omega
          have hv : ErV H2 (upTo l 0) (.num 0) v := hv
          obtain ⟨ty, pl, rfl⟩ := ErV.iface hv
          have hg2 := hg.ext hx2
          obtain ⟨W, hW⟩ : ∃ W, (upTo l 0).map (·.1) = W := ⟨_, rfl⟩
          have hok : BasOk (.num 0) := hI
          have f1 := fun H' (k : Ext H2 H') => text_err (hg2.ext k) (upTo_small hlb 0) hok (ErV.ext hv k)
          have f2 := fun H' (k : Ext H2 H') => code_any (hg2.ext k) (upTo_small hlb 0) hok (ErV.ext hv k)
          have f3 := fun H' (k : Ext H2 H') => fis_any (m := 0) hok (ErV.ext hv k)
          have f4 := f3
          have f5 := fun H' (k : Ext H2 H') => ops_any (hg2.ext k) (upTo_small hlb 0) hok (ErV.ext hv k)
          rw [show basT (.num 0) = errS 0 from rfl] at f1
          rw [show codeB (.num 0) = 0 from rfl] at f2
          rw [show (upTo l 0).map (·.1) ++ opsB (.num 0) = W by rw [← hW]; exact List.append_nil _] at f5
          rw [hW] at hWl hro
          rw [show (if (0 : Int) = 0 then noneB (upTo l 0) (.num 0) else isB 0 (.num 0)) = true from rfl] at f3
          rw [show (if (0 : Int) = 0 then noneB (upTo l 0) (.num 0) else isB 0 (.num 0)) = true from rfl] at f4
          have hb8 : (true == ((0 : Int) == 0)) = true := rfl
          ((conv => whnf); repeat (any_goals (first | ((refine (f1 _ (by (repeat (first | assumption | exact Vc.Ext.refl _ | ((with_reducible apply Vc.Ext.trans); (case k => assumption)) | ((with_reducible apply Vc.Ext.but); (case k => assumption); (case hb => omega)))))).mono ?_; rintro _ H3 ⟨rfl, hx3⟩; have hz3 := hx3.size); (conv => whnf)) | ((refine (f2 _ (by (repeat (first | assumption | exact Vc.Ext.refl _ | ((with_reducible apply Vc.Ext.trans); (case k => assumption)) | ((with_reducible apply Vc.Ext.but); (case k => assumption); (case hb => omega)))))).mono ?_; rintro _ H4 ⟨rfl, hx4⟩; have hz4 := hx4.size); (conv => whnf)) | ((refine (f3 _ (by (repeat (first | assumption | exact Vc.Ext.refl _ | ((with_reducible apply Vc.Ext.trans); (case k => assumption)) | ((with_reducible apply Vc.Ext.but); (case k => assumption); (case hb => omega)))))).mono ?_; rintro _ H5 ⟨rfl, hx5⟩; have hz5 := hx5.size); (conv => whnf)) | ((refine (f4 _ (by (repeat (first | assumption | exact Vc.Ext.refl _ | ((with_reducible apply Vc.Ext.trans); (case k => assumption)) | ((with_reducible apply Vc.Ext.but); (case k => assumption); (case hb => omega)))))).mono ?_; rintro _ H6 ⟨rfl, hx6⟩; have hz6 := hx6.size); (conv => whnf)) | ((refine (f5 _ (by (repeat (first | assumption | exact Vc.Ext.refl _ | ((with_reducible apply Vc.Ext.trans); (case k => assumption)) | ((with_reducible apply Vc.Ext.but); (case k => assumption); (case hb => omega)))))).mono ?_; rintro _ H7 ⟨⟨a7, k7, rfl, hc7, hr7⟩, hx7⟩; have hz7 := hx7.size); (conv => whnf)) | ((refine (strings_any W W _ _ _ _ _ _ _ (Row.ext hr7 (by (repeat (first | assumption | exact Vc.Ext.refl _ | ((with_reducible apply Vc.Ext.trans); (case k => assumption)) | ((with_reducible apply Vc.Ext.but); (case k => assumption); (case hb => omega)))))) (Row.ext hro (by (repeat (first | assumption | exact Vc.Ext.refl _ | ((with_reducible apply Vc.Ext.trans); (case k => assumption)) | ((with_reducible apply Vc.Ext.but); (case k => assumption); (case hb => omega)))))) rfl hWl (by omega) (by omega)).mono ?_; rintro _ _ ⟨rfl, rfl⟩; rw [decide_eq_true rfl]); (conv => whnf)) | (refine Vc.stp ?_; intros; (conv => whnf)) | (refine Vc.spl ?_ ?_ <;> (intro _; (conv => whnf))))))
          exact ⟨rfl, hx2.trans (by (repeat (first | assumption | exact Vc.Ext.refl _ | ((with_reducible apply Vc.Ext.trans); (case k => assumption)) | ((with_reducible apply Vc.Ext.but); (case k => assumption); (case hb => omega)))))⟩
    · have hcn : (code == 0) = false := by rw [beq_eq_false_iff_ne]; exact hc0
      have hnb : ∀ ws, noneB ws (.num code) = false := fun ws => by cases ws with | nil => exact hcn | cons x ws => rfl
      refine LoopH.intro (fun (x : LSt) => [(8, .int .i64 x.i), (5, x.v), (6, .string (mkS (wrS (upTo l x.i) (errS code)))), (7, .slice x.a x.i x.cap)]) (fun x H' => x.i ≤ n ∧ Ext H H' ∧ ErV H' (upTo l x.i) (.num code) x.v ∧ x.i ≤ x.cap ∧ Row H' x.a (strs ((upTo l x.i).map (·.1)))) (fun x => n - x.i) ⟨0, .iface 25 (.int .i64 code), none, 0⟩ ⟨rfl, rfl, congrArg Value.string (mkS_app [101, 114, 114, 32] _), rfl, trivial⟩ ⟨Nat.zero_le _, hx12, rfl, Nat.le_refl _, Row.nil _ _⟩ ?_
      rintro ⟨i, v, a1, c1⟩ H2 ⟨hi, hx2, hv, hc1, hro⟩
      dsimp only at hi hv hc1 hro ⊢
      have hz2 := hx2.size
      have hrow := hr.ext hx2
      have hwl := wrS_len (upTo l i) (errS code) (upTo_small hlb i)
      rw [upTo_len l i (by omega)] at hwl
      have hWl : ((upTo l i).map (·.1)).length = i := by rw [List.length_map, upTo_len l i (by omega)]
      by_cases hlt : i < n
      · obtain ⟨x, hx⟩ : ∃ x, l[i]? = some x := ⟨_, List.getElem?_eq_getElem (by omega)⟩
        have hxl := h30 x (List.mem_of_getElem? hx)
        have hwrap := fun H' (k : Ext H2 H') => wrap_some x.1 x.2 (hnb (upTo l i)) (ErV.ext hv k)
        have s5 : (mkS x.1).size = x.1.length := rfl
        have s6 : (mkS x.2).size = x.2.length := rfl
        have s7 : (mkS (wrS (upTo l i) (errS code))).size = (wrS (upTo l i) (errS code)).length := rfl
        ((conv => whnf); repeat (any_goals (first | ((refine IdxA.ly hrow hn i x rfl hx ?_; intro _ _ _ _); (conv => whnf)) | ((refine (hwrap _ (by (repeat (first | assumption | exact Vc.Ext.refl _ | ((with_reducible apply Vc.Ext.trans); (case k => assumption)) | ((with_reducible apply Vc.Ext.but); (case k => assumption); (case hb => omega)))))).mono ?_; rintro v3 H3 ⟨hv3, hx3⟩; have hz3 := hx3.size); (conv => whnf)) | ((refine NeedH.mk ⟨by (simp only [ByteArray.size_append]; omega), ?_⟩); (conv => whnf)) | (refine Vc.stp ?_; intros; (conv => whnf)) | (refine Vc.spl ?_ ?_ <;> (intro _; (conv => whnf))))))
        rename_i H4 hs4 hb4 hx4
        have ho4 : Own H4 H3.size 9 1 (some ⟨H3.size, 0, none⟩) 1 1 [.string (mkS x.1)] := own_lit (xs := [.string (mkS x.1)]) hb4 (Nat.le_refl _) rfl (Nat.le_of_ble_eq_true rfl)
        refine NextH.append (i := Tryd.t9) (z := .string ⟨#[]⟩) (base := H3.size) rfl ⟨_, rfl, fun _ h => by cases h⟩ rfl rfl rfl ho4 (Src.row (hro.ext (hx3.trans hx4)) (by rw [strs_length, hWl]; exact (Nat.mul_one _).symm) (strs_plain _)) (by unfold maxLen; omega) (by show (1 + i) * 16 ≤ _; omega) hx4.size ?_
        intro a5 c5 H5 ho5 hw5 _
        ((conv => whnf); repeat (any_goals (first | (refine Vc.stp ?_; intros; (conv => whnf)) | (refine Vc.spl ?_ ?_ <;> (intro _; (conv => whnf))))))
        have hx5 : Ext H3 H5 := hx4.wr ho4 (Nat.le_refl _) hw5
        refine ⟨⟨i + 1, v3, a5, c5⟩, ⟨rfl, rfl, ?_, by show Value.slice a5 (1 + i) c5 = Value.slice a5 (i + 1) c5; rw [Nat.add_comm], trivial⟩, ⟨by show i + 1 ≤ _; omega, hx2.trans (hx3.trans hx5), ?_, ?_, ?_⟩, by show n - (i + 1) < n - i; omega⟩
        · show Value.string ((((mkS x.1 ++ mkS [32]) ++ mkS x.2) ++ mkS [58, 32]) ++ mkS (wrS (upTo l i) (errS code))) = Value.string (mkS (wrS (upTo l (i + 1)) (errS code)))
          rw [upTo_succ hx]; simp only [mkS_app, wrS, List.append_assoc]; rfl
        · rw [upTo_succ hx]; exact ErV.ext hv3 hx5
        · have := ho5.cap_le; show i + 1 ≤ c5; omega
        · show Row H5 a5 (strs ((upTo l (i + 1)).map (·.1)))
          rw [upTo_succ hx]; exact ho5.row
      · obtain rfl : i = n := by omega
        obtain ⟨ty, pl, rfl⟩ := ErV.iface hv
        have hg2 := hg.ext hx2
        obtain ⟨W, hW⟩ : ∃ W, (upTo l i).map (·.1) = W := ⟨_, rfl⟩
        have hok : BasOk (.num code) := hI
        have f1 := fun H' (k : Ext H2 H') => text_err (hg2.ext k) (upTo_small hlb i) hok (ErV.ext hv k)
        have f2 := fun H' (k : Ext H2 H') => code_any (hg2.ext k) (upTo_small hlb i) hok (ErV.ext hv k)
        have f3 := fun H' (k : Ext H2 H') => fis_any (m := code) hok (ErV.ext hv k)
        have f4 := fun H' (k : Ext H2 H') => fis_any (m := 0) hok (ErV.ext hv k)
        have f5 := fun H' (k : Ext H2 H') => ops_any (hg2.ext k) (upTo_small hlb i) hok (ErV.ext hv k)
        rw [show basT (.num code) = errS code from rfl] at f1
        rw [show codeB (.num code) = code from rfl] at f2
        rw [show (upTo l i).map (·.1) ++ opsB (.num code) = W by rw [← hW]; exact List.append_nil _] at f5
        rw [hW] at hWl hro
        rw [show (if code = 0 then noneB (upTo l i) (.num code) else isB code (.num code)) = true by rw [if_neg hc0]; exact beq_self_eq_true code] at f3
        rw [if_pos rfl, hnb (upTo l i)] at f4
        have hb8 : (false == (code == 0)) = true := by rw [hcn]; rfl
        ((conv => whnf); repeat (any_goals (first | ((refine (f1 _ (by (repeat (first | assumption | exact Vc.Ext.refl _ | ((with_reducible apply Vc.Ext.trans); (case k => assumption)) | ((with_reducible apply Vc.Ext.but); (case k => assumption); (case hb => omega)))))).mono ?_; rintro _ H3 ⟨rfl, hx3⟩; have hz3 := hx3.size); (conv => whnf)) | ((refine (f2 _ (by (repeat (first | assumption | exact Vc.Ext.refl _ | ((with_reducible apply Vc.Ext.trans); (case k => assumption)) | ((with_reducible apply Vc.Ext.but); (case k => assumption); (case hb => omega)))))).mono ?_; rintro _ H4 ⟨rfl, hx4⟩; have hz4 := hx4.size); (conv => whnf)) | ((refine (f3 _ (by (repeat (first | assumption | exact Vc.Ext.refl _ | ((with_reducible apply Vc.Ext.trans); (case k => assumption)) | ((with_reducible apply Vc.Ext.but); (case k => assumption); (case hb => omega)))))).mono ?_; rintro _ H5 ⟨rfl, hx5⟩; have hz5 := hx5.size); (conv => whnf)) | ((refine (f4 _ (by (repeat (first | assumption | exact Vc.Ext.refl _ | ((with_reducible apply Vc.Ext.trans); (case k => assumption)) | ((with_reducible apply Vc.Ext.but); (case k => assumption); (case hb => omega)))))).mono ?_; rintro _ H6 ⟨rfl, hx6⟩; have hz6 := hx6.size); (conv => whnf)) | ((refine (f5 _ (by (repeat (first | assumption | exact Vc.Ext.refl _ | ((with_reducible apply Vc.Ext.trans); (case k => assumption)) | ((with_reducible apply Vc.Ext.but); (case k => assumption); (case hb => omega)))))).mono ?_; rintro _ H7 ⟨⟨a7, k7, rfl, hc7, hr7⟩, hx7⟩; have hz7 := hx7.size); (conv => whnf)) | ((refine (strings_any W W _ _ _ _ _ _ _ (Row.ext hr7 (by (repeat (first | assumption | exact Vc.Ext.refl _ | ((with_reducible apply Vc.Ext.trans); (case k => assumption)) | ((with_reducible apply Vc.Ext.but); (case k => assumption); (case hb => omega)))))) (Row.ext hro (by (repeat (first | assumption | exact Vc.Ext.refl _ | ((with_reducible apply Vc.Ext.trans); (case k => assumption)) | ((with_reducible apply Vc.Ext.but); (case k => assumption); (case hb => omega)))))) rfl hWl (by omega) (by omega)).mono ?_; rintro _ _ ⟨rfl, rfl⟩; rw [decide_eq_true rfl]); (conv => whnf)) | (refine Vc.stp ?_; intros; (conv => whnf)) | (refine Vc.spl ?_ ?_ <;> (intro _; (conv => whnf))))))
        exact ⟨rfl, hx2.trans (by (repeat (first | assumption | exact Vc.Ext.refl _ | ((with_reducible apply Vc.Ext.trans); (case k => assumption)) | ((with_reducible apply Vc.Ext.but); (case k => assumption); (case hb => omega)))))⟩
end Go.Proofs.YtlgcfcdmldlefaaDoor
