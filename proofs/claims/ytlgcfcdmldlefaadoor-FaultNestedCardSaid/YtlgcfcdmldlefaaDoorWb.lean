import Derived.Test.YtlgcfcdmldlefaaDoorWa
import Derived.Test.YtlgcfcdmldlefaaDoorVl
set_option linter.unusedVariables false
set_option linter.unusedSimpArgs false
set_option maxRecDepth 100000
/- Errors that are joined: each line, each number; the first one's number; what is none is left out. -/
namespace Go.Proofs.YtlgcfcdmldlefaaDoor
open Go Go.Vc Go.RowKit Go.Sort
def opC : Bs × Bs := ([111, 112], [110])
def oJ (x : Int × Bool) : Option (Chain × Int) := if x.1 = 0 then none else some (if x.2 then [opC] else [], x.1)
def intsV (cs : List Int) : List Value := cs.map fun c => .int .i64 c
def boolsV (cs : List Bool) : List Value := cs.map fun c => .bool c
theorem firstJ_snoc (cs : List (Chain × Int)) (c : Chain × Int) : firstJ (cs ++ [c]) = if cs = [] then c.2 else firstJ cs := by
  cases cs <;> rfl
theorem oJ_small {x : Int × Bool} (hx : I64 x.1) {c : Chain × Int} (h : oJ x = some c) : Small c.1 ∧ I64 c.2 := by
  unfold oJ at h
  split at h
  · cases h
  · cases h
    refine ⟨?_, hx⟩
    cases x.2
    · exact ⟨Nat.zero_le _, fun y hy => by cases hy⟩
    · refine ⟨Nat.le_of_ble_eq_true rfl, fun y hy => ?_⟩
      simp at hy; subst hy
      exact ⟨Nat.le_of_ble_eq_true rfl, Nat.le_of_ble_eq_true rfl⟩
theorem pick_small {cs : List Int} {ws : List Bool} (hI : ∀ c ∈ cs, I64 c) (i : Nat) : ∀ c ∈ pick ((cs.zip ws).map oJ) i, Small c.1 ∧ I64 c.2 := by
  intro c hc
  unfold pick at hc
  rw [List.mem_filterMap] at hc
  obtain ⟨o, ho, h⟩ := hc
  obtain ⟨x, hx, rfl⟩ := List.mem_map.1 (List.mem_of_mem_take ho)
  exact oJ_small (hI _ (List.of_mem_zip hx).1) h
theorem pick_len (os : List (Option (Chain × Int))) (i : Nat) : (pick os i).length ≤ i := by
  unfold pick
  exact Nat.le_trans (List.length_filterMap_le _ _) (by rw [List.length_take]; omega)
theorem ins_snoc {os : List (Option (Chain × Int))} {vs : List Value} {v : Value} {o : Option (Chain × Int)} {i : Nat} {H2 H5 : Heap} (hin : ∀ (j : Nat) o v, os[j]? = some o → vs[j]? = some v → InV H2 o v) (keep : ∀ o v, InV H2 o v → InV H5 o v) (hO : os[i]? = some o) (hvl : vs.length = i) (hnew : InV H5 o v) :
    ∀ (j : Nat) o v', os[j]? = some o → (vs ++ [v])[j]? = some v' → InV H5 o v' := by
  intro j o' v' h1 h2
  by_cases hj : j < vs.length
  · rw [List.getElem?_append_left hj] at h2
    exact keep _ _ (hin j o' v' h1 h2)
  · have h3 := (List.getElem?_eq_some_iff.1 h2).1
    simp at h3
    obtain rfl : j = i := by omega
    rw [hO] at h1; cases h1
    rw [List.getElem?_append_right (by omega), hvl] at h2
    simp at h2
    subst h2; exact hnew
structure KSt where
  i : Nat
  vs : List Value
  a : Option Addr
  cap : Nat
set_option maxHeartbeats 4000000 in
theorem joins_law (cs : List Int) (ws : List Bool) (a b : Option Addr) (n m cap cap' : Nat) (H : Heap) (hg : Glb H) (hr : Row H a (intsV cs)) (hrb : Row H b (boolsV ws)) (hn : (intsV cs).length = n) (hm : (boolsV ws).length = m) (hI : ∀ c ∈ cs, I64 c) (hn1 : n ≤ 9223372036854775807) (hm1 : m ≤ 9223372036854775807) :
    CallH Tryd.prog 5 [.slice a n cap, .slice b m cap'] H fun v H' => v = .bool true ∧ Ext H H' := by
  refine Vc.CallH.body Tryd.func5 Tryd.call5 rfl (by decide +kernel) rfl ?_
  have hcl : cs.length = n := by rw [← hn]; simp [intsV]
  have hwl : ws.length = m := by rw [← hm]; simp [boolsV]
  by_cases h10 : 10 < n
  · ((conv => whnf); repeat (any_goals (first | ((refine (known6_any hg).mono ?_; rintro _ H1 ⟨rfl, hx1⟩; have hz1 := hx1.size); (conv => whnf)) | (refine Vc.stp ?_; intros; (conv => whnf)) | (refine Vc.spl ?_ ?_ <;> (intro _; (conv => whnf))))))
    all_goals exact ⟨rfl, hx1⟩
  by_cases hmn : m < n
  · ((conv => whnf); repeat (any_goals (first | ((refine (known6_any hg).mono ?_; rintro _ H1 ⟨rfl, hx1⟩; have hz1 := hx1.size); (conv => whnf)) | (refine Vc.stp ?_; intros; (conv => whnf)) | (refine Vc.spl ?_ ?_ <;> (intro _; (conv => whnf))))))
    all_goals exact ⟨rfl, hx1⟩
  ((conv => whnf); repeat (any_goals (first | ((refine (known6_any hg).mono ?_; rintro _ H1 ⟨rfl, hx1⟩; have hz1 := hx1.size); (conv => whnf)) | (refine Vc.stp ?_; intros; (conv => whnf)) | (refine Vc.spl ?_ ?_ <;> (intro _; (conv => whnf))))))
  obtain ⟨os, hos⟩ : ∃ os, (cs.zip ws).map oJ = os := ⟨_, rfl⟩
  have hol : os.length = n := by rw [← hos, List.length_map, List.length_zip]; omega
  have hsm := pick_small (ws := ws) hI
  rw [hos] at hsm
  have s4 : (⟨#[101, 114, 114, 32]⟩ : ByteArray).size = 4 := rfl
  have s6 : (⟨#[111, 112, 32, 110, 58, 32]⟩ : ByteArray).size = 6 := rfl
  have s1 : (⟨#[10]⟩ : ByteArray).size = 1 := rfl
  have s0 : (mkS []).size = 0 := rfl
  refine LoopH.intro (fun (x : KSt) => [(9, .int .i64 x.i), (5, .slice x.a x.i x.cap), (6, .string (mkS (textJ (pick os x.i)))), (7, .int .i64 (firstJ (pick os x.i))), (8, .int .i64 (pick os x.i).length)])
    (fun x H' => x.i ≤ n ∧ Ext H H' ∧ Own H' H.size 27 1 x.a x.i x.cap x.vs ∧ x.vs.length = x.i ∧ (∀ (j : Nat) o v, os[j]? = some o → x.vs[j]? = some v → InV H' o v)) (fun x => n - x.i) ⟨0, [], none, 0⟩ ⟨rfl, rfl, rfl, rfl, rfl, trivial⟩ ⟨Nat.zero_le _, hx1, Own.nil _ _ _ _, rfl, fun j o v _ h => by simp at h⟩ ?_
  rintro ⟨i, vs, a1, c1⟩ H2 ⟨hi, hx2, ho, hvl, hin⟩
  dsimp only at hi ho hvl hin ⊢
  have hz2 := hx2.size
  have hrow := hr.ext hx2
  have hrw := hrb.ext hx2
  have hpl := pick_len os i
  have htl := textJ_len (pick os i) (by omega) (hsm i)
  have stx : (mkS (textJ (pick os i))).size = (textJ (pick os i)).length := rfl
  by_cases hlt : i < n
  · obtain ⟨c, hc⟩ : ∃ c, cs[i]? = some c := ⟨_, List.getElem?_eq_getElem (by omega)⟩
    obtain ⟨w, hw⟩ : ∃ w, ws[i]? = some w := ⟨_, List.getElem?_eq_getElem (by omega)⟩
    have hC : (intsV cs)[i]? = some (.int .i64 c) := by unfold intsV; rw [List.getElem?_map, hc]; rfl
    have hW : (boolsV ws)[i]? = some (.bool w) := by unfold boolsV; rw [List.getElem?_map, hw]; rfl
    have hO : os[i]? = some (oJ (c, w)) := by rw [← hos, List.getElem?_map, (List.getElem?_zip_eq_some (z := (c, w))).2 ⟨hc, hw⟩]; rfl
    have hIc := hI c (List.mem_of_getElem? hc)
    have hdec := fun H' (k : Ext H2 H') => dec_any c hIc H'
    have hdl := itoa_len c hIc
    have sit : (mkS (Lib.itoa c)).size = (Lib.itoa c).length := rfl
    have hps := pick_succ hO
    by_cases hc0 : c = 0
    · subst hc0
      have ho0 : oJ (0, w) = none := rfl
      rw [ho0] at hO hps
      simp only [Option.toList, List.append_nil] at hps
      cases w with
      | true =>
        have hwrap := fun H' (k : Ext H2 H') => wrap_none [111, 112] [110] (ws := []) (b := .num 0) (H := H') (v := .iface 25 (.int .i64 0)) rfl rfl
        ((conv => whnf); repeat (any_goals (first | ((refine (hwrap _ (by (repeat (first | assumption | exact Vc.Ext.refl _ | ((with_reducible apply Vc.Ext.trans); (case k => assumption)) | ((with_reducible apply Vc.Ext.but); (case k => assumption); (case hb => omega)))))).mono ?_; rintro _ H4 ⟨rfl, hx4⟩; have hz4 := hx4.size); (conv => whnf)) | ((refine NeedH.mk ⟨by (simp only [ByteArray.size_append]; omega), ?_⟩); (conv => whnf)) | ((refine IdxA.val hr hn i _ rfl hC ?_; intro _ _ _); (conv => whnf)) | ((refine IdxA.val hrb hm i _ rfl hW ?_; intro _ _ _); (conv => whnf)) | ((refine (hdec _ (by (repeat (first | assumption | exact Vc.Ext.refl _ | ((with_reducible apply Vc.Ext.trans); (case k => assumption)) | ((with_reducible apply Vc.Ext.but); (case k => assumption); (case hb => omega)))))).mono ?_; rintro _ H3 ⟨rfl, hx3⟩; have hz3 := hx3.size); (conv => whnf)) | ((refine (hwrap _ (by (repeat (first | assumption | exact Vc.Ext.refl _ | ((with_reducible apply Vc.Ext.trans); (case k => assumption)) | ((with_reducible apply Vc.Ext.but); (case k => assumption); (case hb => omega)))))).mono ?_; rintro v3 H4 ⟨hv3, hx4⟩; have hz4 := hx4.size); (conv => whnf)) | ((refine NextH.push1w (by assumption) (ho.ext (by (repeat (first | assumption | exact Vc.Ext.refl _ | ((with_reducible apply Vc.Ext.trans); (case k => assumption)) | ((with_reducible apply Vc.Ext.but); (case k => assumption); (case hb => omega)))))) (by (repeat (first | assumption | exact Vc.Ext.refl _ | ((with_reducible apply Vc.Ext.trans); (case k => assumption)) | ((with_reducible apply Vc.Ext.but); (case k => assumption); (case hb => omega))))) (by omega) rfl ⟨_, rfl, fun _ h => by cases h⟩ rfl rfl rfl rfl rfl rfl rfl ?_; intro a5 c5 H5 ho5 hx5 hw5); (conv => whnf)) | (refine Vc.stp ?_; intros; (conv => whnf)) | (refine Vc.spl ?_ ?_ <;> (intro _; (conv => whnf))))))
        exact ⟨⟨i + 1, vs ++ [.nilIface], a5, c5⟩, ⟨rfl, rfl, by dsimp only; rw [hps]; rfl, by dsimp only; rw [hps]; rfl, by dsimp only; rw [hps]; rfl, trivial⟩, ⟨by show i + 1 ≤ _; omega, hx5, ho5, by show (vs ++ _).length = i + 1; rw [List.length_append, hvl]; rfl, ins_snoc hin (fun o v h => InV.wr (InV.ext h (by (repeat (first | assumption | exact Vc.Ext.refl _ | ((with_reducible apply Vc.Ext.trans); (case k => assumption)) | ((with_reducible apply Vc.Ext.but); (case k => assumption); (case hb => omega)))))) (ho.ext (by (repeat (first | assumption | exact Vc.Ext.refl _ | ((with_reducible apply Vc.Ext.trans); (case k => assumption)) | ((with_reducible apply Vc.Ext.but); (case k => assumption); (case hb => omega)))))) hw5) hO hvl (.inl rfl)⟩, by show n - (i + 1) < n - i; omega⟩
      | false =>
        ((conv => whnf); repeat (any_goals (first | ((refine NeedH.mk ⟨by (simp only [ByteArray.size_append]; omega), ?_⟩); (conv => whnf)) | ((refine IdxA.val hr hn i _ rfl hC ?_; intro _ _ _); (conv => whnf)) | ((refine IdxA.val hrb hm i _ rfl hW ?_; intro _ _ _); (conv => whnf)) | ((refine (hdec _ (by (repeat (first | assumption | exact Vc.Ext.refl _ | ((with_reducible apply Vc.Ext.trans); (case k => assumption)) | ((with_reducible apply Vc.Ext.but); (case k => assumption); (case hb => omega)))))).mono ?_; rintro _ H3 ⟨rfl, hx3⟩; have hz3 := hx3.size); (conv => whnf)) | ((refine (hwrap _ (by (repeat (first | assumption | exact Vc.Ext.refl _ | ((with_reducible apply Vc.Ext.trans); (case k => assumption)) | ((with_reducible apply Vc.Ext.but); (case k => assumption); (case hb => omega)))))).mono ?_; rintro v3 H4 ⟨hv3, hx4⟩; have hz4 := hx4.size); (conv => whnf)) | ((refine NextH.push1w (by assumption) (ho.ext (by (repeat (first | assumption | exact Vc.Ext.refl _ | ((with_reducible apply Vc.Ext.trans); (case k => assumption)) | ((with_reducible apply Vc.Ext.but); (case k => assumption); (case hb => omega)))))) (by (repeat (first | assumption | exact Vc.Ext.refl _ | ((with_reducible apply Vc.Ext.trans); (case k => assumption)) | ((with_reducible apply Vc.Ext.but); (case k => assumption); (case hb => omega))))) (by omega) rfl ⟨_, rfl, fun _ h => by cases h⟩ rfl rfl rfl rfl rfl rfl rfl ?_; intro a5 c5 H5 ho5 hx5 hw5); (conv => whnf)) | (refine Vc.stp ?_; intros; (conv => whnf)) | (refine Vc.spl ?_ ?_ <;> (intro _; (conv => whnf))))))
        exact ⟨⟨i + 1, vs ++ [.iface 25 (.int .i64 0)], a5, c5⟩, ⟨rfl, rfl, by dsimp only; rw [hps]; rfl, by dsimp only; rw [hps]; rfl, by dsimp only; rw [hps]; rfl, trivial⟩, ⟨by show i + 1 ≤ _; omega, hx5, ho5, by show (vs ++ _).length = i + 1; rw [List.length_append, hvl]; rfl, ins_snoc hin (fun o v h => InV.wr (InV.ext h (by (repeat (first | assumption | exact Vc.Ext.refl _ | ((with_reducible apply Vc.Ext.trans); (case k => assumption)) | ((with_reducible apply Vc.Ext.but); (case k => assumption); (case hb => omega)))))) (ho.ext (by (repeat (first | assumption | exact Vc.Ext.refl _ | ((with_reducible apply Vc.Ext.trans); (case k => assumption)) | ((with_reducible apply Vc.Ext.but); (case k => assumption); (case hb => omega)))))) hw5) hO hvl (.inr rfl)⟩, by show n - (i + 1) < n - i; omega⟩
    · have hcn : (c == 0) = false := beq_eq_false_iff_ne.2 hc0
      have hoc : oJ (c, w) = some (if w then [opC] else [], c) := if_neg hc0
      rw [hoc] at hO hps
      simp only [Option.toList] at hps
      have htn := textJ_snoc (pick os i) (if w then [opC] else [], c)
      have hfn := firstJ_snoc (pick os i) (if w then [opC] else [], c)
      rw [← hps] at htn hfn
      have hln : (pick os (i + 1)).length = (pick os i).length + 1 := by rw [hps, List.length_append]; rfl
      by_cases hp0 : pick os i = []
      · have hp1 : (pick os i).length = 0 := by rw [hp0]; rfl
        rw [if_pos hp0, hp0, textJ_nil, List.nil_append, List.nil_append] at htn
        rw [if_pos hp0] at hfn
        rw [hp0] at htl stx ⊢
        rw [textJ_nil] at stx htl ⊢
        cases w with
        | true =>
          have hwrap := fun H' (k : Ext H2 H') => wrap_some [111, 112] [110] (ws := []) (b := .num c) (H := H') (v := .iface 25 (.int .i64 c)) hcn rfl
          ((conv => whnf); repeat (any_goals (first | ((refine (hwrap _ (by (repeat (first | assumption | exact Vc.Ext.refl _ | ((with_reducible apply Vc.Ext.trans); (case k => assumption)) | ((with_reducible apply Vc.Ext.but); (case k => assumption); (case hb => omega)))))).mono ?_; rintro v3 H4 ⟨hv3, hx4⟩; have hz4 := hx4.size; have hv0 := hv3; obtain ⟨t3, y3, rfl⟩ := ErV.iface hv3); (conv => whnf)) | ((refine NeedH.mk ⟨by (simp only [ByteArray.size_append]; omega), ?_⟩); (conv => whnf)) | ((refine IdxA.val hr hn i _ rfl hC ?_; intro _ _ _); (conv => whnf)) | ((refine IdxA.val hrb hm i _ rfl hW ?_; intro _ _ _); (conv => whnf)) | ((refine (hdec _ (by (repeat (first | assumption | exact Vc.Ext.refl _ | ((with_reducible apply Vc.Ext.trans); (case k => assumption)) | ((with_reducible apply Vc.Ext.but); (case k => assumption); (case hb => omega)))))).mono ?_; rintro _ H3 ⟨rfl, hx3⟩; have hz3 := hx3.size); (conv => whnf)) | ((refine (hwrap _ (by (repeat (first | assumption | exact Vc.Ext.refl _ | ((with_reducible apply Vc.Ext.trans); (case k => assumption)) | ((with_reducible apply Vc.Ext.but); (case k => assumption); (case hb => omega)))))).mono ?_; rintro v3 H4 ⟨hv3, hx4⟩; have hz4 := hx4.size); (conv => whnf)) | ((refine NextH.push1w (by assumption) (ho.ext (by (repeat (first | assumption | exact Vc.Ext.refl _ | ((with_reducible apply Vc.Ext.trans); (case k => assumption)) | ((with_reducible apply Vc.Ext.but); (case k => assumption); (case hb => omega)))))) (by (repeat (first | assumption | exact Vc.Ext.refl _ | ((with_reducible apply Vc.Ext.trans); (case k => assumption)) | ((with_reducible apply Vc.Ext.but); (case k => assumption); (case hb => omega))))) (by omega) rfl ⟨_, rfl, fun _ h => by cases h⟩ rfl rfl rfl rfl rfl rfl rfl ?_; intro a5 c5 H5 ho5 hx5 hw5); (conv => whnf)) | (refine Vc.stp ?_; intros; (conv => whnf)) | (refine Vc.spl ?_ ?_ <;> (intro _; (conv => whnf))))))
          exact ⟨⟨i + 1, vs ++ [.iface t3 y3], a5, c5⟩, ⟨rfl, rfl, by (show Value.string ((mkS []) ++ (mkS [111, 112, 32, 110, 58, 32] ++ (mkS [101, 114, 114, 32] ++ mkS (Lib.itoa c)))) = Value.string (mkS (textJ (pick os (i + 1)))); rw [htn]; simp only [mkS_app, List.append_assoc]; rfl), by (dsimp only; rw [hfn]; rfl), by rw [hln, hp1]; rfl, trivial⟩, ⟨by show i + 1 ≤ _; omega, hx5, ho5, by show (vs ++ _).length = i + 1; rw [List.length_append, hvl]; rfl, ins_snoc hin (fun o v h => InV.wr (InV.ext h (by (repeat (first | assumption | exact Vc.Ext.refl _ | ((with_reducible apply Vc.Ext.trans); (case k => assumption)) | ((with_reducible apply Vc.Ext.but); (case k => assumption); (case hb => omega)))))) (ho.ext (by (repeat (first | assumption | exact Vc.Ext.refl _ | ((with_reducible apply Vc.Ext.trans); (case k => assumption)) | ((with_reducible apply Vc.Ext.but); (case k => assumption); (case hb => omega)))))) hw5) hO hvl ⟨WrV.wr (m := c) (ho.ext (by (repeat (first | assumption | exact Vc.Ext.refl _ | ((with_reducible apply Vc.Ext.trans); (case k => assumption)) | ((with_reducible apply Vc.Ext.but); (case k => assumption); (case hb => omega)))))) hw5 _ _ (WrV.mono (by (repeat (first | assumption | exact Vc.Ext.refl _ | ((with_reducible apply Vc.Ext.trans); (case k => assumption)) | ((with_reducible apply Vc.Ext.but); (case k => assumption); (case hb => omega))))) (fun _ h => h) _ _ hv0), rfl⟩⟩, by show n - (i + 1) < n - i; omega⟩
        | false =>
          ((conv => whnf); repeat (any_goals (first | ((refine NeedH.mk ⟨by (simp only [ByteArray.size_append]; omega), ?_⟩); (conv => whnf)) | ((refine IdxA.val hr hn i _ rfl hC ?_; intro _ _ _); (conv => whnf)) | ((refine IdxA.val hrb hm i _ rfl hW ?_; intro _ _ _); (conv => whnf)) | ((refine (hdec _ (by (repeat (first | assumption | exact Vc.Ext.refl _ | ((with_reducible apply Vc.Ext.trans); (case k => assumption)) | ((with_reducible apply Vc.Ext.but); (case k => assumption); (case hb => omega)))))).mono ?_; rintro _ H3 ⟨rfl, hx3⟩; have hz3 := hx3.size); (conv => whnf)) | ((refine (hwrap _ (by (repeat (first | assumption | exact Vc.Ext.refl _ | ((with_reducible apply Vc.Ext.trans); (case k => assumption)) | ((with_reducible apply Vc.Ext.but); (case k => assumption); (case hb => omega)))))).mono ?_; rintro v3 H4 ⟨hv3, hx4⟩; have hz4 := hx4.size); (conv => whnf)) | ((refine NextH.push1w (by assumption) (ho.ext (by (repeat (first | assumption | exact Vc.Ext.refl _ | ((with_reducible apply Vc.Ext.trans); (case k => assumption)) | ((with_reducible apply Vc.Ext.but); (case k => assumption); (case hb => omega)))))) (by (repeat (first | assumption | exact Vc.Ext.refl _ | ((with_reducible apply Vc.Ext.trans); (case k => assumption)) | ((with_reducible apply Vc.Ext.but); (case k => assumption); (case hb => omega))))) (by omega) rfl ⟨_, rfl, fun _ h => by cases h⟩ rfl rfl rfl rfl rfl rfl rfl ?_; intro a5 c5 H5 ho5 hx5 hw5); (conv => whnf)) | (refine Vc.stp ?_; intros; (conv => whnf)) | (refine Vc.spl ?_ ?_ <;> (intro _; (conv => whnf))))))
          exact ⟨⟨i + 1, vs ++ [.iface 25 (.int .i64 c)], a5, c5⟩, ⟨rfl, rfl, by (show Value.string ((mkS []) ++ (mkS [101, 114, 114, 32] ++ mkS (Lib.itoa c))) = Value.string (mkS (textJ (pick os (i + 1)))); rw [htn]; simp only [mkS_app, List.append_assoc]; rfl), by (dsimp only; rw [hfn]; rfl), by rw [hln, hp1]; rfl, trivial⟩, ⟨by show i + 1 ≤ _; omega, hx5, ho5, by show (vs ++ _).length = i + 1; rw [List.length_append, hvl]; rfl, ins_snoc hin (fun o v h => InV.wr (InV.ext h (by (repeat (first | assumption | exact Vc.Ext.refl _ | ((with_reducible apply Vc.Ext.trans); (case k => assumption)) | ((with_reducible apply Vc.Ext.but); (case k => assumption); (case hb => omega)))))) (ho.ext (by (repeat (first | assumption | exact Vc.Ext.refl _ | ((with_reducible apply Vc.Ext.trans); (case k => assumption)) | ((with_reducible apply Vc.Ext.but); (case k => assumption); (case hb => omega)))))) hw5) hO hvl ⟨(by show WrV H5 [] (NumV c) (.iface 25 (.int .i64 c)); rfl), hcn⟩⟩, by show n - (i + 1) < n - i; omega⟩
      · have hp1 : 0 < (pick os i).length := List.length_pos_iff.2 hp0
        rw [if_neg hp0] at htn hfn
        cases w with
        | true =>
          have hwrap := fun H' (k : Ext H2 H') => wrap_some [111, 112] [110] (ws := []) (b := .num c) (H := H') (v := .iface 25 (.int .i64 c)) hcn rfl
          ((conv => whnf); repeat (any_goals (first | ((refine (hwrap _ (by (repeat (first | assumption | exact Vc.Ext.refl _ | ((with_reducible apply Vc.Ext.trans); (case k => assumption)) | ((with_reducible apply Vc.Ext.but); (case k => assumption); (case hb => omega)))))).mono ?_; rintro v3 H4 ⟨hv3, hx4⟩; have hz4 := hx4.size; have hv0 := hv3; obtain ⟨t3, y3, rfl⟩ := ErV.iface hv3); (conv => whnf)) | ((refine NeedH.mk ⟨by (simp only [ByteArray.size_append]; omega), ?_⟩); (conv => whnf)) | ((refine IdxA.val hr hn i _ rfl hC ?_; intro _ _ _); (conv => whnf)) | ((refine IdxA.val hrb hm i _ rfl hW ?_; intro _ _ _); (conv => whnf)) | ((refine (hdec _ (by (repeat (first | assumption | exact Vc.Ext.refl _ | ((with_reducible apply Vc.Ext.trans); (case k => assumption)) | ((with_reducible apply Vc.Ext.but); (case k => assumption); (case hb => omega)))))).mono ?_; rintro _ H3 ⟨rfl, hx3⟩; have hz3 := hx3.size); (conv => whnf)) | ((refine (hwrap _ (by (repeat (first | assumption | exact Vc.Ext.refl _ | ((with_reducible apply Vc.Ext.trans); (case k => assumption)) | ((with_reducible apply Vc.Ext.but); (case k => assumption); (case hb => omega)))))).mono ?_; rintro v3 H4 ⟨hv3, hx4⟩; have hz4 := hx4.size); (conv => whnf)) | ((refine NextH.push1w (by assumption) (ho.ext (by (repeat (first | assumption | exact Vc.Ext.refl _ | ((with_reducible apply Vc.Ext.trans); (case k => assumption)) | ((with_reducible apply Vc.Ext.but); (case k => assumption); (case hb => omega)))))) (by (repeat (first | assumption | exact Vc.Ext.refl _ | ((with_reducible apply Vc.Ext.trans); (case k => assumption)) | ((with_reducible apply Vc.Ext.but); (case k => assumption); (case hb => omega))))) (by omega) rfl ⟨_, rfl, fun _ h => by cases h⟩ rfl rfl rfl rfl rfl rfl rfl ?_; intro a5 c5 H5 ho5 hx5 hw5); (conv => whnf)) | (refine Vc.stp ?_; intros; (conv => whnf)) | (refine Vc.spl ?_ ?_ <;> (intro _; (conv => whnf))))))
          exact ⟨⟨i + 1, vs ++ [.iface t3 y3], a5, c5⟩, ⟨rfl, rfl, by (show Value.string ((mkS (textJ (pick os i)) ++ mkS [10]) ++ (mkS [111, 112, 32, 110, 58, 32] ++ (mkS [101, 114, 114, 32] ++ mkS (Lib.itoa c)))) = Value.string (mkS (textJ (pick os (i + 1)))); rw [htn]; simp only [mkS_app, List.append_assoc]; rfl), by (dsimp only; rw [hfn]; rfl), by rw [hln]; rfl, trivial⟩, ⟨by show i + 1 ≤ _; omega, hx5, ho5, by show (vs ++ _).length = i + 1; rw [List.length_append, hvl]; rfl, ins_snoc hin (fun o v h => InV.wr (InV.ext h (by (repeat (first | assumption | exact Vc.Ext.refl _ | ((with_reducible apply Vc.Ext.trans); (case k => assumption)) | ((with_reducible apply Vc.Ext.but); (case k => assumption); (case hb => omega)))))) (ho.ext (by (repeat (first | assumption | exact Vc.Ext.refl _ | ((with_reducible apply Vc.Ext.trans); (case k => assumption)) | ((with_reducible apply Vc.Ext.but); (case k => assumption); (case hb => omega)))))) hw5) hO hvl ⟨WrV.wr (m := c) (ho.ext (by (repeat (first | assumption | exact Vc.Ext.refl _ | ((with_reducible apply Vc.Ext.trans); (case k => assumption)) | ((with_reducible apply Vc.Ext.but); (case k => assumption); (case hb => omega)))))) hw5 _ _ (WrV.mono (by (repeat (first | assumption | exact Vc.Ext.refl _ | ((with_reducible apply Vc.Ext.trans); (case k => assumption)) | ((with_reducible apply Vc.Ext.but); (case k => assumption); (case hb => omega))))) (fun _ h => h) _ _ hv0), rfl⟩⟩, by show n - (i + 1) < n - i; omega⟩
        | false =>
          ((conv => whnf); repeat (any_goals (first | ((refine NeedH.mk ⟨by (simp only [ByteArray.size_append]; omega), ?_⟩); (conv => whnf)) | ((refine IdxA.val hr hn i _ rfl hC ?_; intro _ _ _); (conv => whnf)) | ((refine IdxA.val hrb hm i _ rfl hW ?_; intro _ _ _); (conv => whnf)) | ((refine (hdec _ (by (repeat (first | assumption | exact Vc.Ext.refl _ | ((with_reducible apply Vc.Ext.trans); (case k => assumption)) | ((with_reducible apply Vc.Ext.but); (case k => assumption); (case hb => omega)))))).mono ?_; rintro _ H3 ⟨rfl, hx3⟩; have hz3 := hx3.size); (conv => whnf)) | ((refine (hwrap _ (by (repeat (first | assumption | exact Vc.Ext.refl _ | ((with_reducible apply Vc.Ext.trans); (case k => assumption)) | ((with_reducible apply Vc.Ext.but); (case k => assumption); (case hb => omega)))))).mono ?_; rintro v3 H4 ⟨hv3, hx4⟩; have hz4 := hx4.size); (conv => whnf)) | ((refine NextH.push1w (by assumption) (ho.ext (by (repeat (first | assumption | exact Vc.Ext.refl _ | ((with_reducible apply Vc.Ext.trans); (case k => assumption)) | ((with_reducible apply Vc.Ext.but); (case k => assumption); (case hb => omega)))))) (by (repeat (first | assumption | exact Vc.Ext.refl _ | ((with_reducible apply Vc.Ext.trans); (case k => assumption)) | ((with_reducible apply Vc.Ext.but); (case k => assumption); (case hb => omega))))) (by omega) rfl ⟨_, rfl, fun _ h => by cases h⟩ rfl rfl rfl rfl rfl rfl rfl ?_; intro a5 c5 H5 ho5 hx5 hw5); (conv => whnf)) | (refine Vc.stp ?_; intros; (conv => whnf)) | (refine Vc.spl ?_ ?_ <;> (intro _; (conv => whnf))))))
          exact ⟨⟨i + 1, vs ++ [.iface 25 (.int .i64 c)], a5, c5⟩, ⟨rfl, rfl, by (show Value.string ((mkS (textJ (pick os i)) ++ mkS [10]) ++ (mkS [101, 114, 114, 32] ++ mkS (Lib.itoa c))) = Value.string (mkS (textJ (pick os (i + 1)))); rw [htn]; simp only [mkS_app, List.append_assoc]; rfl), by (dsimp only; rw [hfn]; rfl), by rw [hln]; rfl, trivial⟩, ⟨by show i + 1 ≤ _; omega, hx5, ho5, by show (vs ++ _).length = i + 1; rw [List.length_append, hvl]; rfl, ins_snoc hin (fun o v h => InV.wr (InV.ext h (by (repeat (first | assumption | exact Vc.Ext.refl _ | ((with_reducible apply Vc.Ext.trans); (case k => assumption)) | ((with_reducible apply Vc.Ext.but); (case k => assumption); (case hb => omega)))))) (ho.ext (by (repeat (first | assumption | exact Vc.Ext.refl _ | ((with_reducible apply Vc.Ext.trans); (case k => assumption)) | ((with_reducible apply Vc.Ext.but); (case k => assumption); (case hb => omega)))))) hw5) hO hvl ⟨(by show WrV H5 [] (NumV c) (.iface 25 (.int .i64 c)); rfl), hcn⟩⟩, by show n - (i + 1) < n - i; omega⟩
  · obtain rfl : i = n := by omega
    have hpn : pick os i = os.filterMap id := by unfold pick; rw [List.take_of_length_le (by omega)]
    have hjo := fun H' (k : Ext H2 H') => ejoin_any os vs a1 i c1 H' (ho.row.ext k) hvl hol (by omega) fun j o v h1 h2 => InV.ext (hin j o v h1 h2) k
    rw [← hpn] at hjo
    obtain ⟨js, hjs⟩ : ∃ js, pick os i = js := ⟨_, rfl⟩
    have hsj := hsm i
    rw [hjs] at hjo hsj hpl htl stx ⊢
    by_cases hj0 : js = []
    · subst hj0
      ((conv => whnf); repeat (any_goals (first | ((refine (hjo _ (by (repeat (first | assumption | exact Vc.Ext.refl _ | ((with_reducible apply Vc.Ext.trans); (case k => assumption)) | ((with_reducible apply Vc.Ext.but); (case k => assumption); (case hb => omega)))))).mono ?_; rintro u H3 ⟨hu, hx3⟩; have hz3 := hx3.size; have hu : u = .nilIface := hu; subst hu); (conv => whnf)) | (refine Vc.stp ?_; intros; (conv => whnf)) | (refine Vc.spl ?_ ?_ <;> (intro _; (conv => whnf))))))
      exact ⟨rfl, hx2.trans hx3⟩
    · have hj1 : 0 < js.length := List.length_pos_iff.2 hj0
      have e1 := j_text hj0
      have e2 := j_code hj0
      obtain ⟨k1, k2⟩ := j_ok hj0 (by omega) hsj
      ((conv => whnf); repeat (any_goals (first | ((refine (hjo _ (by (repeat (first | assumption | exact Vc.Ext.refl _ | ((with_reducible apply Vc.Ext.trans); (case k => assumption)) | ((with_reducible apply Vc.Ext.but); (case k => assumption); (case hb => omega)))))).mono ?_; rintro u H3 ⟨hu, hx3⟩; have hz3 := hx3.size; have hu := joinV_err hu hj0; have hu0 := hu; obtain ⟨t3, y3, rfl⟩ := ErV.iface hu; have hg3 := (hg.ext hx2).ext hx3; have f1 := fun H' (k : Ext H3 H') => text_err (hg3.ext k) k1 k2 (ErV.ext hu0 k); have f2 := fun H' (k : Ext H3 H') => code_any (hg3.ext k) k1 k2 (ErV.ext hu0 k); rw [e1] at f1; rw [e2] at f2); (conv => whnf)) | ((refine (f1 _ (by (repeat (first | assumption | exact Vc.Ext.refl _ | ((with_reducible apply Vc.Ext.trans); (case k => assumption)) | ((with_reducible apply Vc.Ext.but); (case k => assumption); (case hb => omega)))))).mono ?_; rintro _ H4 ⟨rfl, hx4⟩; have hz4 := hx4.size); (conv => whnf)) | ((refine (f2 _ (by (repeat (first | assumption | exact Vc.Ext.refl _ | ((with_reducible apply Vc.Ext.trans); (case k => assumption)) | ((with_reducible apply Vc.Ext.but); (case k => assumption); (case hb => omega)))))).mono ?_; rintro _ H5 ⟨rfl, hx5⟩; have hz5 := hx5.size); (conv => whnf)) | (refine Vc.stp ?_; intros; (conv => whnf)) | (refine Vc.spl ?_ ?_ <;> (intro _; (conv => whnf))))))
      refine LoopH.intro (fun (x : Nat) => [(13, .int .i64 x)]) (fun x H' => x ≤ i ∧ Ext H3 H') (fun x => i - x) 0 ⟨rfl, trivial⟩ ⟨Nat.zero_le _, by (repeat (first | assumption | exact Vc.Ext.refl _ | ((with_reducible apply Vc.Ext.trans); (case k => assumption)) | ((with_reducible apply Vc.Ext.but); (case k => assumption); (case hb => omega))))⟩ ?_
      rintro k H6 ⟨hk, hx6⟩
      dsimp only at hk ⊢
      have hz6 := hx6.size
      have hr6 := hr.ext (show Ext H H6 by (repeat (first | assumption | exact Vc.Ext.refl _ | ((with_reducible apply Vc.Ext.trans); (case k => assumption)) | ((with_reducible apply Vc.Ext.but); (case k => assumption); (case hb => omega)))))
      by_cases hkl : k < i
      · obtain ⟨c, hc⟩ : ∃ c, cs[k]? = some c := ⟨_, List.getElem?_eq_getElem (by omega)⟩
        obtain ⟨w, hw⟩ : ∃ w, ws[k]? = some w := ⟨_, List.getElem?_eq_getElem (by omega)⟩
        have hC : (intsV cs)[k]? = some (.int .i64 c) := by unfold intsV; rw [List.getElem?_map, hc]; rfl
        have hO : os[k]? = some (oJ (c, w)) := by rw [← hos, List.getElem?_map, (List.getElem?_zip_eq_some (z := (c, w))).2 ⟨hc, hw⟩]; rfl
        by_cases hc0 : c = 0
        · subst hc0
          ((conv => whnf); repeat (any_goals (first | ((refine IdxA.val hr6 hn k _ rfl hC ?_; intro _ _ _); (conv => whnf)) | (refine Vc.stp ?_; intros; (conv => whnf)) | (refine Vc.spl ?_ ?_ <;> (intro _; (conv => whnf))))))
          exact ⟨k + 1, ⟨rfl, trivial⟩, ⟨by show k + 1 ≤ _; omega, hx6⟩, by show i - (k + 1) < i - k; omega⟩
        · have hin3 : isB c (jB js) = true := by
            rw [j_is hj0, List.any_eq_true, ← hjs, hpn]
            refine ⟨(if w then [opC] else [], c), List.mem_filterMap.2 ⟨_, List.mem_of_getElem? hO, if_neg hc0⟩, beq_self_eq_true c⟩
          have f3 := fun H' (k : Ext H3 H') => fis_any (m := c) k2 (ErV.ext hu0 k)
          rw [if_neg hc0, hin3] at f3
          ((conv => whnf); repeat (any_goals (first | ((refine IdxA.val hr6 hn k _ rfl hC ?_; intro _ _ _); (conv => whnf)) | ((refine (f3 _ (by (repeat (first | assumption | exact Vc.Ext.refl _ | ((with_reducible apply Vc.Ext.trans); (case k => assumption)) | ((with_reducible apply Vc.Ext.but); (case k => assumption); (case hb => omega)))))).mono ?_; rintro _ H7 ⟨rfl, hx7⟩; have hz7 := hx7.size); (conv => whnf)) | (refine Vc.stp ?_; intros; (conv => whnf)) | (refine Vc.spl ?_ ?_ <;> (intro _; (conv => whnf))))))
          exact ⟨k + 1, ⟨rfl, trivial⟩, ⟨by show k + 1 ≤ _; omega, hx6.trans hx7⟩, by show i - (k + 1) < i - k; omega⟩
      · obtain rfl : k = i := by omega
        ((conv => whnf); repeat (any_goals (first | (refine Vc.stp ?_; intros; (conv => whnf)) | (refine Vc.spl ?_ ?_ <;> (intro _; (conv => whnf))))))
        exact ⟨rfl, by (repeat (first | assumption | exact Vc.Ext.refl _ | ((with_reducible apply Vc.Ext.trans); (case k => assumption)) | ((with_reducible apply Vc.Ext.but); (case k => assumption); (case hb => omega))))⟩
end Go.Proofs.YtlgcfcdmldlefaaDoor
