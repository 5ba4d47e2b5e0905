import Derived.Test.YtlgcfcdmldlefaaDoorWd
set_option linter.unusedVariables false
set_option linter.unusedSimpArgs false
set_option maxRecDepth 100000
/- An error of several, wrapped, has all their numbers and lines, and its ops lead to the first. -/
namespace Go.Proofs.YtlgcfcdmldlefaaDoor
open Go Go.Vc Go.RowKit Go.Sort
def inC : Bs × Bs := ([105, 110], [120])
def oN (c : Int) : Option (Chain × Int) := if c = 0 then none else some ([inC], c)
theorem oN_small {x : Int} (hx : I64 x) {c : Chain × Int} (h : oN x = some c) : (Small c.1 ∧ I64 c.2) ∧ c.2 ≠ 0 ∧ c.1 = [inC] := by
  unfold oN at h
  split at h
  · cases h
  · rename_i h0
    cases h
    refine ⟨⟨⟨Nat.le_of_ble_eq_true rfl, fun y hy => ?_⟩, hx⟩, h0, rfl⟩
    simp at hy; subst hy
    exact ⟨Nat.le_of_ble_eq_true rfl, Nat.le_of_ble_eq_true rfl⟩
theorem pickN {cs : List Int} (hI : ∀ c ∈ cs, I64 c) (i : Nat) : ∀ c ∈ pick (cs.map oN) i, (Small c.1 ∧ I64 c.2) ∧ c.2 ≠ 0 ∧ c.1 = [inC] := by
  intro c hc
  unfold pick at hc
  rw [List.mem_filterMap] at hc
  obtain ⟨o, ho, h⟩ := hc
  obtain ⟨x, hx, rfl⟩ := List.mem_map.1 (List.mem_of_mem_take ho)
  exact oN_small (hI _ hx) h
def Ins (H : Heap) (js : List (Chain × Int)) (vs : List Value) : Prop := vs.length = js.length ∧ ∀ (j : Nat) c v, js[j]? = some c → vs[j]? = some v → InV H (some c) v
theorem Ins.snoc {H : Heap} {cs : List (Chain × Int)} {vs : List Value} {c : Chain × Int} {v : Value} (h : Ins H cs vs) (hv : InV H (some c) v) : Ins H (cs ++ [c]) (vs ++ [v]) := by
  refine ⟨by simp [h.1], fun i d u hd hu => ?_⟩
  by_cases hi : i < cs.length
  · rw [List.getElem?_append_left hi] at hd
    rw [List.getElem?_append_left (by rw [h.1]; exact hi)] at hu
    exact h.2 i d u hd hu
  · have hi2 := (List.getElem?_eq_some_iff.1 hd).1
    simp at hi2
    obtain rfl : i = cs.length := by omega
    rw [List.getElem?_append_right (Nat.le_refl _)] at hd
    rw [List.getElem?_append_right (by rw [h.1]; exact Nat.le_refl _), h.1] at hu
    simp at hd hu
    subst hd; subst hu; exact hv
theorem Ins.map {H H' : Heap} {cs : List (Chain × Int)} {vs : List Value} (h : Ins H cs vs) (k : ∀ o v, InV H o v → InV H' o v) : Ins H' cs vs := ⟨h.1, fun i c v h1 h2 => k _ _ (h.2 i c v h1 h2)⟩
/-- so often wrapped -/
def wk (op : Bs) : Nat → Chain
  | 0 => []
  | k + 1 => (op, Lib.itoa k) :: wk op k
theorem wk_len (op : Bs) (k : Nat) : (wk op k).length = k := by induction k with | zero => rfl | succ k ih => simp [wk, ih]
theorem wk_small (op : Bs) (ho : op.length ≤ 30) : ∀ k, k ≤ 4 → ∀ x ∈ wk op k, x.1.length ≤ 100 ∧ x.2.length ≤ 100
  | 0, _, x, hx => by cases hx
  | k + 1, hk, x, hx => by
    rcases List.mem_cons.1 hx with rfl | hx
    · have := itoa_len (k : Int) ⟨by omega, by omega⟩
      exact ⟨by show op.length ≤ 100; omega, by show (Lib.itoa k).length ≤ 100; omega⟩
    · exact wk_small op ho k (by omega) x hx
theorem wrS_app : ∀ (a b : Chain) (t : Bs), wrS (a ++ b) t = wrS a (wrS b t)
  | [], _, _ => rfl
  | x :: a, b, t => by simp only [List.cons_append, wrS, wrS_app a b t]
theorem wrS_lenk (op : Bs) (ho : op.length ≤ 30) (t : Bs) : ∀ k, k ≤ 4 → (wrS (wk op k) t).length ≤ t.length + k * 70
  | 0, _ => by simp [wk, wrS]
  | k + 1, hk => by
    have := wrS_lenk op ho t k (by omega)
    have := itoa_len (k : Int) ⟨by omega, by omega⟩
    simp only [wk, wrS, List.length_append, List.length_cons]
    omega
theorem wk_last (op : Bs) (k : Nat) : ((wk op k).map (·.1) ++ [[105, 110]])[k]? = some [105, 110] := by
  rw [List.getElem?_append_right (by rw [List.length_map, wk_len]; exact Nat.le_refl _), List.length_map, wk_len]; simp
/-- none, or an error -/
def NestV (H : Heap) (op : Bs) (k : Nat) (js : List (Chain × Int)) (v : Value) : Prop := if js = [] then v = .nilIface else ErV H (wk op k ++ jCh js) (jB js) v
theorem nb_wk {op : Bs} {k : Nat} {js : List (Chain × Int)} (hj : js ≠ []) (h0 : ∀ c ∈ js, c.2 ≠ 0 ∧ c.1 = [inC]) : noneB (wk op k ++ jCh js) (jB js) = false := by
  cases k with
  | succ k => rfl
  | zero =>
    match js, hj with
    | [c], _ =>
      obtain ⟨h1, h2⟩ := h0 c (by simp)
      show noneB c.1 (.num c.2) = false
      rw [h2]; rfl
    | _ :: _ :: _, _ => rfl
theorem NestV.ext {H H' : Heap} {op : Bs} {k : Nat} {js : List (Chain × Int)} {v : Value} (h : NestV H op k js v) (e : Ext H H') : NestV H' op k js v := by
  unfold NestV at h ⊢
  split at h
  · rename_i h0; rw [if_pos h0]; exact h
  · rename_i h0; rw [if_neg h0]; exact ErV.ext h e
structure NSt where
  k : Nat
  v : Value
set_option maxHeartbeats 4000000 in
theorem nested_law (cs : List Int) (op : Bs) (d : Int) (a : Option Addr) (n cap : Nat) (H : Heap) (hg : Glb H) (hr : Row H a (intsV cs)) (hn : (intsV cs).length = n) (hI : ∀ c ∈ cs, I64 c) (hn1 : n ≤ 9223372036854775807) (hop : op.length ≤ 9223372036854775807) (hd : 0 ≤ d ∧ d ≤ 255) :
    CallH Tryd.prog 6 [.slice a n cap, .string (mkS op), .int .u8 d] H fun v H' => v = .bool true ∧ Ext H H' := by
  refine Vc.CallH.body Tryd.func6 Tryd.call6 rfl (by decide +kernel) rfl ?_
  have hcl : cs.length = n := by rw [← hn]; simp [intsV]
  have sop : (mkS op).size = op.length := rfl
  by_cases h8 : 8 < n
  · ((conv => whnf); repeat (any_goals (first | ((refine (known6_any hg).mono ?_; rintro _ H1 ⟨rfl, hx1⟩; have hz1 := hx1.size); (conv => whnf)) | (refine Vc.stp ?_; intros; (conv => whnf)) | (refine Vc.spl ?_ ?_ <;> (intro _; (conv => whnf))))))
    all_goals exact ⟨rfl, hx1⟩
  by_cases h30 : 30 < op.length
  · ((conv => whnf); repeat (any_goals (first | ((refine (known6_any hg).mono ?_; rintro _ H1 ⟨rfl, hx1⟩; have hz1 := hx1.size); (conv => whnf)) | (refine Vc.stp ?_; intros; (conv => whnf)) | (refine Vc.spl ?_ ?_ <;> (intro _; (conv => whnf))))))
    all_goals exact ⟨rfl, hx1⟩
  ((conv => whnf); repeat (any_goals (first | ((refine (known6_any hg).mono ?_; rintro _ H1 ⟨rfl, hx1⟩; have hz1 := hx1.size); (conv => whnf)) | (refine Vc.stp ?_; intros; (conv => whnf)) | (refine Vc.spl ?_ ?_ <;> (intro _; (conv => whnf))))))
  obtain ⟨os, hos⟩ : ∃ os, cs.map oN = os := ⟨_, rfl⟩
  have hol : os.length = n := by rw [← hos, List.length_map]; omega
  have hsm := pickN hI
  rw [hos] at hsm
  have s10 : (⟨#[105, 110, 32, 120, 58, 32, 101, 114, 114, 32]⟩ : ByteArray).size = 10 := rfl
  have s1 : (⟨#[10]⟩ : ByteArray).size = 1 := rfl
  have s0 : (mkS []).size = 0 := rfl
  refine LoopH.intro (fun (x : KSt) => [(10, .int .i64 x.i), (7, .slice x.a (pick os x.i).length x.cap), (8, .string (mkS (textJ (pick os x.i)))), (9, .int .i64 (firstJ (pick os x.i)))])
    (fun x H' => x.i ≤ n ∧ Ext H H' ∧ Own H' H.size 27 1 x.a (pick os x.i).length x.cap x.vs ∧ Ins H' (pick os x.i) x.vs) (fun x => n - x.i) ⟨0, [], none, 0⟩ ⟨rfl, rfl, rfl, rfl, trivial⟩ ⟨Nat.zero_le _, hx1, Own.nil _ _ _ _, rfl, fun j o v _ h => by simp at h⟩ ?_
  rintro ⟨i, vs, a1, c1⟩ H2 ⟨hi, hx2, ho, hin⟩
  dsimp only at hi ho hin ⊢
  have hz2 := hx2.size
  have hpl := pick_len os i
  have htl := textJ_len (pick os i) (by omega) fun c hc => (hsm i c hc).1
  have stx : (mkS (textJ (pick os i))).size = (textJ (pick os i)).length := rfl
  by_cases hlt : i < n
  · obtain ⟨c, hc⟩ : ∃ c, cs[i]? = some c := ⟨_, List.getElem?_eq_getElem (by omega)⟩
    have hC : (intsV cs)[i]? = some (.int .i64 c) := by unfold intsV; rw [List.getElem?_map, hc]; rfl
    have hO : os[i]? = some (oN c) := by rw [← hos, List.getElem?_map, hc]; rfl
    have hIc := hI c (List.mem_of_getElem? hc)
    have hps := pick_succ hO
    by_cases hc0 : c = 0
    · subst hc0
      have ho0 : oN 0 = none := rfl
      rw [ho0] at hps
      simp only [Option.toList, List.append_nil] at hps
      ((conv => whnf); repeat (any_goals (first | ((refine NeedH.mk ⟨by (simp only [ByteArray.size_append]; omega), ?_⟩); (conv => whnf)) | ((refine IdxA.val hr hn i _ rfl hC ?_; intro _ _ _); (conv => whnf)) | ((refine (hdec _ (by (repeat (first | assumption | exact Vc.Ext.refl _ | ((with_reducible apply Vc.Ext.trans); (case k => assumption)) | ((with_reducible apply Vc.Ext.but); (case k => assumption); (case hb => omega)))))).mono ?_; rintro _ H6 ⟨rfl, hx6⟩; have hz6 := hx6.size); (conv => whnf)) | ((refine (hwrap _ (by (repeat (first | assumption | exact Vc.Ext.refl _ | ((with_reducible apply Vc.Ext.trans); (case k => assumption)) | ((with_reducible apply Vc.Ext.but); (case k => assumption); (case hb => omega)))))).mono ?_; rintro v3 H4 ⟨hv3, hx4⟩; have hz4 := hx4.size; have hv0 := hv3; obtain ⟨t3, y3, rfl⟩ := ErV.iface hv3); (conv => whnf)) | ((refine NextH.push1w (by assumption) (ho.ext (by (repeat (first | assumption | exact Vc.Ext.refl _ | ((with_reducible apply Vc.Ext.trans); (case k => assumption)) | ((with_reducible apply Vc.Ext.but); (case k => assumption); (case hb => omega)))))) (by (repeat (first | assumption | exact Vc.Ext.refl _ | ((with_reducible apply Vc.Ext.trans); (case k => assumption)) | ((with_reducible apply Vc.Ext.but); (case k => assumption); (case hb => omega))))) (by omega) rfl ⟨_, rfl, fun _ h => by cases h⟩ rfl rfl rfl rfl rfl rfl rfl ?_; intro a5 c5 H5 ho5 hx5 hw5); (conv => whnf)) | (refine Vc.stp ?_; intros; (conv => whnf)) | (refine Vc.spl ?_ ?_ <;> (intro _; (conv => whnf))))))
      exact ⟨⟨i + 1, vs, a1, c1⟩, ⟨rfl, by dsimp only; rw [hps]; rfl, by dsimp only; rw [hps]; rfl, by dsimp only; rw [hps]; rfl, trivial⟩, ⟨by show i + 1 ≤ _; omega, hx2, by dsimp only; rw [hps]; exact ho, by dsimp only; rw [hps]; exact hin⟩, by show n - (i + 1) < n - i; omega⟩
    · have hcn : (c == 0) = false := beq_eq_false_iff_ne.2 hc0
      have hoc : oN c = some ([inC], c) := if_neg hc0
      rw [hoc] at hps
      simp only [Option.toList] at hps
      have htn := textJ_snoc (pick os i) ([inC], c)
      have hfn := firstJ_snoc (pick os i) ([inC], c)
      rw [← hps] at htn hfn
      have hln : (pick os (i + 1)).length = (pick os i).length + 1 := by rw [hps, List.length_append]; rfl
      have hdec := fun H' (k : Ext H H') => dec_any c hIc H'
      have hdl := itoa_len c hIc
      have sit : (mkS (Lib.itoa c)).size = (Lib.itoa c).length := rfl
      have hwrap := fun H' (k : Ext H2 H') => wrap_some [105, 110] [120] (ws := []) (b := .num c) (H := H') (v := .iface 25 (.int .i64 c)) hcn rfl
      by_cases hp0 : pick os i = []
      · rw [if_pos hp0, hp0, textJ_nil, List.nil_append, List.nil_append] at htn
        rw [if_pos hp0] at hfn
        have hf0 : firstJ (pick os i) = 0 := by rw [hp0]; rfl
        have ht0 : textJ (pick os i) = [] := by rw [hp0]; rfl
        rw [hf0]
        rw [ht0] at stx htl ⊢
        ((conv => whnf); repeat (any_goals (first | ((refine NeedH.mk ⟨by (simp only [ByteArray.size_append]; omega), ?_⟩); (conv => whnf)) | ((refine IdxA.val hr hn i _ rfl hC ?_; intro _ _ _); (conv => whnf)) | ((refine (hdec _ (by (repeat (first | assumption | exact Vc.Ext.refl _ | ((with_reducible apply Vc.Ext.trans); (case k => assumption)) | ((with_reducible apply Vc.Ext.but); (case k => assumption); (case hb => omega)))))).mono ?_; rintro _ H6 ⟨rfl, hx6⟩; have hz6 := hx6.size); (conv => whnf)) | ((refine (hwrap _ (by (repeat (first | assumption | exact Vc.Ext.refl _ | ((with_reducible apply Vc.Ext.trans); (case k => assumption)) | ((with_reducible apply Vc.Ext.but); (case k => assumption); (case hb => omega)))))).mono ?_; rintro v3 H4 ⟨hv3, hx4⟩; have hz4 := hx4.size; have hv0 := hv3; obtain ⟨t3, y3, rfl⟩ := ErV.iface hv3); (conv => whnf)) | ((refine NextH.push1w (by assumption) (ho.ext (by (repeat (first | assumption | exact Vc.Ext.refl _ | ((with_reducible apply Vc.Ext.trans); (case k => assumption)) | ((with_reducible apply Vc.Ext.but); (case k => assumption); (case hb => omega)))))) (by (repeat (first | assumption | exact Vc.Ext.refl _ | ((with_reducible apply Vc.Ext.trans); (case k => assumption)) | ((with_reducible apply Vc.Ext.but); (case k => assumption); (case hb => omega))))) (by omega) rfl ⟨_, rfl, fun _ h => by cases h⟩ rfl rfl rfl rfl rfl rfl rfl ?_; intro a5 c5 H5 ho5 hx5 hw5); (conv => whnf)) | (refine Vc.stp ?_; intros; (conv => whnf)) | (refine Vc.spl ?_ ?_ <;> (intro _; (conv => whnf))))))
        exact ⟨⟨i + 1, vs ++ [.iface t3 y3], a5, c5⟩, ⟨rfl, by (dsimp only; rw [hln]; rfl), by (show Value.string ((mkS [] ++ mkS [105, 110, 32, 120, 58, 32, 101, 114, 114, 32]) ++ mkS (Lib.itoa c)) = Value.string (mkS (textJ (pick os (i + 1)))); rw [htn]; simp only [mkS_app, List.append_assoc]; rfl), by (dsimp only; rw [hfn]; rfl), trivial⟩,
          ⟨by show i + 1 ≤ _; omega, by (repeat (first | assumption | exact Vc.Ext.refl _ | ((with_reducible apply Vc.Ext.trans); (case k => assumption)) | ((with_reducible apply Vc.Ext.but); (case k => assumption); (case hb => omega)))), by (show Own _ H.size _ 1 a5 (pick os (i + 1)).length c5 (vs ++ [_]); rw [hln]; exact ho5.ext (by (repeat (first | assumption | exact Vc.Ext.refl _ | ((with_reducible apply Vc.Ext.trans); (case k => assumption)) | ((with_reducible apply Vc.Ext.but); (case k => assumption); (case hb => omega)))))), by (show Ins _ (pick os (i + 1)) (vs ++ [_]); rw [hps]; exact Ins.snoc (hin.map fun o v h => InV.ext (InV.wr (InV.ext h (by (repeat (first | assumption | exact Vc.Ext.refl _ | ((with_reducible apply Vc.Ext.trans); (case k => assumption)) | ((with_reducible apply Vc.Ext.but); (case k => assumption); (case hb => omega)))))) (ho.ext (by (repeat (first | assumption | exact Vc.Ext.refl _ | ((with_reducible apply Vc.Ext.trans); (case k => assumption)) | ((with_reducible apply Vc.Ext.but); (case k => assumption); (case hb => omega)))))) hw5) (by (repeat (first | assumption | exact Vc.Ext.refl _ | ((with_reducible apply Vc.Ext.trans); (case k => assumption)) | ((with_reducible apply Vc.Ext.but); (case k => assumption); (case hb => omega)))))) ⟨WrV.mono (by (repeat (first | assumption | exact Vc.Ext.refl _ | ((with_reducible apply Vc.Ext.trans); (case k => assumption)) | ((with_reducible apply Vc.Ext.but); (case k => assumption); (case hb => omega))))) (fun _ h => h) _ _ (WrV.wr (m := c) (ho.ext (by (repeat (first | assumption | exact Vc.Ext.refl _ | ((with_reducible apply Vc.Ext.trans); (case k => assumption)) | ((with_reducible apply Vc.Ext.but); (case k => assumption); (case hb => omega)))))) hw5 _ _ (WrV.mono (by (repeat (first | assumption | exact Vc.Ext.refl _ | ((with_reducible apply Vc.Ext.trans); (case k => assumption)) | ((with_reducible apply Vc.Ext.but); (case k => assumption); (case hb => omega))))) (fun _ h => h) _ _ hv0)), rfl⟩)⟩, by show n - (i + 1) < n - i; omega⟩
      · rw [if_neg hp0] at htn hfn
        have hf0 : firstJ (pick os i) ≠ 0 := by
          cases hp : pick os i with
          | nil => exact absurd hp hp0
          | cons x l => exact (hsm i x (by rw [hp]; simp)).2.1
        ((conv => whnf); repeat (any_goals (first | ((refine NeedH.mk ⟨by (simp only [ByteArray.size_append]; omega), ?_⟩); (conv => whnf)) | ((refine IdxA.val hr hn i _ rfl hC ?_; intro _ _ _); (conv => whnf)) | ((refine (hdec _ (by (repeat (first | assumption | exact Vc.Ext.refl _ | ((with_reducible apply Vc.Ext.trans); (case k => assumption)) | ((with_reducible apply Vc.Ext.but); (case k => assumption); (case hb => omega)))))).mono ?_; rintro _ H6 ⟨rfl, hx6⟩; have hz6 := hx6.size); (conv => whnf)) | ((refine (hwrap _ (by (repeat (first | assumption | exact Vc.Ext.refl _ | ((with_reducible apply Vc.Ext.trans); (case k => assumption)) | ((with_reducible apply Vc.Ext.but); (case k => assumption); (case hb => omega)))))).mono ?_; rintro v3 H4 ⟨hv3, hx4⟩; have hz4 := hx4.size; have hv0 := hv3; obtain ⟨t3, y3, rfl⟩ := ErV.iface hv3); (conv => whnf)) | ((refine NextH.push1w (by assumption) (ho.ext (by (repeat (first | assumption | exact Vc.Ext.refl _ | ((with_reducible apply Vc.Ext.trans); (case k => assumption)) | ((with_reducible apply Vc.Ext.but); (case k => assumption); (case hb => omega)))))) (by (repeat (first | assumption | exact Vc.Ext.refl _ | ((with_reducible apply Vc.Ext.trans); (case k => assumption)) | ((with_reducible apply Vc.Ext.but); (case k => assumption); (case hb => omega))))) (by omega) rfl ⟨_, rfl, fun _ h => by cases h⟩ rfl rfl rfl rfl rfl rfl rfl ?_; intro a5 c5 H5 ho5 hx5 hw5); (conv => whnf)) | (refine Vc.stp ?_; intros; (conv => whnf)) | (refine Vc.spl ?_ ?_ <;> (intro _; (conv => whnf))))))
        exact ⟨⟨i + 1, vs ++ [.iface t3 y3], a5, c5⟩, ⟨rfl, by (dsimp only; rw [hln]; rfl), by (show Value.string (((mkS (textJ (pick os i)) ++ mkS [10]) ++ mkS [105, 110, 32, 120, 58, 32, 101, 114, 114, 32]) ++ mkS (Lib.itoa c)) = Value.string (mkS (textJ (pick os (i + 1)))); rw [htn]; simp only [mkS_app, List.append_assoc]; rfl), by (dsimp only; rw [hfn]; rfl), trivial⟩,
          ⟨by show i + 1 ≤ _; omega, by (repeat (first | assumption | exact Vc.Ext.refl _ | ((with_reducible apply Vc.Ext.trans); (case k => assumption)) | ((with_reducible apply Vc.Ext.but); (case k => assumption); (case hb => omega)))), by (show Own _ H.size _ 1 a5 (pick os (i + 1)).length c5 (vs ++ [_]); rw [hln]; exact ho5.ext (by (repeat (first | assumption | exact Vc.Ext.refl _ | ((with_reducible apply Vc.Ext.trans); (case k => assumption)) | ((with_reducible apply Vc.Ext.but); (case k => assumption); (case hb => omega)))))), by (show Ins _ (pick os (i + 1)) (vs ++ [_]); rw [hps]; exact Ins.snoc (hin.map fun o v h => InV.ext (InV.wr (InV.ext h (by (repeat (first | assumption | exact Vc.Ext.refl _ | ((with_reducible apply Vc.Ext.trans); (case k => assumption)) | ((with_reducible apply Vc.Ext.but); (case k => assumption); (case hb => omega)))))) (ho.ext (by (repeat (first | assumption | exact Vc.Ext.refl _ | ((with_reducible apply Vc.Ext.trans); (case k => assumption)) | ((with_reducible apply Vc.Ext.but); (case k => assumption); (case hb => omega)))))) hw5) (by (repeat (first | assumption | exact Vc.Ext.refl _ | ((with_reducible apply Vc.Ext.trans); (case k => assumption)) | ((with_reducible apply Vc.Ext.but); (case k => assumption); (case hb => omega)))))) ⟨WrV.mono (by (repeat (first | assumption | exact Vc.Ext.refl _ | ((with_reducible apply Vc.Ext.trans); (case k => assumption)) | ((with_reducible apply Vc.Ext.but); (case k => assumption); (case hb => omega))))) (fun _ h => h) _ _ (WrV.wr (m := c) (ho.ext (by (repeat (first | assumption | exact Vc.Ext.refl _ | ((with_reducible apply Vc.Ext.trans); (case k => assumption)) | ((with_reducible apply Vc.Ext.but); (case k => assumption); (case hb => omega)))))) hw5 _ _ (WrV.mono (by (repeat (first | assumption | exact Vc.Ext.refl _ | ((with_reducible apply Vc.Ext.trans); (case k => assumption)) | ((with_reducible apply Vc.Ext.but); (case k => assumption); (case hb => omega))))) (fun _ h => h) _ _ hv0)), rfl⟩)⟩, by show n - (i + 1) < n - i; omega⟩
  · obtain rfl : i = n := by omega
    have hpn : pick os i = os.filterMap id := by unfold pick; rw [List.take_of_length_le (by omega)]
    obtain ⟨js, hjs⟩ : ∃ js, pick os i = js := ⟨_, rfl⟩
    have hsj := hsm i
    rw [hjs] at hin ho hsj hpl htl stx ⊢
    have hjo := fun H' (k : Ext H2 H') => ejoin_any (js.map some) vs a1 js.length c1 H' (ho.row.ext k) hin.1 (by rw [List.length_map]) (by omega) fun j o v h1 h2 => by
      rw [List.getElem?_map, Option.map_eq_some_iff] at h1
      obtain ⟨c, h1, rfl⟩ := h1
      exact InV.ext (hin.2 j c v h1 h2) k
    have hfm : (js.map some).filterMap id = js := by rw [List.filterMap_map]; simp
    rw [hfm] at hjo
    have hsj1 : ∀ c ∈ js, Small c.1 ∧ I64 c.2 := fun c hc => (hsj c hc).1
    have hsj2 : ∀ c ∈ js, c.2 ≠ 0 ∧ c.1 = [inC] := fun c hc => (hsj c hc).2
    ((conv => whnf); repeat (any_goals (first | ((refine (hjo _ (by (repeat (first | assumption | exact Vc.Ext.refl _ | ((with_reducible apply Vc.Ext.trans); (case k => assumption)) | ((with_reducible apply Vc.Ext.but); (case k => assumption); (case hb => omega)))))).mono ?_; rintro u H3 ⟨hu, hx3⟩; have hz3 := hx3.size); (conv => whnf)) | (refine Vc.stp ?_; intros; (conv => whnf)) | (refine Vc.spl ?_ ?_ <;> (intro _; (conv => whnf))))))
    obtain ⟨q, hq, hq4⟩ : ∃ q : Nat, d % 4 = q ∧ q ≤ 3 := ⟨(d % 4).toNat, by omega, by omega⟩
    refine LoopH.intro (fun (x : NSt) => [(12, .int .i64 x.k), (11, x.v), (8, .string (mkS (wrS (wk op x.k) (textJ js))))]) (fun x H' => x.k ≤ q ∧ Ext H3 H' ∧ NestV H' op x.k js x.v) (fun x => q - x.k) ⟨0, u⟩ ⟨rfl, rfl, rfl, trivial⟩ ⟨Nat.zero_le _, by (repeat (first | assumption | exact Vc.Ext.refl _ | ((with_reducible apply Vc.Ext.trans); (case k => assumption)) | ((with_reducible apply Vc.Ext.but); (case k => assumption); (case hb => omega)))), ?_⟩ ?_
    · show NestV H3 op 0 js u
      unfold NestV
      split
      · rename_i h; subst h; exact hu
      · rename_i h; exact joinV_err hu h
    rintro ⟨k, v⟩ H4 ⟨hk, hx4, hv⟩
    dsimp only at hk hv ⊢
    have hz4 := hx4.size
    have hIk : I64 (k : Int) := ⟨by omega, by omega⟩
    have hdl := itoa_len (k : Int) hIk
    have hwl := wrS_lenk op (by omega) (textJ js) k (by omega)
    have sit : (mkS (Lib.itoa k)).size = (Lib.itoa k).length := rfl
    have swt : (mkS (wrS (wk op k) (textJ js))).size = (wrS (wk op k) (textJ js)).length := rfl
    have s11 : (⟨#[32]⟩ : ByteArray).size = 1 := rfl
    have s12 : (⟨#[58, 32]⟩ : ByteArray).size = 2 := rfl
    have hdec := fun H' (k' : Ext H4 H') => dec_any (k : Int) hIk H'
    by_cases hkq : k < q
    · have hwrap : ∀ H', Ext H4 H' → CallH Tryd.prog 16 [.string (mkS op), .string (mkS (Lib.itoa k)), v] H' fun u H'' => NestV H'' op (k + 1) js u ∧ Ext H' H'' := by
        intro H' k'
        unfold NestV at hv ⊢
        split at hv
        · rename_i h; subst hv
          exact (wrap_nil _ _ _).mono fun u H'' ⟨h1, h2⟩ => ⟨by rw [if_pos h]; exact h1, h2 ▸ Ext.refl _⟩
        · rename_i h
          exact (wrap_some op (Lib.itoa k) (nb_wk h hsj2) (ErV.ext hv k')).mono fun u H'' ⟨h1, h2⟩ => ⟨by rw [if_neg h]; exact h1, h2⟩
      ((conv => whnf); repeat (any_goals (first | ((refine NeedH.mk ⟨by (simp only [ByteArray.size_append]; omega), ?_⟩); (conv => whnf)) | ((refine (hdec _ (by (repeat (first | assumption | exact Vc.Ext.refl _ | ((with_reducible apply Vc.Ext.trans); (case k => assumption)) | ((with_reducible apply Vc.Ext.but); (case k => assumption); (case hb => omega)))))).mono ?_; rintro _ H6 ⟨rfl, hx6⟩; have hz6 := hx6.size); (conv => whnf)) | ((refine (hwrap _ (by (repeat (first | assumption | exact Vc.Ext.refl _ | ((with_reducible apply Vc.Ext.trans); (case k => assumption)) | ((with_reducible apply Vc.Ext.but); (case k => assumption); (case hb => omega)))))).mono ?_; rintro v3 H7 ⟨hv3, hx7⟩; have hz7 := hx7.size); (conv => whnf)) | (refine Vc.stp ?_; intros; (conv => whnf)) | (refine Vc.spl ?_ ?_ <;> (intro _; (conv => whnf))))))
      exact ⟨⟨k + 1, v3⟩, ⟨rfl, rfl, by (show Value.string ((((mkS op ++ mkS [32]) ++ mkS (Lib.itoa k)) ++ mkS [58, 32]) ++ mkS (wrS (wk op k) (textJ js))) = Value.string (mkS (wrS (wk op (k + 1)) (textJ js))); simp only [mkS_app, wk, wrS, List.append_assoc]; rfl), trivial⟩, ⟨by show k + 1 ≤ _; omega, by (repeat (first | assumption | exact Vc.Ext.refl _ | ((with_reducible apply Vc.Ext.trans); (case k => assumption)) | ((with_reducible apply Vc.Ext.but); (case k => assumption); (case hb => omega)))), NestV.ext hv3 (by (repeat (first | assumption | exact Vc.Ext.refl _ | ((with_reducible apply Vc.Ext.trans); (case k => assumption)) | ((with_reducible apply Vc.Ext.but); (case k => assumption); (case hb => omega)))))⟩, by show q - (k + 1) < q - k; omega⟩
    · obtain rfl : k = q := by omega
      by_cases hj0 : js = []
      · subst hj0
        have hv : v = .nilIface := hv
        subst hv
        ((conv => whnf); repeat (any_goals (first | (refine Vc.stp ?_; intros; (conv => whnf)) | (refine Vc.spl ?_ ?_ <;> (intro _; (conv => whnf))))))
        exact ⟨rfl, by (repeat (first | assumption | exact Vc.Ext.refl _ | ((with_reducible apply Vc.Ext.trans); (case k => assumption)) | ((with_reducible apply Vc.Ext.but); (case k => assumption); (case hb => omega))))⟩
      · have hj1 : 0 < js.length := List.length_pos_iff.2 hj0
        have hv : ErV H4 (wk op k ++ jCh js) (jB js) v := by unfold NestV at hv; rw [if_neg hj0] at hv; exact hv
        have hf0 : firstJ js ≠ 0 := by
          cases js with
          | nil => exact absurd rfl hj0
          | cons x l => exact (hsj2 x (by simp)).1
        have e1 : wrS (wk op k ++ jCh js) (basT (jB js)) = wrS (wk op k) (textJ js) := by rw [wrS_app, j_text hj0]
        have e2 := j_code hj0
        obtain ⟨k1, k2⟩ := j_ok hj0 (by omega) hsj1
        have hjl : (jCh js).length ≤ 1 := by
          match js, hj0, hsj2 with
          | [c], _, h => show c.1.length ≤ 1; rw [(h c (by simp)).2]; exact Nat.le_refl _
          | _ :: _ :: _, _, _ => exact Nat.zero_le _
        have k3 : Small (wk op k ++ jCh js) := ⟨by rw [List.length_append, wk_len]; omega, fun x hx => (List.mem_append.1 hx).elim (wk_small op (by omega) k (by omega) x) (k1.2 x)⟩
        have e3 : (wk op k ++ jCh js).map (fun z : Bs × Bs => z.1) ++ opsB (jB js) = (wk op k).map (fun z : Bs × Bs => z.1) ++ [[105, 110]] := by
          rw [List.map_append, List.append_assoc, j_ops hj0]
          cases js with
          | nil => exact absurd rfl hj0
          | cons x l => show (wk op k).map (fun z : Bs × Bs => z.1) ++ x.1.map (fun z : Bs × Bs => z.1) = _; rw [(hsj2 x (by simp)).2]; rfl
        have hlast := wk_last op k
        have hWl : ((wk op k).map (fun z : Bs × Bs => z.1) ++ [[105, 110]]).length = k + 1 := by rw [List.length_append, List.length_map, wk_len]; rfl
        obtain ⟨W, hW⟩ : ∃ W, (wk op k).map (fun z : Bs × Bs => z.1) ++ [[105, 110]] = W := ⟨_, rfl⟩
        have hg4 := hg.ext (show Ext H H4 by (repeat (first | assumption | exact Vc.Ext.refl _ | ((with_reducible apply Vc.Ext.trans); (case k => assumption)) | ((with_reducible apply Vc.Ext.but); (case k => assumption); (case hb => omega)))))
        have hv0 := hv
        obtain ⟨t3, y3, rfl⟩ := ErV.iface hv
        have f1 := fun H' (k : Ext H4 H') => text_err (hg4.ext k) k3 k2 (ErV.ext hv0 k)
        have f2 := fun H' (k : Ext H4 H') => code_any (hg4.ext k) k3 k2 (ErV.ext hv0 k)
        have f5 := fun H' (k : Ext H4 H') => ops_any (hg4.ext k) k3 k2 (ErV.ext hv0 k)
        rw [e1] at f1
        rw [e2] at f2
        rw [e3, hW] at f5
        rw [hW] at hlast hWl
        ((conv => whnf); repeat (any_goals (first | ((refine (f5 _ (by (repeat (first | assumption | exact Vc.Ext.refl _ | ((with_reducible apply Vc.Ext.trans); (case k => assumption)) | ((with_reducible apply Vc.Ext.but); (case k => assumption); (case hb => omega)))))).mono ?_; rintro _ H5 ⟨⟨a6, c6, rfl, hc6, hr6⟩, hx5⟩; have hz5 := hx5.size); (conv => whnf)) | ((refine (f1 _ (by (repeat (first | assumption | exact Vc.Ext.refl _ | ((with_reducible apply Vc.Ext.trans); (case k => assumption)) | ((with_reducible apply Vc.Ext.but); (case k => assumption); (case hb => omega)))))).mono ?_; rintro _ H6 ⟨rfl, hx6⟩; have hz6 := hx6.size); (conv => whnf)) | ((refine (f2 _ (by (repeat (first | assumption | exact Vc.Ext.refl _ | ((with_reducible apply Vc.Ext.trans); (case k => assumption)) | ((with_reducible apply Vc.Ext.but); (case k => assumption); (case hb => omega)))))).mono ?_; rintro _ H7 ⟨rfl, hx7⟩; have hz7 := hx7.size); (conv => whnf)) | ((refine IdxA.strv hr6 rfl k [105, 110] (by omega) hlast ?_; intro _ _ _ _ _); (conv => whnf)) | (refine Vc.stp ?_; intros; (conv => whnf)) | (refine Vc.spl ?_ ?_ <;> (intro _; (conv => whnf))))))
        refine LoopH.intro (fun (x : Nat) => [(14, .int .i64 x)]) (fun x H' => x ≤ i ∧ Ext H4 H') (fun x => i - x) 0 ⟨rfl, trivial⟩ ⟨Nat.zero_le _, by (repeat (first | assumption | exact Vc.Ext.refl _ | ((with_reducible apply Vc.Ext.trans); (case k => assumption)) | ((with_reducible apply Vc.Ext.but); (case k => assumption); (case hb => omega))))⟩ ?_
        rintro l H8 ⟨hl, hx8⟩
        dsimp only at hl ⊢
        have hz8 := hx8.size
        have hr8 := hr.ext (show Ext H H8 by (repeat (first | assumption | exact Vc.Ext.refl _ | ((with_reducible apply Vc.Ext.trans); (case k => assumption)) | ((with_reducible apply Vc.Ext.but); (case k => assumption); (case hb => omega)))))
        by_cases hli : l < i
        · obtain ⟨c, hc⟩ : ∃ c, cs[l]? = some c := ⟨_, List.getElem?_eq_getElem (by omega)⟩
          have hC : (intsV cs)[l]? = some (.int .i64 c) := by unfold intsV; rw [List.getElem?_map, hc]; rfl
          have hO : os[l]? = some (oN c) := by rw [← hos, List.getElem?_map, hc]; rfl
          by_cases hc0 : c = 0
          · subst hc0
            ((conv => whnf); repeat (any_goals (first | ((refine IdxA.val hr8 hn l _ rfl hC ?_; intro _ _ _); (conv => whnf)) | (refine Vc.stp ?_; intros; (conv => whnf)) | (refine Vc.spl ?_ ?_ <;> (intro _; (conv => whnf))))))
            exact ⟨l + 1, ⟨rfl, trivial⟩, ⟨by show l + 1 ≤ _; omega, hx8⟩, by show i - (l + 1) < i - l; omega⟩
          · have hin3 : isB c (jB js) = true := by
              rw [j_is hj0, List.any_eq_true, ← hjs, hpn]
              exact ⟨([inC], c), List.mem_filterMap.2 ⟨_, List.mem_of_getElem? hO, if_neg hc0⟩, beq_self_eq_true c⟩
            have f3 := fun H' (k : Ext H4 H') => fis_any (m := c) k2 (ErV.ext hv0 k)
            have f4 := fun H' (k : Ext H4 H') => is6_any (m := c) k2 (ErV.ext hv0 k)
            rw [if_neg hc0, hin3] at f3
            rw [hin3] at f4
            ((conv => whnf); repeat (any_goals (first | ((refine IdxA.val hr8 hn l _ rfl hC ?_; intro _ _ _); (conv => whnf)) | ((refine (f3 _ (by (repeat (first | assumption | exact Vc.Ext.refl _ | ((with_reducible apply Vc.Ext.trans); (case k => assumption)) | ((with_reducible apply Vc.Ext.but); (case k => assumption); (case hb => omega)))))).mono ?_; rintro _ H9 ⟨rfl, hx9⟩; have hz9 := hx9.size); (conv => whnf)) | ((refine (f4 _ (by (repeat (first | assumption | exact Vc.Ext.refl _ | ((with_reducible apply Vc.Ext.trans); (case k => assumption)) | ((with_reducible apply Vc.Ext.but); (case k => assumption); (case hb => omega)))))).mono ?_; rintro _ H10 ⟨rfl, hx10⟩; have hz10 := hx10.size); (conv => whnf)) | (refine Vc.stp ?_; intros; (conv => whnf)) | (refine Vc.spl ?_ ?_ <;> (intro _; (conv => whnf))))))
            exact ⟨l + 1, ⟨rfl, trivial⟩, ⟨by show l + 1 ≤ _; omega, by (repeat (first | assumption | exact Vc.Ext.refl _ | ((with_reducible apply Vc.Ext.trans); (case k => assumption)) | ((with_reducible apply Vc.Ext.but); (case k => assumption); (case hb => omega))))⟩, by show i - (l + 1) < i - l; omega⟩
        · obtain rfl : l = i := by omega
          ((conv => whnf); repeat (any_goals (first | (refine Vc.stp ?_; intros; (conv => whnf)) | (refine Vc.spl ?_ ?_ <;> (intro _; (conv => whnf))))))
          exact ⟨rfl, by (repeat (first | assumption | exact Vc.Ext.refl _ | ((with_reducible apply Vc.Ext.trans); (case k => assumption)) | ((with_reducible apply Vc.Ext.but); (case k => assumption); (case hb => omega))))⟩
end Go.Proofs.YtlgcfcdmldlefaaDoor
