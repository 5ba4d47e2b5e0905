import Derived.Test.YtlgcfcdmldlefaaDoorVk
set_option linter.unusedVariables false
set_option linter.unusedSimpArgs false
set_option maxRecDepth 100000
/- Errors, joined. -/
namespace Go.Proofs.YtlgcfcdmldlefaaDoor
open Go Go.Vc Go.RowKit Go.Sort
/-- what is handed in: none, or an error that is one -/
def InV (H : Heap) : Option (Chain × Int) → Value → Prop
  | none, v => v = .nilIface ∨ v = .iface 25 (.int .i64 0)
  | some c, v => WrV H c.1 (NumV c.2) v ∧ noneB c.1 (.num c.2) = false
def Ers (H : Heap) (cs : List (Chain × Int)) (vs : List Value) : Prop := vs.length = cs.length ∧ ∀ (i : Nat) c v, cs[i]? = some c → vs[i]? = some v → WrV H c.1 (NumV c.2) v
theorem InV.ext {H H' : Heap} {o : Option (Chain × Int)} {v : Value} (h : InV H o v) (k : Ext H H') : InV H' o v := by
  cases o with
  | none => exact h
  | some c => exact ⟨WrV.mono k (fun _ h => h) _ _ h.1, h.2⟩
theorem Ers.nil (H : Heap) : Ers H [] [] := ⟨rfl, fun i c v h => by simp at h⟩
theorem Ers.ext {H H' : Heap} {cs : List (Chain × Int)} {vs : List Value} (h : Ers H cs vs) (k : Ext H H') : Ers H' cs vs := ⟨h.1, fun i c v hc hv => WrV.mono k (fun _ h => h) _ _ (h.2 i c v hc hv)⟩
theorem Ers.snoc {H : Heap} {cs : List (Chain × Int)} {vs : List Value} {c : Chain × Int} {v : Value} (h : Ers H cs vs) (hv : WrV H c.1 (NumV c.2) v) : Ers H (cs ++ [c]) (vs ++ [v]) := by
  refine ⟨by simp [h.1], fun i d u hd hu => ?_⟩
  by_cases hi : i < cs.length
  · rw [List.getElem?_append_left hi] at hd
    rw [List.getElem?_append_left (by rw [h.1]; exact hi)] at hu
    exact h.2 i d u hd hu
  · have hi2 := (List.getElem?_eq_some_iff.1 hd).1
    simp at hi2
    obtain rfl : i = cs.length := by omega
    rw [List.getElem?_append_right (Nat.le_refl _)] at hd
    rw [List.getElem?_append_right (by rw [h.1]; exact Nat.le_refl _), h.1] at hu
    simp at hd hu
    subst hd; subst hu; exact hv
/-- what they come to -/
def JoinV (H : Heap) : List (Chain × Int) → Value → Prop
  | [], v => v = .nilIface
  | [c], v => WrV H c.1 (NumV c.2) v
  | cs, v => BasV H (.join cs) v
def pick (os : List (Option (Chain × Int))) (i : Nat) : List (Chain × Int) := (os.take i).filterMap id
theorem pick_succ {os : List (Option (Chain × Int))} {i : Nat} {o : Option (Chain × Int)} (h : os[i]? = some o) : pick os (i + 1) = pick os i ++ o.toList := by
  unfold pick
  rw [List.take_add_one, h, List.filterMap_append]
  cases o <;> rfl
structure JSt where
  i : Nat
  out : List Value
  a : Option Addr
  cap : Nat
set_option maxHeartbeats 4000000 in
theorem ejoin_any (os : List (Option (Chain × Int))) (vs : List Value) (a : Option Addr) (n cap : Nat) (H : Heap) (hr : Row H a vs) (hn : vs.length = n) (ho : os.length = n) (hm : n ≤ 20) (hin : ∀ (i : Nat) o v, os[i]? = some o → vs[i]? = some v → InV H o v) :
    CallH Tryd.prog 25 [.slice a n cap] H fun u H' => JoinV H' (os.filterMap id) u ∧ Ext H H' := by
  refine Vc.CallH.body Tryd.func25 Tryd.call25 rfl (by decide +kernel) rfl ?_
  ((conv => whnf); repeat (any_goals (first | (refine Vc.stp ?_; intros; (conv => whnf)) | (refine Vc.spl ?_ ?_ <;> (intro _; (conv => whnf))))))
  refine LoopH.intro (fun (x : JSt) => [(8, .int .i64 x.i), (3, .slice x.a x.out.length x.cap)]) (fun x H' => x.i ≤ n ∧ Own H' H.size 27 1 x.a x.out.length x.cap x.out ∧ Ext H H' ∧ Ers H (pick os x.i) x.out ∧ x.out.length ≤ x.i) (fun x => n - x.i) ⟨0, [], none, 0⟩ ⟨rfl, rfl, trivial⟩ ⟨Nat.zero_le _, Own.nil _ _ _ _, Ext.refl _, Ers.nil _, Nat.le_refl _⟩ ?_
  rintro ⟨i, out, a1, c1⟩ H2 ⟨hi, ho2, hx2, he, hle⟩
  dsimp only at hi ho2 he hle ⊢
  have hz2 := hx2.size
  have hrow := hr.ext hx2
  by_cases hlt : i < n
  · obtain ⟨o, hO⟩ : ∃ o, os[i]? = some o := ⟨_, List.getElem?_eq_getElem (by omega)⟩
    obtain ⟨v, hV⟩ : ∃ v, vs[i]? = some v := ⟨_, List.getElem?_eq_getElem (by omega)⟩
    have hv := hin i o v hO hV
    have hp := pick_succ hO
    cases o with
    | none =>
      simp only [Option.toList, List.append_nil] at hp
      rcases hv with rfl | rfl
      · ((conv => whnf); repeat (any_goals (first | ((refine IdxA.val hrow hn i _ rfl hV ?_; intro _ _ _); (conv => whnf)) | ((refine (none_nil _).mono ?_; rintro _ _ ⟨rfl, rfl⟩); (conv => whnf)) | (refine Vc.stp ?_; intros; (conv => whnf)) | (refine Vc.spl ?_ ?_ <;> (intro _; (conv => whnf))))))
        exact ⟨⟨i + 1, out, a1, c1⟩, ⟨rfl, rfl, trivial⟩, ⟨by show i + 1 ≤ _; omega, ho2, hx2, by show Ers _ (pick os (i + 1)) _; rw [hp]; exact he, by show out.length ≤ i + 1; omega⟩, by show n - (i + 1) < n - i; omega⟩
      · ((conv => whnf); repeat (any_goals (first | ((refine IdxA.val hrow hn i _ rfl hV ?_; intro _ _ _); (conv => whnf)) | ((refine (none_num 0 _).mono ?_; rintro _ _ ⟨rfl, rfl⟩); (conv => whnf)) | (refine Vc.stp ?_; intros; (conv => whnf)) | (refine Vc.spl ?_ ?_ <;> (intro _; (conv => whnf))))))
        exact ⟨⟨i + 1, out, a1, c1⟩, ⟨rfl, rfl, trivial⟩, ⟨by show i + 1 ≤ _; omega, ho2, hx2, by show Ers _ (pick os (i + 1)) _; rw [hp]; exact he, by show out.length ≤ i + 1; omega⟩, by show n - (i + 1) < n - i; omega⟩
    | some c =>
      simp only [Option.toList] at hp
      obtain ⟨hw, hnb⟩ := hv
      obtain ⟨t, y, rfl⟩ := ErV.iface (b := .num c.2) hw
      have hnn := none_any (b := .num c.2) (ErV.ext (b := .num c.2) hw hx2)
      rw [hnb] at hnn
      ((conv => whnf); repeat (any_goals (first | ((refine IdxA.val hrow hn i _ rfl hV ?_; intro _ _ _); (conv => whnf)) | ((refine hnn.mono ?_; rintro _ _ ⟨rfl, rfl⟩); (conv => whnf)) | (refine Vc.stp ?_; intros; (conv => whnf)) | (refine Vc.spl ?_ ?_ <;> (intro _; (conv => whnf))))))
      rename_i a5 c5 H5 ho5 hx5
      exact ⟨⟨i + 1, out ++ [.iface t y], a5, c5⟩, ⟨rfl, by show Value.slice a5 (out.length + 1) c5 = Value.slice a5 (out ++ [Value.iface t y]).length c5; rw [List.length_append]; rfl, trivial⟩,
        ⟨by show i + 1 ≤ _; omega, by show Own H5 H.size _ 1 a5 (out ++ [Value.iface t y]).length c5 _; rw [List.length_append]; exact ho5, hx5, by show Ers _ (pick os (i + 1)) _; rw [hp]; exact he.snoc hw, by show (out ++ [Value.iface t y]).length ≤ i + 1; rw [List.length_append]; show out.length + 1 ≤ _; omega⟩, by show n - (i + 1) < n - i; omega⟩
  · obtain rfl : i = n := by omega
    have hpn : pick os i = os.filterMap id := by unfold pick; rw [List.take_of_length_le (by omega)]
    rw [hpn] at he
    replace he := he.ext hx2
    generalize os.filterMap id = cs at he
    match cs, out, he with
    | [], [], he =>
      ((conv => whnf); repeat (any_goals (first | (refine Vc.stp ?_; intros; (conv => whnf)) | (refine Vc.spl ?_ ?_ <;> (intro _; (conv => whnf))))))
      exact ⟨rfl, hx2⟩
    | [c], [v], he =>
      have hw := he.2 0 c v rfl rfl
      obtain ⟨t, y, rfl⟩ := ErV.iface (b := .num c.2) hw
      have hro := ho2.row
      have hl1 : ([Value.iface t y] : List Value).length = 1 := rfl
      ((conv => whnf); repeat (any_goals (first | ((refine IdxA.val hro rfl 0 _ rfl rfl ?_; intro _ _ _); (conv => whnf)) | (refine Vc.stp ?_; intros; (conv => whnf)) | (refine Vc.spl ?_ ?_ <;> (intro _; (conv => whnf))))))
      exact ⟨hw, hx2⟩
    | c :: d :: cs, u :: v :: out, he =>
      have hl1 : (u :: v :: out).length = out.length + 2 := rfl
      have hlc := he.1
      obtain ⟨m, hm⟩ : ∃ m, (u :: v :: out).length = m := ⟨_, rfl⟩
      have hro := ho2.row
      have hcl := ho2.cap_le
      rw [hm] at hl1 hlc hcl ⊢
      ((conv => whnf); repeat (any_goals (first | ((refine PureH.build #[.slice a1 m c1] rfl ?_); (conv => whnf)) | (refine Vc.stp ?_; intros; (conv => whnf)) | (refine Vc.spl ?_ ?_ <;> (intro _; (conv => whnf))))))
      rename_i H5 hs5 hb5 hx5
      subst hlc
      exact ⟨⟨H2.size, a1, c1, u :: v :: out, rfl, hb5, hcl, hro.ext hx5, he.1, (he.ext hx5).2⟩, hx2.trans hx5⟩
end Go.Proofs.YtlgcfcdmldlefaaDoor
