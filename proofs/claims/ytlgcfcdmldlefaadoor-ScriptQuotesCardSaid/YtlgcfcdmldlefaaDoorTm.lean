import Derived.Test.YtlgcfcdmldlefaaDoorTk
set_option linter.unusedVariables false
set_option linter.unusedSimpArgs false
set_option maxRecDepth 100000
/- Build scripts, the reference: small functions. -/
namespace Go.Scr
theorem kws_self : ∀ j, j < 12 → kindF (kws.getD j []) = j := by decide
theorem kind_eq {w : Txt} {k : Nat} (hK : kindF w = k) (hk : k < 12) : w = kws.getD k [] := by
  subst hK
  have h := List.findIdx_getElem (p := (· == w)) (xs := kws) (w := hk)
  rw [List.getD_eq_getElem?_getD, List.getElem?_eq_getElem hk]
  exact (by simpa using h : kws[kws.findIdx (· == w)] = w).symm
end Go.Scr
namespace Go.Proofs.YtlgcfcdmldlefaaDoor
open Go Go.Vc Go.Scr
theorem PureH.build2 {P : Program} {t : TypeId} {l : List Nat} {v v' : Value} {K : Value → Prop} (cells : Array Value) (h : P.built t (l.zip [v, v']) = some cells) (hk : K (.agg cells)) : PureH P (Instr.build t (l.zip [v, v']).toArray) K :=
  PureH.build cells h hk
theorem PureH.build3 {P : Program} {t : TypeId} {l : List Nat} {v v' v'' : Value} {K : Value → Prop} (cells : Array Value) (h : P.built t (l.zip [v, v', v'']) = some cells) (hk : K (.agg cells)) : PureH P (Instr.build t (l.zip [v, v', v'']).toArray) K :=
  PureH.build cells h hk
theorem plain_pos {w : Bs} (h : plainW w = false) : 1 ≤ w.length := by
  cases w with
  | nil => cases h
  | cons c t => simp
theorem kw_t {w : Bs} {K : Nat} (hK : kindF w = K) (j : Nat) (hj : j < 12) (e : j = K) : ((mkS w).toList == (mkS (kws.getD j [])).toList) = true := by
  subst e; rw [str_mk]; exact decide_eq_true (kind_eq hK hj)
theorem kw_f {w : Bs} {K : Nat} (hK : kindF w = K) (j : Nat) (hj : j < 12) (e : j ≠ K) : ((mkS w).toList == (mkS (kws.getD j [])).toList) = false := by
  rw [str_mk]; exact decide_eq_false fun h => e (by rw [← hK, h]; exact (kws_self j hj).symm)
theorem rquoted_any (w : Bs) (H : Heap) : CallH Tryd.prog 98 [.string (mkS w)] H fun v H' => v = .bool (!plainW w) ∧ H = H' := by
  refine Vc.CallH.body Tryd.func98 Tryd.call98 rfl (by decide +kernel) rfl ?_
  cases w with
  | nil =>
    ((conv => whnf); repeat (any_goals (first | (refine Vc.stp ?_; intros; (conv => whnf)) | (refine Vc.spl ?_ ?_ <;> (intro _; (conv => whnf))))))
    exact ⟨rfl, rfl⟩
  | cons c t =>
    have hne := ne_empty c t
    have hsz : (mkS (c :: t)).size = t.length + 1 := rfl
    ((conv => whnf); repeat (any_goals (first | ((refine IdxH.nat 0 rfl (by omega) ?_); (conv => whnf)) | (refine Vc.stp ?_; intros; (conv => whnf)) | (refine Vc.spl ?_ ?_ <;> (intro _; (conv => whnf))))))
    exact ⟨by rw [plain_cons]; simp; rfl, rfl⟩
theorem rplain_any (L : List Bs) (a : Option Addr) (n cap : Nat) (H : Heap) (hr : Row H a (strs L)) (hn : L.length = n) (hm : n ≤ 1000000000) : CallH Tryd.prog 97 [.slice a n cap] H fun v H' => v = .bool (L.all plainW) ∧ H = H' := by
  obtain ⟨F, hF⟩ : ∃ F, L.all plainW = F := ⟨_, rfl⟩
  rw [hF]
  refine Vc.CallH.body Tryd.func97 Tryd.call97 rfl (by decide +kernel) rfl ?_
  ((conv => whnf); repeat (any_goals (first | (refine Vc.sts ?_; (conv => whnf)))))
  refine LoopH.intro (fun (i : Nat) => [(3, .int .i64 i)]) (fun i H' => H = H' ∧ i ≤ n ∧ F = (L.drop i).all plainW) (fun i => n - i) 0 ⟨rfl, trivial⟩ ⟨rfl, Nat.zero_le _, hF.symm⟩ ?_
  rintro i _ ⟨rfl, hi, hinv⟩
  by_cases hlt : i < n
  · have hd : L.drop i = L.getD i [] :: L.drop (i + 1) := by
      rw [List.drop_eq_getElem_cons (by omega), List.getD_eq_getElem?_getD, List.getElem?_eq_getElem (by omega)]; rfl
    rw [hd, List.all_cons] at hinv
    cases hp : plainW (L.getD i [])
    · ((conv => whnf); repeat (any_goals (first | ((refine IdxA.strD hr hn i rfl hlt ?_; intro _ _ _ _ _); (conv => whnf)) | ((refine (rquoted_any _ _).mono ?_; rintro _ _ ⟨rfl, rfl⟩; rw [hp]); (conv => whnf)) | (refine Vc.stp ?_; intros; (conv => whnf)) | (refine Vc.spl ?_ ?_ <;> (intro _; (conv => whnf))))))
      rw [hinv, hp]; exact ⟨rfl, rfl⟩
    · rw [hp, Bool.true_and] at hinv
      ((conv => whnf); repeat (any_goals (first | ((refine IdxA.strD hr hn i rfl hlt ?_; intro _ _ _ _ _); (conv => whnf)) | ((refine (rquoted_any _ _).mono ?_; rintro _ _ ⟨rfl, rfl⟩; rw [hp]); (conv => whnf)) | (refine Vc.stp ?_; intros; (conv => whnf)) | (refine Vc.spl ?_ ?_ <;> (intro _; (conv => whnf))))))
      exact ⟨i + 1, ⟨rfl, trivial⟩, ⟨rfl, by omega, hinv⟩, by omega⟩
  · rw [List.drop_of_length_le (by omega)] at hinv
    ((conv => whnf); repeat (any_goals (first | (refine Vc.stp ?_; intros; (conv => whnf)) | (refine Vc.spl ?_ ?_ <;> (intro _; (conv => whnf))))))
    rw [hinv]; exact ⟨rfl, rfl⟩
def commF (l : Bs) : Bool := match l.dropWhile isB with
  | [] => false
  | c :: _ => c == 35
theorem commF_cons (c : UInt8) (t : Bs) : commF (c :: t) = if isB c then commF t else c == 35 := by
  unfold commF
  rw [List.dropWhile_cons]
  cases isB c <;> rfl
theorem rcomment_any (s : Bs) (hl : s.length ≤ 1000000000) (H : Heap) : CallH Tryd.prog 65 [.string (mkS s)] H fun v H' => v = .bool (commF s) ∧ H = H' := by
  obtain ⟨F, hF⟩ : ∃ F, commF s = F := ⟨_, rfl⟩
  rw [hF]
  have hsz : (mkS s).size = s.length := rfl
  refine Vc.CallH.body Tryd.func65 Tryd.call65 rfl (by decide +kernel) rfl ?_
  ((conv => whnf); repeat (any_goals (first | (refine Vc.sts ?_; (conv => whnf)))))
  refine LoopH.intro (fun (i : Nat) => [(3, .int .i64 i)]) (fun i H' => H = H' ∧ i ≤ s.length ∧ F = commF (s.drop i)) (fun i => s.length - i) 0 ⟨rfl, trivial⟩ ⟨rfl, Nat.zero_le _, hF.symm⟩ ?_
  rintro i _ ⟨rfl, hi, hinv⟩
  by_cases hlt : i < s.length
  · obtain ⟨c, hc, hdr⟩ := drop_get hlt
    rw [hdr, commF_cons] at hinv
    cases hb : isB c
    · obtain ⟨n32, n9⟩ := isB_num_f hb
      rw [hb, if_neg (by decide)] at hinv
      ((conv => whnf); repeat (any_goals (first | ((refine IdxH.nat i rfl (by omega) ?_; (conv => whnf); rw [hc]); (conv => whnf)) | (refine Vc.stp ?_; intros; (conv => whnf)) | (refine Vc.spl ?_ ?_ <;> (intro _; (conv => whnf))))))
      refine ⟨?_, rfl⟩
      rw [hinv]
      show Value.bool ((c.toNat : Int) == 35) = _
      congr 1
      rw [Bool.eq_iff_iff, beq_iff_eq, beq_iff_eq]
      constructor
      · intro h; exact UInt8.toNat_inj.1 (by show c.toNat = 35; omega)
      · intro h; rw [h]; rfl
    · rw [hb, if_pos rfl] at hinv
      rcases isB_num hb with m | m
      · ((conv => whnf); repeat (any_goals (first | ((refine IdxH.nat i rfl (by omega) ?_; (conv => whnf); rw [hc]); (conv => whnf)) | (refine Vc.stp ?_; intros; (conv => whnf)) | (refine Vc.spl ?_ ?_ <;> (intro _; (conv => whnf))))))
        exact ⟨i + 1, ⟨rfl, trivial⟩, ⟨rfl, by omega, hinv⟩, by omega⟩
      · ((conv => whnf); repeat (any_goals (first | ((refine IdxH.nat i rfl (by omega) ?_; (conv => whnf); rw [hc]); (conv => whnf)) | (refine Vc.stp ?_; intros; (conv => whnf)) | (refine Vc.spl ?_ ?_ <;> (intro _; (conv => whnf))))))
        exact ⟨i + 1, ⟨rfl, trivial⟩, ⟨rfl, by omega, hinv⟩, by omega⟩
  · rw [List.drop_of_length_le (by omega)] at hinv
    ((conv => whnf); repeat (any_goals (first | (refine Vc.stp ?_; intros; (conv => whnf)) | (refine Vc.spl ?_ ?_ <;> (intro _; (conv => whnf))))))
    rw [hinv]; exact ⟨rfl, rfl⟩
end Go.Proofs.YtlgcfcdmldlefaaDoor
