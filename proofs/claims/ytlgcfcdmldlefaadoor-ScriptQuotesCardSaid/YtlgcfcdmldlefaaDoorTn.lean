import Derived.Test.YtlgcfcdmldlefaaDoorTk
import Derived.Test.YtlgcfcdmldlefaaDoorTj
import Derived.Test.YtlgcfcdmldlefaaDoorTg
set_option linter.unusedVariables false
set_option linter.unusedSimpArgs false
set_option maxRecDepth 100000
/- Build scripts, the code: a script read. -/
namespace Go.Proofs.YtlgcfcdmldlefaaDoor
open Go Go.Vc Go.Scr
def lnsV (l : List Ln) : List Value := l.flatMap fun x => (lnC x).toList
theorem lnsV_append (l m : List Ln) : lnsV (l ++ m) = lnsV l ++ lnsV m := by simp [lnsV]
theorem lnsV_length : ∀ l : List Ln, (lnsV l).length = l.length * 6
  | [] => rfl
  | x :: l => by
    have e : lnsV (x :: l) = (lnC x).toList ++ lnsV l := by simp [lnsV]
    rw [e, List.length_append, lnsV_length l]
    show 6 + _ = _
    rw [List.length_cons]; omega
def parseR (H : Heap) (base : Nat) (v : Value) : Option (List Ln) × Nat → Prop
  | (none, i) => v = .tuple #[.slice none 0 0, .int .i64 i, .int .i64 66]
  | (some ls, i) => ∃ a cap, v = .tuple #[.slice a ls.length cap, .int .i64 i, .int .i64 0] ∧ Own H base 89 6 a ls.length cap (lnsV ls)
def Apart (a b : Option Addr) : Prop := ∀ p q, a = some p → b = some q → p.block ≠ q.block
structure PSt where
  i : Nat
  out : List Ln
  ao : Option Addr
  co : Nat
  o : List Nat
  a : Option Addr
  cap : Nat
structure PInv (H H' : Heap) (g : Nat) (al : Option Addr) (cl : Nat) (L : List Bs) (out : List Ln) (ao : Option Addr) (co : Nat) (o : List Nat) (a : Option Addr) (cap : Nat) : Prop where
  sh : ShO H' H.size g o a cap
  lines : Own H' (g + 1) 9 1 al L.length cl (strs L)
  own : Own H' H.size 89 6 ao out.length co (lnsV out)
  d1 : Apart al a
  d2 : Apart ao a
  d3 : Apart al ao
  d4 : ∀ p, ao = some p → p.block ≠ g
  ext : Ext H H'
theorem PInv.grow {H H' H'' : Heap} {g : Nat} {al : Option Addr} {cl : Nat} {L : List Bs} {out : List Ln} {ao : Option Addr} {co : Nat} {o : List Nat} {a : Option Addr} {cap : Nat} (h : PInv H H' g al cl L out ao co o a cap) (k : Ext H' H'') : PInv H H'' g al cl L out ao co o a cap :=
  ⟨h.sh.ext k, h.lines.ext k, h.own.ext k, h.d1, h.d2, h.d3, h.d4, h.ext.trans k⟩
theorem PInv.take {H H' H'' : Heap} {g : Nat} {al : Option Addr} {cl : Nat} {L : List Bs} {out : List Ln} {ao : Option Addr} {co : Nat} {o o' : List Nat} {a a' : Option Addr} {cap cap' : Nat} (h : PInv H H' g al cl L out ao co o a cap) (k : Only (foot g a) H' H'') (hs : ShO H'' H.size g o' a' cap') (hf : Fresh H' a a') : PInv H H'' g al cl L out ao co o' a' cap' := by
  have hal : ∀ p, al = some p → ¬ foot g a p.block := fun p hp hh => by
    rcases hh with e | ⟨q, hq, e⟩
    · have := (h.lines.block p hp).1; omega
    · exact h.d1 p q hp hq e.symm
  have hao : ∀ p, ao = some p → ¬ foot g a p.block := fun p hp hh => by
    rcases hh with e | ⟨q, hq, e⟩
    · exact h.d4 p hp e
    · exact h.d2 p q hp hq e.symm
  refine ⟨hs, h.lines.keep k hal, h.own.keep k hao, fun p q hp hq e => ?_, fun p q hp hq e => ?_, h.d3, h.d4, Only.trans h.ext k fun b hb hh => ?_⟩
  · rcases hf q hq with e1 | e1
    · exact h.d1 p q hp (e1 ▸ hq) e
    · have := (h.lines.block p hp).2; omega
  · rcases hf q hq with e1 | e1
    · exact h.d2 p q hp (e1 ▸ hq) e
    · have := (h.own.block p hp).2; omega
  · rcases hh with e | ⟨q, hq, e⟩
    · have := h.sh.low; omega
    · have := (h.sh.own.block q hq).1; omega
theorem PInv.push {H H' H'' : Heap} {g : Nat} {al : Option Addr} {cl : Nat} {L : List Bs} {out : List Ln} {x : Ln} {ao ao' : Option Addr} {co co' : Nat} {o : List Nat} {a : Option Addr} {cap : Nat} (h : PInv H H' g al cl L out ao co o a cap) (ho : Own H'' H.size 89 6 ao' (out.length + 1) co' (lnsV out ++ (lnC x).toList)) (k : Wr ao H' H'') (hf : ∀ p, ao' = some p → ao' = ao ∨ H'.size ≤ p.block) : PInv H H'' g al cl L (out ++ [x]) ao' co' o a cap := by
  have e : lnsV (out ++ [x]) = lnsV out ++ (lnC x).toList := by rw [lnsV_append]; simp [lnsV]
  have hb := h.sh.blk.lt
  refine ⟨⟨h.sh.blk.keep k fun ⟨p, hp, e⟩ => h.d4 p hp e, h.sh.own.keep k fun p hp ⟨q, hq, e⟩ => h.d2 q p hq hp e, h.sh.apart, h.sh.low⟩, h.lines.keep k fun p hp ⟨q, hq, e⟩ => h.d3 p q hp hq e.symm, by rw [e, List.length_append]; exact ho, h.d1, fun p q hp hq e => ?_, fun p q hp hq e => ?_, fun p hp e => ?_, h.ext.wr h.own (Nat.le_refl _) k⟩
  · rcases hf p hp with e1 | e1
    · exact h.d2 p q (e1 ▸ hp) hq e
    · have := (h.sh.own.block q hq).2; omega
  · rcases hf q hq with e1 | e1
    · exact h.d3 p q hp (e1 ▸ hq) e
    · have := (h.lines.block p hp).2; omega
  · rcases hf p hp with e1 | e1
    · exact h.d4 p (e1 ▸ hp) e
    · omega
set_option maxHeartbeats 8000000 in
theorem parse_any (s : Bs) (hl : s.length ≤ 10000000) (H : Heap) : CallH Tryd.prog 36 [.string (mkS s)] H fun v H' => parseR H' H.size v (parseF s) ∧ Ext H H' := by
  have hsz : (mkS s).size = s.length := rfl
  refine Vc.CallH.body Tryd.func36 Tryd.call36 rfl (by decide +kernel) rfl ?_
  by_cases hbig : 65536 < s.length
  · have e : parseF s = (none, 0) := by unfold parseF; rw [if_pos hbig]
    ((conv => whnf); repeat (any_goals (first | (refine Vc.stp ?_; intros; (conv => whnf)) | (refine Vc.spl ?_ ?_ <;> (intro _; (conv => whnf))))))
    rw [e]; exact ⟨rfl, Ext.refl _⟩
  · have e : parseF s = parseL (linesF s) 0 [] [] := by unfold parseF; rw [if_neg hbig]
    rw [e]
    obtain ⟨q, m, hq, hL⟩ := linesF_last s
    have hsp := fun H => Split_any s 10 (by omega) H
    rw [hq] at hsp
    obtain ⟨hLn, hLl⟩ := linesF_len s
    generalize linesF s = L at *
    have hSl := (splitF_len 10 s).1
    rw [hq, List.length_append] at hSl
    simp only [List.length_cons, List.length_nil] at hSl
    have hln : (q ++ [m]).length = q.length + 1 := by simp
    ((conv => whnf); repeat (any_goals (first | (refine Vc.stq ?_; intros; (conv => whnf)) | (refine Vc.spl ?_ ?_ <;> (intro _; (conv => whnf))))))
    refine Vc.SeqH.go ?_
    ((conv => whnf); repeat (any_goals (first | ((refine PureH.build0 #[.slice none 0 0] (by kernel_rfl) ?_); (conv => whnf)) | ((refine (hsp _).mono ?_; rintro _ H2 ⟨⟨al, rfl, hoS⟩, hx2⟩; have hz2 := hx2.size); (conv => whnf)) | (refine Vc.stq ?_; intros; (conv => whnf)) | (refine Vc.spl ?_ ?_ <;> (intro _; (conv => whnf))))))
    rename_i H1 hs1 hb1 hx1
    have hl2 : Own H2 H1.size 9 1 al L.length (List.count 10 s + 1) (strs L) := by
      rw [hL]
      by_cases hm : m = []
      · rw [if_pos hm]
        have := hoS.cut q.length (by simp)
        rw [Nat.mul_one] at this
        have e : (strs (q ++ [m])).take q.length = strs q := by rw [strs_append, List.take_left' (strs_length q)]
        rw [e] at this; exact this
      · rw [if_neg hm]; exact hoS
    refine SeqH.cut (fun (_ : Unit) => [(7, .slice al L.length (List.count 10 s + 1))]) (fun _ H' => H2 = H') ?_ ?_
    · have hcap := hoS.cap_le
      rcases m with _ | ⟨c, t⟩
      · rw [if_pos rfl] at hL; subst hL
        ((conv => whnf); repeat (any_goals (first | ((refine BndH.nat L.length (by omega) (by omega) ?_); (conv => whnf)) | ((refine IdxA.strv hoS.row rfl L.length [] (by omega) (by simp) ?_; intro _ _ _ _ _); (conv => whnf)) | (refine Vc.stp ?_; intros; (conv => whnf)))))
        exact ⟨(), ⟨rfl, trivial⟩, rfl⟩
      · have hne := ne_empty c t
        rw [if_neg (by simp)] at hL; subst hL
        ((conv => whnf); repeat (any_goals (first | ((refine IdxA.strv hoS.row rfl q.length (c :: t) (by omega) (by simp) ?_; intro _ _ _ _ _); (conv => whnf)) | (refine Vc.stp ?_; intros; (conv => whnf)))))
        exact ⟨(), ⟨rfl, trivial⟩, rfl⟩
    · rintro _ _ rfl
      obtain ⟨R, hR⟩ : ∃ R, parseL L 0 [] [] = R := ⟨_, rfl⟩
      rw [hR]
      ((conv => whnf); repeat (any_goals (first | (refine Vc.sts ?_; (conv => whnf)))))
      refine LoopH.intro (fun (x : PSt) => [(34, .int .i64 x.i), (5, .slice x.ao x.out.length x.co)]) (fun x H' => x.i ≤ L.length ∧ x.out.length ≤ 200 ∧ x.o.length ≤ 8 ∧ R = parseL (L.drop x.i) x.i x.out x.o ∧ PInv H H' H.size al (List.count 10 s + 1) L x.out x.ao x.co x.o x.a x.cap) (fun x => L.length - x.i) ⟨0, [], none, 0, [], none, 0⟩ ⟨rfl, rfl, trivial⟩ ⟨Nat.zero_le _, Nat.zero_le _, Nat.zero_le _, hR.symm, ⟨⟨hb1.ext hx2, Own.nil _ _ _ _, fun p hp => (by cases hp), Nat.le_refl _⟩, hs1 ▸ hl2, Own.nil _ _ _ _, fun p q _ hq => (by cases hq), fun p q hp => (by cases hp), fun p q _ hq => (by cases hq), fun p hp => (by cases hp), hx1.trans hx2⟩⟩ ?_
      rintro ⟨i, out, ao, co, o, a, cap⟩ H3 ⟨hi, hout, ho8, hinv, hp3⟩
      dsimp only at hi hout ho8 hinv hp3 ⊢
      have hz3 := hp3.ext.size
      have low3 := hp3.sh.blk.lt
      by_cases hlt : i < L.length
      · have hd : L.drop i = L.getD i [] :: L.drop (i + 1) := by
          rw [List.drop_eq_getElem_cons hlt, List.getD_eq_getElem?_getD, List.getElem?_eq_getElem hlt]; rfl
        have hmem : L.getD i [] ∈ L := by
          rw [List.getD_eq_getElem?_getD, List.getElem?_eq_getElem hlt]; exact List.getElem_mem hlt
        have hget : L[i]? = some (L.getD i []) := by rw [List.getD_eq_getElem?_getD, List.getElem?_eq_getElem hlt]; rfl
        have hll := hLl _ hmem
        generalize L.getD i [] = l at *
        rw [hd, parseL_step] at hinv
        have htl := fun H => TrimLeft_any l (by omega) H
        obtain ⟨D, hD⟩ : ∃ D, l.dropWhile isB = D := ⟨_, rfl⟩
        have hDl := dropWhile_len (p := isB) l
        rw [hD] at htl hDl
        have hrow := hp3.lines.row
        cases D with
        | nil =>
          rw [skipF_nil hD, if_pos rfl] at hinv
          ((conv => whnf); repeat (any_goals (first | ((refine IdxA.strv hrow rfl i l rfl hget ?_; intro _ _ _ _ _); (conv => whnf)) | ((refine (htl _).mono ?_; rintro _ H4 ⟨rfl, hx4⟩; have hz4 := hx4.size); (conv => whnf)) | (refine Vc.stp ?_; intros; (conv => whnf)) | (refine Vc.spl ?_ ?_ <;> (intro _; (conv => whnf))))))
          exact ⟨⟨i + 1, out, ao, co, o, a, cap⟩, ⟨rfl, rfl, trivial⟩, ⟨by show i + 1 ≤ _; omega, hout, ho8, hinv, hp3.grow (by (repeat (first | assumption | exact Vc.Ext.refl _ | ((with_reducible apply Vc.Ext.trans); (case k => assumption)) | ((with_reducible apply Vc.Ext.but); (case k => assumption); (case hb => omega)))))⟩, by show L.length - (i + 1) < L.length - i; omega⟩
        | cons c t =>
          rw [skipF_cons hD] at hinv
          have hne := ne_empty c t
          have hc0 : (mkS (c :: t)).data.toList.getD 0 0 = c := rfl
          have hszD : (mkS (c :: t)).size = t.length + 1 := rfl
          simp only [List.length_cons] at hDl
          by_cases h35 : c = 35
          · subst h35
            rw [show ((35 : UInt8) == 35) = true from rfl, if_pos rfl] at hinv
            ((conv => whnf); repeat (any_goals (first | ((refine IdxA.strv hrow rfl i l rfl hget ?_; intro _ _ _ _ _); (conv => whnf)) | ((refine (htl _).mono ?_; rintro _ H4 ⟨rfl, hx4⟩; have hz4 := hx4.size); (conv => whnf)) | ((refine IdxH.nat 0 rfl (by omega) ?_; (conv => whnf); rw [hc0]); (conv => whnf)) | (refine Vc.stp ?_; intros; (conv => whnf)) | (refine Vc.spl ?_ ?_ <;> (intro _; (conv => whnf))))))
            exact ⟨⟨i + 1, out, ao, co, o, a, cap⟩, ⟨rfl, rfl, trivial⟩, ⟨by show i + 1 ≤ _; omega, hout, ho8, hinv, hp3.grow (by (repeat (first | assumption | exact Vc.Ext.refl _ | ((with_reducible apply Vc.Ext.trans); (case k => assumption)) | ((with_reducible apply Vc.Ext.but); (case k => assumption); (case hb => omega)))))⟩, by show L.length - (i + 1) < L.length - i; omega⟩
          · have n35 := ne_nat 35 (by decide) h35
            rw [if_neg (by simpa using h35)] at hinv
            have hw := fun H => words_any (c :: t) (by simp only [List.length_cons]; omega) H
            rw [show wordsF (c :: t) = wordsF l by rw [← hD, wordsF_drop]] at hw
            cases hws : wordsF l with
            | none =>
              rw [hws] at hw hinv
              dsimp only at hinv
              ((conv => whnf); repeat (any_goals (first | ((refine IdxA.strv hrow rfl i l rfl hget ?_; intro _ _ _ _ _); (conv => whnf)) | ((refine (htl _).mono ?_; rintro _ H4 ⟨rfl, hx4⟩; have hz4 := hx4.size); (conv => whnf)) | ((refine IdxH.nat 0 rfl (by omega) ?_; (conv => whnf); rw [hc0]); (conv => whnf)) | ((refine (hw _).mono ?_; rintro _ H5 ⟨rfl, hx5⟩; have hz5 := hx5.size); (conv => whnf)) | (refine Vc.stp ?_; intros; (conv => whnf)) | (refine Vc.spl ?_ ?_ <;> (intro _; (conv => whnf))))))
              exact ⟨by rw [hinv]; rfl, hp3.ext.trans (by (repeat (first | assumption | exact Vc.Ext.refl _ | ((with_reducible apply Vc.Ext.trans); (case k => assumption)) | ((with_reducible apply Vc.Ext.but); (case k => assumption); (case hb => omega)))))⟩
            | some ws =>
              obtain ⟨hw1, hw2⟩ := wordsF_all hws
              rcases words_head hD with h0 | ⟨w, wt, h0⟩
              · rw [hws] at h0; cases h0
              · rw [hws] at h0
                cases h0
                rw [hws] at hw hinv
                dsimp only at hinv
                have hrd := fun H a cap (hr : Row H a (strs ((c :: w) :: wt))) (hc : ((c :: w) :: wt).length ≤ cap) => read_any (c :: w) wt a _ cap H hr rfl hc (by omega) (fun x hx => (hw2 x hx).1) (fun x hx => by have := (hw2 x hx).2; omega)
                cases hln : lineF ((c :: w) :: wt) with
                | none =>
                  rw [hln] at hrd hinv
                  dsimp only at hinv
                  ((conv => whnf); repeat (any_goals (first | ((refine IdxA.strv hrow rfl i l rfl hget ?_; intro _ _ _ _ _); (conv => whnf)) | ((refine (htl _).mono ?_; rintro _ H4 ⟨rfl, hx4⟩; have hz4 := hx4.size); (conv => whnf)) | ((refine IdxH.nat 0 rfl (by omega) ?_; (conv => whnf); rw [hc0]); (conv => whnf)) | ((refine (hw _).mono ?_; rintro _ H5 ⟨⟨aw, cw, rfl, how⟩, hx5⟩; have hz5 := hx5.size; have hrw := how.row; have hcw := how.cap_le); (conv => whnf)) | ((refine (hrd _ _ _ hrw hcw).mono ?_; rintro _ H6 ⟨⟨k6, a6, b6, t6, n6, q6, rfl⟩, hx6⟩; have hz6 := hx6.size); (conv => whnf)) | (refine Vc.stp ?_; intros; (conv => whnf)) | (refine Vc.spl ?_ ?_ <;> (intro _; (conv => whnf))))))
                  exact ⟨by rw [hinv]; rfl, hp3.ext.trans (by (repeat (first | assumption | exact Vc.Ext.refl _ | ((with_reducible apply Vc.Ext.trans); (case k => assumption)) | ((with_reducible apply Vc.Ext.but); (case k => assumption); (case hb => omega)))))⟩
                | some x =>
                  rw [hln] at hrd hinv
                  dsimp only at hinv
                  by_cases h200 : out.length = 200
                  · rw [if_pos h200] at hinv
                    ((conv => whnf); repeat (any_goals (first | ((refine IdxA.strv hrow rfl i l rfl hget ?_; intro _ _ _ _ _); (conv => whnf)) | ((refine (htl _).mono ?_; rintro _ H4 ⟨rfl, hx4⟩; have hz4 := hx4.size); (conv => whnf)) | ((refine IdxH.nat 0 rfl (by omega) ?_; (conv => whnf); rw [hc0]); (conv => whnf)) | ((refine (hw _).mono ?_; rintro _ H5 ⟨⟨aw, cw, rfl, how⟩, hx5⟩; have hz5 := hx5.size; have hrw := how.row; have hcw := how.cap_le); (conv => whnf)) | ((refine (hrd _ _ _ hrw hcw).mono ?_; rintro _ H6 ⟨rfl, hx6⟩; have hz6 := hx6.size); (conv => whnf)) | (refine Vc.stp ?_; intros; (conv => whnf)) | (refine Vc.spl ?_ ?_ <;> (intro _; (conv => whnf))))))
                    exact ⟨by rw [hinv]; rfl, hp3.ext.trans (by (repeat (first | assumption | exact Vc.Ext.refl _ | ((with_reducible apply Vc.Ext.trans); (case k => assumption)) | ((with_reducible apply Vc.Ext.but); (case k => assumption); (case hb => omega)))))⟩
                  · rw [if_neg h200] at hinv
                    ((conv => whnf); repeat (any_goals (first | ((refine IdxA.strv hrow rfl i l rfl hget ?_; intro _ _ _ _ _); (conv => whnf)) | ((refine (htl _).mono ?_; rintro _ H4 ⟨rfl, hx4⟩; have hz4 := hx4.size); (conv => whnf)) | ((refine IdxH.nat 0 rfl (by omega) ?_; (conv => whnf); rw [hc0]); (conv => whnf)) | ((refine (hw _).mono ?_; rintro _ H5 ⟨⟨aw, cw, rfl, how⟩, hx5⟩; have hz5 := hx5.size; have hrw := how.row; have hcw := how.cap_le); (conv => whnf)) | ((refine (hrd _ _ _ hrw hcw).mono ?_; rintro _ H6 ⟨rfl, hx6⟩; have hz6 := hx6.size); (conv => whnf)) | (refine Vc.stp ?_; intros; (conv => whnf)) | (refine Vc.spl ?_ ?_ <;> (intro _; (conv => whnf))))))
                    rename_i H7 hs7 hb7 hx7 H8 hs8 hb8 hx8
                    have hx38 : Ext H3 H8 := by (repeat (first | assumption | exact Vc.Ext.refl _ | ((with_reducible apply Vc.Ext.trans); (case k => assumption)) | ((with_reducible apply Vc.Ext.but); (case k => assumption); (case hb => omega))))
                    have hp8 := hp3.grow hx38
                    have hz8 := hx38.size
                    have tk := take_any hp8.sh ho8 hp8.ext.size (k := x.k)
                    have hnf : ¬ foot H.size a H6.size := fun h => by
                      rcases h with e | ⟨p, hp, e⟩
                      · omega
                      · have := (hp3.sh.own.block p hp).2; omega
                    cases htk : takeF o x.k with
                    | none =>
                      rw [htk] at tk hinv
                      simp only [Option.isSome_none] at tk
                      ((conv => whnf); repeat (any_goals (first | ((refine tk.mono ?_; rintro _ H9 ⟨rfl, _, ho9⟩); (conv => whnf)) | (refine Vc.stp ?_; intros; (conv => whnf)) | (refine Vc.spl ?_ ?_ <;> (intro _; (conv => whnf))))))
                      refine ⟨by rw [hinv]; rfl, Only.trans hp8.ext ho9 fun b hb hf => ?_⟩
                      rcases hf with e | ⟨p, hp, e⟩
                      · omega
                      · have := (hp8.sh.own.block p hp).1; omega
                    | some o' =>
                      rw [htk] at tk hinv
                      simp only [Option.isSome_some] at tk
                      ((conv => whnf); repeat (any_goals (first | ((refine tk.mono ?_; rintro _ H9 ⟨rfl, hsh, ho9⟩; obtain ⟨a', cap', hsh, hfr⟩ := hsh o' rfl; have hp9 := hp8.take ho9 hsh hfr; have hb9 := hb8.keep ho9 hnf; have hz9 := hp9.ext.size); (conv => whnf)) | (refine Vc.stp ?_; intros; (conv => whnf)) | (refine Vc.spl ?_ ?_ <;> (intro _; (conv => whnf))))))
                      rename_i HA hsA hbA hxA
                      have hpA := hp9.grow hxA
                      refine NextH.append (i := Tryd.t89) (z := .agg (lineC 0 [] [] [] 0 false)) (base := H.size) rfl ⟨_, rfl, fun _ h => by cases h⟩ rfl rfl rfl hpA.own (Src.row (c := 1) (Blk.row (c := (lnC x).toList) hbA) rfl (by simp [lnC, lineC, plainV])) (by unfold maxLen; omega) (by show (out.length + 1) * 72 ≤ _; omega) hpA.ext.size ?_
                      intro a8 c8 HB hoB hwB hnB
                      ((conv => whnf); repeat (any_goals (first | (refine Vc.stp ?_; intros; (conv => whnf)))))
                      refine ⟨⟨i + 1, out ++ [x], a8, c8, o', a', cap'⟩, ⟨rfl, by show Value.slice a8 (out.length + 1) c8 = Value.slice a8 (out ++ [x]).length c8; rw [List.length_append]; rfl, trivial⟩, ⟨by show i + 1 ≤ _; omega, by show (out ++ [x]).length ≤ 200; rw [List.length_append]; show out.length + 1 ≤ 200; omega, takeF_len htk ho8, hinv, hpA.push hoB hwB hnB⟩, by show L.length - (i + 1) < L.length - i; omega⟩
      · rw [List.drop_of_length_le (by omega)] at hinv
        have hsb := hp3.sh.blk
        rw [parseL] at hinv
        cases o with
        | nil =>
          rw [if_pos rfl] at hinv
          have hz0 : ([] : List Nat).length = 0 := rfl
          ((conv => whnf); repeat (any_goals (first | (refine Vc.stp ?_; intros; (conv => whnf)) | (refine Vc.spl ?_ ?_ <;> (intro _; (conv => whnf))))))
          rw [hinv]
          exact ⟨⟨ao, co, rfl, hp3.own⟩, hp3.ext⟩
        | cons k o =>
          rw [if_neg (by simp)] at hinv
          have hz0 : (k :: o).length = o.length + 1 := rfl
          ((conv => whnf); repeat (any_goals (first | (refine Vc.stp ?_; intros; (conv => whnf)) | (refine Vc.spl ?_ ?_ <;> (intro _; (conv => whnf))))))
          rw [hinv]
          exact ⟨rfl, hp3.ext⟩
end Go.Proofs.YtlgcfcdmldlefaaDoor
