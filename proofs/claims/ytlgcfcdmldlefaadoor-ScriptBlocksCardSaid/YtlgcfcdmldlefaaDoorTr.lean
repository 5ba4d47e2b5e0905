import Derived.Test.YtlgcfcdmldlefaaDoorTn
import Derived.Test.YtlgcfcdmldlefaaDoorTl
import Derived.Test.YtlgcfcdmldlefaaDoorTo
set_option linter.unusedVariables false
set_option linter.unusedSimpArgs false
set_option maxRecDepth 100000
/- Build scripts, the reference: a script read. -/
namespace Go.Proofs.YtlgcfcdmldlefaaDoor
open Go Go.Vc Go.Scr
def opc (k : Nat) : Nat := if k = 7 then 0 else if k = 9 then 1 else 2
def opV (o : List Nat) : List Value := natV (o.map opc)
theorem opV_append (o m : List Nat) : opV (o ++ m) = opV o ++ opV m := by simp [opV, natV]
theorem opV_length (o : List Nat) : (opV o).length = o.length := by simp [opV, natV]
structure RInv (H H' : Heap) (al : Option Addr) (cl : Nat) (L : List Bs) (out : List Ln) (ao : Option Addr) (co : Nat) (o : List Nat) (a : Option Addr) (cap : Nat) : Prop where
  op : Own H' H.size 3 1 a o.length cap (opV o)
  lines : Own H' H.size 9 1 al L.length cl (strs L)
  own : Own H' H.size 89 6 ao out.length co (lnsV out)
  d1 : Apart al a
  d2 : Apart ao a
  d3 : Apart al ao
  ext : Ext H H'
variable {H H' H'' : Heap} {al : Option Addr} {cl : Nat} {L : List Bs} {out : List Ln} {x : Ln} {ao ao' : Option Addr} {co co' : Nat} {o o' : List Nat} {a a' : Option Addr} {cap cap' : Nat}
theorem RInv.grow (h : RInv H H' al cl L out ao co o a cap) (k : Ext H' H'') : RInv H H'' al cl L out ao co o a cap :=
  ⟨h.op.ext k, h.lines.ext k, h.own.ext k, h.d1, h.d2, h.d3, h.ext.trans k⟩
theorem RInv.open (h : RInv H H' al cl L out ao co o a cap) (ho : Own H'' H.size 3 1 a' o'.length cap' (opV o')) (k : Wr a H' H'') (hf : ∀ p, a' = some p → a' = a ∨ H'.size ≤ p.block) : RInv H H'' al cl L out ao co o' a' cap' := by
  refine ⟨ho, h.lines.keep k fun p hp ⟨q, hq, e⟩ => h.d1 p q hp hq e.symm, h.own.keep k fun p hp ⟨q, hq, e⟩ => h.d2 p q hp hq e.symm, fun p q hp hq e => ?_, fun p q hp hq e => ?_, h.d3, h.ext.wr h.op (Nat.le_refl _) k⟩
  · rcases hf q hq with e1 | e1
    · exact h.d1 p q hp (e1 ▸ hq) e
    · have := (h.lines.block p hp).2; omega
  · rcases hf q hq with e1 | e1
    · exact h.d2 p q hp (e1 ▸ hq) e
    · have := (h.own.block p hp).2; omega
theorem RInv.push (h : RInv H H' al cl L out ao co o a cap) (ho : Own H'' H.size 89 6 ao' (out.length + 1) co' (lnsV out ++ (lnC x).toList)) (k : Wr ao H' H'') (hf : ∀ p, ao' = some p → ao' = ao ∨ H'.size ≤ p.block) : RInv H H'' al cl L (out ++ [x]) ao' co' o a cap := by
  have e : lnsV (out ++ [x]) = lnsV out ++ (lnC x).toList := by rw [lnsV_append]; simp [lnsV]
  refine ⟨h.op.keep k fun p hp ⟨q, hq, e⟩ => h.d2 q p hq hp e, h.lines.keep k fun p hp ⟨q, hq, e⟩ => h.d3 p q hp hq e.symm, by rw [e, List.length_append]; exact ho, h.d1, fun p q hp hq e => ?_, fun p q hp hq e => ?_, h.ext.wr h.own (Nat.le_refl _) k⟩
  · rcases hf p hp with e1 | e1
    · exact h.d2 p q (e1 ▸ hp) hq e
    · have := (h.op.block q hq).2; omega
  · rcases hf q hq with e1 | e1
    · exact h.d3 p q hp (e1 ▸ hq) e
    · have := (h.lines.block p hp).2; omega
theorem commF_nil {l : Bs} (h : l.dropWhile isB = []) : commF l = false := by unfold commF; rw [h]
theorem commF_head {l : Bs} {c : UInt8} {t : Bs} (h : l.dropWhile isB = c :: t) : commF l = (c == 35) := by unfold commF; rw [h]
set_option maxHeartbeats 8000000 in
theorem rparse_any (s : Bs) (hl : s.length ≤ 10000000) (H : Heap) : CallH Tryd.prog 38 [.string (mkS s)] H fun v H' => parseR H' H.size v (parseF s) ∧ Ext H H' := by
  have hsz : (mkS s).size = s.length := rfl
  refine Vc.CallH.body Tryd.func38 Tryd.call38 rfl (by decide +kernel) rfl ?_
  by_cases hbig : 65536 < s.length
  · have e : parseF s = (none, 0) := by unfold parseF; rw [if_pos hbig]
    ((conv => whnf); repeat (any_goals (first | (refine Vc.stp ?_; intros; (conv => whnf)) | (refine Vc.spl ?_ ?_ <;> (intro _; (conv => whnf))))))
    rw [e]; exact ⟨rfl, Ext.refl _⟩
  · have e : parseF s = parseL (linesF s) 0 [] [] := by unfold parseF; rw [if_neg hbig]
    rw [e]
    have hls := fun H => rlines_any s (by omega) H
    obtain ⟨hLn, hLl⟩ := linesF_len s
    generalize linesF s = L at *
    obtain ⟨R, hR⟩ : ∃ R, parseL L 0 [] [] = R := ⟨_, rfl⟩
    rw [hR]
    ((conv => whnf); repeat (any_goals (first | ((refine (hls _).mono ?_; rintro _ H2 ⟨⟨al, cl, rfl, hol⟩, hx2⟩; have hz2 := hx2.size); (conv => whnf)) | (refine Vc.stp ?_; intros; (conv => whnf)) | (refine Vc.spl ?_ ?_ <;> (intro _; (conv => whnf))))))
    refine LoopH.intro (fun (x : PSt) => [(8, .int .i64 x.i), (5, .slice x.ao x.out.length x.co), (6, .slice x.a x.o.length x.cap)]) (fun x H' => x.i ≤ L.length ∧ x.out.length ≤ 200 ∧ x.o.length ≤ 8 ∧ R = parseL (L.drop x.i) x.i x.out x.o ∧ RInv H H' al cl L x.out x.ao x.co x.o x.a x.cap) (fun x => L.length - x.i) ⟨0, [], none, 0, [], none, 0⟩ ⟨rfl, rfl, rfl, trivial⟩ ⟨Nat.zero_le _, Nat.zero_le _, Nat.zero_le _, hR.symm, ⟨Own.nil _ _ _ _, hol, Own.nil _ _ _ _, fun p q _ hq => (by cases hq), fun p q hp => (by cases hp), fun p q _ hq => (by cases hq), hx2⟩⟩ ?_
    rintro ⟨i, out, ao, co, o, a, cap⟩ H3 ⟨hi, hout, ho8, hinv, hp3⟩
    dsimp only at hi hout ho8 hinv hp3 ⊢
    have hz3 := hp3.ext.size
    by_cases hlt : i < L.length
    · have hd : L.drop i = L.getD i [] :: L.drop (i + 1) := by
        rw [List.drop_eq_getElem_cons hlt, List.getD_eq_getElem?_getD, List.getElem?_eq_getElem hlt]; rfl
      have hmem : L.getD i [] ∈ L := by
        rw [List.getD_eq_getElem?_getD, List.getElem?_eq_getElem hlt]; exact List.getElem_mem hlt
      have hget : L[i]? = some (L.getD i []) := by rw [List.getD_eq_getElem?_getD, List.getElem?_eq_getElem hlt]; rfl
      have hll := hLl _ hmem
      generalize L.getD i [] = l at *
      rw [hd, parseL_step] at hinv
      have hw := fun H => rwords_any l (by omega) H
      have hrow := hp3.lines.row
      obtain ⟨D, hD⟩ : ∃ D, l.dropWhile isB = D := ⟨_, rfl⟩
      cases D with
      | nil =>
        rw [skipF_nil hD, if_pos rfl] at hinv
        rw [words_skip hD] at hw
        have hz0 : ([] : List Bs).length = 0 := rfl
        ((conv => whnf); repeat (any_goals (first | ((refine IdxA.strv hrow rfl i l rfl hget ?_; intro _ _ _ _ _); (conv => whnf)) | ((refine (hw _).mono ?_; rintro _ H5 ⟨⟨aw, cw, rfl, how⟩, hx5⟩; have hz5 := hx5.size; have hrw := how.row; have hcw := how.cap_le); (conv => whnf)) | ((refine (hw _).mono ?_; rintro _ H5 ⟨rfl, hx5⟩; have hz5 := hx5.size); (conv => whnf)) | ((refine (rcomment_any _ (by omega) _).mono ?_; rintro _ _ ⟨rfl, rfl⟩; rw [hcm]); (conv => whnf)) | ((refine IdxA.strv hrw rfl 0 (c :: w) rfl rfl ?_; intro _ _ _ _ _); (conv => whnf)) | ((refine IdxH.nat 0 rfl (by omega) ?_; (conv => whnf); rw [hc0]); (conv => whnf)) | (refine Vc.stp ?_; intros; (conv => whnf)) | (refine Vc.spl ?_ ?_ <;> (intro _; (conv => whnf))))))
        exact ⟨⟨i + 1, out, ao, co, o, a, cap⟩, ⟨rfl, rfl, rfl, trivial⟩, ⟨by show i + 1 ≤ _; omega, hout, ho8, hinv, hp3.grow (by (repeat (first | assumption | exact Vc.Ext.refl _ | ((with_reducible apply Vc.Ext.trans); (case k => assumption)) | ((with_reducible apply Vc.Ext.but); (case k => assumption); (case hb => omega)))))⟩, by show L.length - (i + 1) < L.length - i; omega⟩
      | cons c t =>
        rw [skipF_cons hD] at hinv
        have hcm := commF_head hD
        by_cases h35 : c = 35
        · subst h35
          rw [show ((35 : UInt8) == 35) = true from rfl] at hinv hcm
          rw [if_pos rfl] at hinv
          rcases words_head hD with h0 | ⟨w, wt, h0⟩
          · rw [h0] at hw
            ((conv => whnf); repeat (any_goals (first | ((refine IdxA.strv hrow rfl i l rfl hget ?_; intro _ _ _ _ _); (conv => whnf)) | ((refine (hw _).mono ?_; rintro _ H5 ⟨⟨aw, cw, rfl, how⟩, hx5⟩; have hz5 := hx5.size; have hrw := how.row; have hcw := how.cap_le); (conv => whnf)) | ((refine (hw _).mono ?_; rintro _ H5 ⟨rfl, hx5⟩; have hz5 := hx5.size); (conv => whnf)) | ((refine (rcomment_any _ (by omega) _).mono ?_; rintro _ _ ⟨rfl, rfl⟩; rw [hcm]); (conv => whnf)) | ((refine IdxA.strv hrw rfl 0 (c :: w) rfl rfl ?_; intro _ _ _ _ _); (conv => whnf)) | ((refine IdxH.nat 0 rfl (by omega) ?_; (conv => whnf); rw [hc0]); (conv => whnf)) | (refine Vc.stp ?_; intros; (conv => whnf)) | (refine Vc.spl ?_ ?_ <;> (intro _; (conv => whnf))))))
            exact ⟨⟨i + 1, out, ao, co, o, a, cap⟩, ⟨rfl, rfl, rfl, trivial⟩, ⟨by show i + 1 ≤ _; omega, hout, ho8, hinv, hp3.grow (by (repeat (first | assumption | exact Vc.Ext.refl _ | ((with_reducible apply Vc.Ext.trans); (case k => assumption)) | ((with_reducible apply Vc.Ext.but); (case k => assumption); (case hb => omega)))))⟩, by show L.length - (i + 1) < L.length - i; omega⟩
          · rw [h0] at hw
            have hz0 : ((35 :: w) :: wt : List Bs).length = wt.length + 1 := rfl
            have hc0 : (mkS (35 :: w)).data.toList.getD 0 0 = 35 := rfl
            have hszD : (mkS (35 :: w)).size = w.length + 1 := rfl
            obtain ⟨c, hc⟩ : ∃ c : UInt8, c = 35 := ⟨_, rfl⟩
            rw [← hc] at hw hz0 hc0 hszD
            have hcn : c.toNat = 35 := by rw [hc]; rfl
            ((conv => whnf); repeat (any_goals (first | ((refine IdxA.strv hrow rfl i l rfl hget ?_; intro _ _ _ _ _); (conv => whnf)) | ((refine (hw _).mono ?_; rintro _ H5 ⟨⟨aw, cw, rfl, how⟩, hx5⟩; have hz5 := hx5.size; have hrw := how.row; have hcw := how.cap_le); (conv => whnf)) | ((refine (hw _).mono ?_; rintro _ H5 ⟨rfl, hx5⟩; have hz5 := hx5.size); (conv => whnf)) | ((refine (rcomment_any _ (by omega) _).mono ?_; rintro _ _ ⟨rfl, rfl⟩; rw [hcm]); (conv => whnf)) | ((refine IdxA.strv hrw rfl 0 (c :: w) rfl rfl ?_; intro _ _ _ _ _); (conv => whnf)) | ((refine IdxH.nat 0 rfl (by omega) ?_; (conv => whnf); rw [hc0]); (conv => whnf)) | (refine Vc.stp ?_; intros; (conv => whnf)) | (refine Vc.spl ?_ ?_ <;> (intro _; (conv => whnf))))))
            exact ⟨⟨i + 1, out, ao, co, o, a, cap⟩, ⟨rfl, rfl, rfl, trivial⟩, ⟨by show i + 1 ≤ _; omega, hout, ho8, hinv, hp3.grow (by (repeat (first | assumption | exact Vc.Ext.refl _ | ((with_reducible apply Vc.Ext.trans); (case k => assumption)) | ((with_reducible apply Vc.Ext.but); (case k => assumption); (case hb => omega)))))⟩, by show L.length - (i + 1) < L.length - i; omega⟩
        · have n35 := ne_nat 35 (by decide) h35
          have e35 : (c == 35) = false := by simpa using h35
          rw [e35] at hinv hcm
          rw [if_neg (by decide)] at hinv
          rcases words_head hD with h0 | ⟨w, wt, h0⟩
          · rw [h0] at hw hinv
            dsimp only at hinv
            ((conv => whnf); repeat (any_goals (first | ((refine IdxA.strv hrow rfl i l rfl hget ?_; intro _ _ _ _ _); (conv => whnf)) | ((refine (hw _).mono ?_; rintro _ H5 ⟨⟨aw, cw, rfl, how⟩, hx5⟩; have hz5 := hx5.size; have hrw := how.row; have hcw := how.cap_le); (conv => whnf)) | ((refine (hw _).mono ?_; rintro _ H5 ⟨rfl, hx5⟩; have hz5 := hx5.size); (conv => whnf)) | ((refine (rcomment_any _ (by omega) _).mono ?_; rintro _ _ ⟨rfl, rfl⟩; rw [hcm]); (conv => whnf)) | ((refine IdxA.strv hrw rfl 0 (c :: w) rfl rfl ?_; intro _ _ _ _ _); (conv => whnf)) | ((refine IdxH.nat 0 rfl (by omega) ?_; (conv => whnf); rw [hc0]); (conv => whnf)) | (refine Vc.stp ?_; intros; (conv => whnf)) | (refine Vc.spl ?_ ?_ <;> (intro _; (conv => whnf))))))
            exact ⟨by rw [hinv]; rfl, hp3.ext.trans (by (repeat (first | assumption | exact Vc.Ext.refl _ | ((with_reducible apply Vc.Ext.trans); (case k => assumption)) | ((with_reducible apply Vc.Ext.but); (case k => assumption); (case hb => omega)))))⟩
          · obtain ⟨hw1, hw2⟩ := wordsF_all h0
            rw [h0] at hw hinv
            dsimp only at hinv
            have hz0 : ((c :: w) :: wt : List Bs).length = wt.length + 1 := rfl
            have hc0 : (mkS (c :: w)).data.toList.getD 0 0 = c := rfl
            have hszD : (mkS (c :: w)).size = w.length + 1 := rfl
            have hrd := fun H a cap (hr : Row H a (strs ((c :: w) :: wt))) (hc : ((c :: w) :: wt).length ≤ cap) => rline_any (c :: w) wt a _ cap H hr rfl hc (by omega) (fun x hx => by have := (hw2 x hx).2; omega)
            cases hln : lineF ((c :: w) :: wt) with
            | none =>
              rw [hln] at hrd hinv
              dsimp only at hinv
              ((conv => whnf); repeat (any_goals (first | ((refine IdxA.strv hrow rfl i l rfl hget ?_; intro _ _ _ _ _); (conv => whnf)) | ((refine (hw _).mono ?_; rintro _ H5 ⟨⟨aw, cw, rfl, how⟩, hx5⟩; have hz5 := hx5.size; have hrw := how.row; have hcw := how.cap_le); (conv => whnf)) | ((refine (hw _).mono ?_; rintro _ H5 ⟨rfl, hx5⟩; have hz5 := hx5.size); (conv => whnf)) | ((refine (rcomment_any _ (by omega) _).mono ?_; rintro _ _ ⟨rfl, rfl⟩; rw [hcm]); (conv => whnf)) | ((refine IdxA.strv hrw rfl 0 (c :: w) rfl rfl ?_; intro _ _ _ _ _); (conv => whnf)) | ((refine IdxH.nat 0 rfl (by omega) ?_; (conv => whnf); rw [hc0]); (conv => whnf)) | ((refine (hrd _ _ _ hrw hcw).mono ?_; rintro _ H6 ⟨⟨k6, a6, b6, t6, n6, q6, rfl⟩, hx6⟩; have hz6 := hx6.size); (conv => whnf)) | (refine Vc.stp ?_; intros; (conv => whnf)) | (refine Vc.spl ?_ ?_ <;> (intro _; (conv => whnf))))))
              exact ⟨by rw [hinv]; rfl, hp3.ext.trans (by (repeat (first | assumption | exact Vc.Ext.refl _ | ((with_reducible apply Vc.Ext.trans); (case k => assumption)) | ((with_reducible apply Vc.Ext.but); (case k => assumption); (case hb => omega)))))⟩
            | some x =>
              rw [hln] at hrd hinv
              dsimp only at hinv
              by_cases h200 : out.length = 200
              · rw [if_pos h200] at hinv
                ((conv => whnf); repeat (any_goals (first | ((refine IdxA.strv hrow rfl i l rfl hget ?_; intro _ _ _ _ _); (conv => whnf)) | ((refine (hw _).mono ?_; rintro _ H5 ⟨⟨aw, cw, rfl, how⟩, hx5⟩; have hz5 := hx5.size; have hrw := how.row; have hcw := how.cap_le); (conv => whnf)) | ((refine (hw _).mono ?_; rintro _ H5 ⟨rfl, hx5⟩; have hz5 := hx5.size); (conv => whnf)) | ((refine (rcomment_any _ (by omega) _).mono ?_; rintro _ _ ⟨rfl, rfl⟩; rw [hcm]); (conv => whnf)) | ((refine IdxA.strv hrw rfl 0 (c :: w) rfl rfl ?_; intro _ _ _ _ _); (conv => whnf)) | ((refine IdxH.nat 0 rfl (by omega) ?_; (conv => whnf); rw [hc0]); (conv => whnf)) | ((refine (hrd _ _ _ hrw hcw).mono ?_; rintro _ H6 ⟨rfl, hx6⟩; have hz6 := hx6.size); (conv => whnf)) | (refine Vc.stp ?_; intros; (conv => whnf)) | (refine Vc.spl ?_ ?_ <;> (intro _; (conv => whnf))))))
                exact ⟨by rw [hinv]; rfl, hp3.ext.trans (by (repeat (first | assumption | exact Vc.Ext.refl _ | ((with_reducible apply Vc.Ext.trans); (case k => assumption)) | ((with_reducible apply Vc.Ext.but); (case k => assumption); (case hb => omega)))))⟩
              · rw [if_neg h200] at hinv
                have hnone : takeF o x.k = none → R = (none, i + 1) := fun h => by rw [hinv, h]
                have hsome : ∀ o9, takeF o x.k = some o9 → R = parseL (L.drop (i + 1)) (i + 1) (out ++ [x]) o9 := fun o9 h => by rw [hinv, h]
                have hna : ∀ b, H3.size ≤ b → ¬ ∃ p, a = some p ∧ p.block = b := fun b hb ⟨p, hp, e⟩ => by have := (hp3.op.block p hp).2; omega
                have app : ∀ {H9 HA : Heap} {g : Nat} {ty : TypeId} {cb : Array Bool} {K : Value → Heap → Prop} {a9 : Option Addr} {c9 : Nat} {o9 : List Nat}, RInv H H9 al cl L out ao co o9 a9 c9 → Ext H9 HA → Blk HA g (lnC x) 89 → (∀ a8 c8 HB, RInv H HB al cl L (out ++ [x]) a8 c8 o9 a9 c9 → K (.slice a8 (out.length + 1) c8) HB) → NextH Tryd.prog (builtin .append #[78, 78] ty cb #[.slice ao out.length co, .slice (some ⟨g, 0, none⟩) 1 1]) HA K := by
                  intro H9 HA g ty cb K a9 c9 o9 hr9 hx9 hbA hk
                  have hpA := hr9.grow hx9
                  refine NextH.append (i := Tryd.t89) (z := .agg (lineC 0 [] [] [] 0 false)) (base := H.size) rfl ⟨_, rfl, fun _ h => by cases h⟩ rfl rfl rfl hpA.own (Src.row (c := 1) (Blk.row (c := (lnC x).toList) hbA) rfl (by simp [lnC, lineC, plainV])) (by unfold maxLen; omega) (by show (out.length + 1) * 72 ≤ _; omega) hpA.ext.size ?_
                  intro a8 c8 HB hoB hwB hnB
                  exact hk a8 c8 HB (hpA.push hoB hwB hnB)
                have app2 : ∀ {HA : Heap} {g v : Nat} {ty : TypeId} {cb : Array Bool} {K : Value → Heap → Prop} {o9 : List Nat}, opV o9 = opV o ++ [.int .i64 (v : Int)] → o9.length = o.length + 1 → RInv H HA al cl L out ao co o a cap → Blk HA g #[.int .i64 (v : Int)] 3 → (∀ a9 c9 HB, RInv H HB al cl L out ao co o9 a9 c9 → Wr a HA HB → K (.slice a9 (o.length + 1) c9) HB) → NextH Tryd.prog (builtin .append #[46, 46] ty cb #[.slice a o.length cap, .slice (some ⟨g, 0, none⟩) 1 1]) HA K := by
                  intro HA g v ty cb K o9 e1 e2 hpA hbA hk
                  refine NextH.append (i := Tryd.t3) (z := .int .i64 0) (base := H.size) rfl ⟨_, rfl, fun _ h => by cases h⟩ rfl rfl rfl hpA.op (Src.row (c := 1) (Blk.row (c := [.int .i64 (v : Int)]) hbA) rfl (by simp [plainV])) (by unfold maxLen; omega) (by show (o.length + 1) * 8 ≤ _; omega) hpA.ext.size ?_
                  intro a8 c8 HB hoB hwB hnB
                  exact hk a8 c8 HB (hpA.open (by rw [e1, e2]; exact hoB) hwB hnB) hwB
                ((conv => whnf); repeat (any_goals (first | ((refine IdxA.strv hrow rfl i l rfl hget ?_; intro _ _ _ _ _); (conv => whnf)) | ((refine (hw _).mono ?_; rintro _ H5 ⟨⟨aw, cw, rfl, how⟩, hx5⟩; have hz5 := hx5.size; have hrw := how.row; have hcw := how.cap_le); (conv => whnf)) | ((refine (hw _).mono ?_; rintro _ H5 ⟨rfl, hx5⟩; have hz5 := hx5.size); (conv => whnf)) | ((refine (rcomment_any _ (by omega) _).mono ?_; rintro _ _ ⟨rfl, rfl⟩; rw [hcm]); (conv => whnf)) | ((refine IdxA.strv hrw rfl 0 (c :: w) rfl rfl ?_; intro _ _ _ _ _); (conv => whnf)) | ((refine IdxH.nat 0 rfl (by omega) ?_; (conv => whnf); rw [hc0]); (conv => whnf)) | ((refine (hrd _ _ _ hrw hcw).mono ?_; rintro _ H6 ⟨rfl, hx6⟩; have hz6 := hx6.size); (conv => whnf)) | (refine Vc.stp ?_; intros; (conv => whnf)))))
                rename_i H7 hs7 hb7 hx7 H8 hs8 hb8 hx8
                have hx38 : Ext H3 H8 := by (repeat (first | assumption | exact Vc.Ext.refl _ | ((with_reducible apply Vc.Ext.trans); (case k => assumption)) | ((with_reducible apply Vc.Ext.but); (case k => assumption); (case hb => omega))))
                have hp8 := hp3.grow hx38
                have hz8 := hx38.size
                by_cases h78 : x.k = 7 ∨ x.k = 8
                · by_cases h8 : o.length = 8
                  · have htk : takeF o x.k = none := by unfold takeF; rw [if_pos h78, if_pos h8]
                    rcases h78 with hk | hk
                    · ((conv => whnf); repeat (any_goals (first | (refine Vc.stp ?_; intros; (conv => whnf)))))
                      exact ⟨by rw [hnone htk]; rfl, hp8.ext⟩
                    · ((conv => whnf); repeat (any_goals (first | (refine Vc.stp ?_; intros; (conv => whnf)))))
                      exact ⟨by rw [hnone htk]; rfl, hp8.ext⟩
                  · rcases h78 with hk | hk
                    · skip
                      ((conv => whnf); repeat (any_goals (first | (refine Vc.stp ?_; intros; (conv => whnf)))))
                      rename_i HC hsC hbC hxC
                      have htk : takeF o x.k = some (o ++ [7]) := by unfold takeF; rw [if_pos (by omega), if_neg h8, hk]
                      refine app2 (v := 0) (o9 := o ++ [7]) (by rw [opV_append]; rfl) (by simp) (hp8.grow hxC) hbC ?_
                      intro a9 c9 HD hrD hwD
                      have hbD := (hb8.ext hxC).keep hwD (hna _ (by omega))
                      have hzD := hrD.ext.size
                      ((conv => whnf); repeat (any_goals (first | (refine Vc.stp ?_; intros; (conv => whnf)))))
                      rename_i HE hsE hbE hxE
                      refine app hrD hxE hbE ?_
                      intro a8 c8 HB hrB
                      ((conv => whnf); repeat (any_goals (first | (refine Vc.stp ?_; intros; (conv => whnf)))))
                      exact ⟨⟨i + 1, out ++ [x], a8, c8, o ++ [7], a9, c9⟩, ⟨rfl, by show Value.slice a8 (out.length + 1) c8 = Value.slice a8 (out ++ [x]).length c8; rw [List.length_append]; rfl, by show Value.slice a9 (o.length + 1) c9 = Value.slice a9 (o ++ [7]).length c9; rw [List.length_append]; rfl, trivial⟩, ⟨by show i + 1 ≤ _; omega, by show (out ++ [x]).length ≤ 200; rw [List.length_append]; show out.length + 1 ≤ 200; omega, takeF_len htk ho8, hsome _ htk, hrB⟩, by show L.length - (i + 1) < L.length - i; omega⟩
                    · skip
                      ((conv => whnf); repeat (any_goals (first | (refine Vc.stp ?_; intros; (conv => whnf)))))
                      rename_i HC hsC hbC hxC
                      have htk : takeF o x.k = some (o ++ [8]) := by unfold takeF; rw [if_pos (by omega), if_neg h8, hk]
                      refine app2 (v := 2) (o9 := o ++ [8]) (by rw [opV_append]; rfl) (by simp) (hp8.grow hxC) hbC ?_
                      intro a9 c9 HD hrD hwD
                      have hbD := (hb8.ext hxC).keep hwD (hna _ (by omega))
                      have hzD := hrD.ext.size
                      ((conv => whnf); repeat (any_goals (first | (refine Vc.stp ?_; intros; (conv => whnf)))))
                      rename_i HE hsE hbE hxE
                      refine app hrD hxE hbE ?_
                      intro a8 c8 HB hrB
                      ((conv => whnf); repeat (any_goals (first | (refine Vc.stp ?_; intros; (conv => whnf)))))
                      exact ⟨⟨i + 1, out ++ [x], a8, c8, o ++ [8], a9, c9⟩, ⟨rfl, by show Value.slice a8 (out.length + 1) c8 = Value.slice a8 (out ++ [x]).length c8; rw [List.length_append]; rfl, by show Value.slice a9 (o.length + 1) c9 = Value.slice a9 (o ++ [8]).length c9; rw [List.length_append]; rfl, trivial⟩, ⟨by show i + 1 ≤ _; omega, by show (out ++ [x]).length ≤ 200; rw [List.length_append]; show out.length + 1 ≤ 200; omega, takeF_len htk ho8, hsome _ htk, hrB⟩, by show L.length - (i + 1) < L.length - i; omega⟩
                · have k7 : x.k ≠ 7 := fun e => h78 (.inl e)
                  have k8 : x.k ≠ 8 := fun e => h78 (.inr e)
                  by_cases k9 : x.k = 9
                  · have ht : takeF o x.k = if o.getLast? = some 7 then some (o.dropLast ++ [9]) else none := by unfold takeF; rw [if_neg h78, if_pos k9]
                    rcases List.eq_nil_or_concat o with h0 | ⟨q, m, h0⟩
                    · subst h0
                      have hz : ([] : List Nat).length = 0 := rfl
                      ((conv => whnf); repeat (any_goals (first | (refine Vc.stp ?_; intros; (conv => whnf)))))
                      exact ⟨by rw [hnone (by rw [ht]; rfl)]; rfl, hp8.ext⟩
                    · rw [List.concat_eq_append] at h0
                      subst h0
                      have hqn : (q ++ [m]).length = q.length + 1 := by simp
                      rw [List.getLast?_concat, List.dropLast_concat] at ht
                      obtain ⟨gb, ha⟩ : ∃ gb, a = some ⟨gb, 0, none⟩ := by
                        rcases hp3.op.out with ⟨_, h0, _⟩ | ⟨gb, cur, ha, _⟩
                        · omega
                        · exact ⟨gb, ha⟩
                      subst ha
                      have hop8 := hp8.op
                      have hcl := Own.hcell hop8 (i := q.length) (v := .int .i64 (opc m : Int)) (by rw [opV_append, List.getElem?_append_right (by rw [opV_length]; omega), opV_length]; simp [opV, natV])
                      by_cases hm : m = 7
                      · have hc0 : opc m = 0 := by rw [hm]; rfl
                        rw [if_pos (by rw [hm])] at ht
                        ((conv => whnf); repeat (any_goals (first | ((refine IdxA.at1 q.length (by omega) (by omega) ?_); (conv => whnf)) | (refine Vc.stp ?_; intros; (conv => whnf)))))
                        refine DoH.store_own (o := 0 + q.length) hop8 rfl rfl rfl (by omega) ?_
                        intro HD hsD hoD hwD
                        have e9 : (opV (q ++ [m])).set (0 + q.length) (.int .i64 1) = opV (q ++ [9]) := by rw [Nat.zero_add, opV_append, opV_append, List.set_append_right _ _ (by rw [opV_length]; exact Nat.le_refl _), opV_length, Nat.sub_self]; rfl
                        have hln9 : (q ++ [9]).length = (q ++ [m]).length := by simp
                        have hrD : RInv H HD al cl L out ao co (q ++ [9]) (some ⟨gb, 0, none⟩) cap := hp8.open (by rw [hln9, ← e9]; exact hoD) (Wr.of_but hwD) fun p hp => .inl rfl
                        have hbD := hb8.but hwD fun e => hna H6.size (by omega) ⟨_, rfl, e.symm⟩
                        have hzD := hrD.ext.size
                        ((conv => whnf); repeat (any_goals (first | (refine Vc.stp ?_; intros; (conv => whnf)))))
                        rename_i HE hsE hbE hxE
                        refine app hrD hxE hbE ?_
                        intro a8 c8 HB hrB
                        ((conv => whnf); repeat (any_goals (first | (refine Vc.stp ?_; intros; (conv => whnf)))))
                        exact ⟨⟨i + 1, out ++ [x], a8, c8, q ++ [9], some ⟨gb, 0, none⟩, cap⟩, ⟨rfl, by show Value.slice a8 (out.length + 1) c8 = Value.slice a8 (out ++ [x]).length c8; rw [List.length_append]; rfl, by show Value.slice _ (q ++ [m]).length cap = Value.slice _ (q ++ [9]).length cap; rw [hln9], trivial⟩, ⟨by show i + 1 ≤ _; omega, by show (out ++ [x]).length ≤ 200; rw [List.length_append]; show out.length + 1 ≤ 200; omega, takeF_len ht ho8, hsome _ ht, hrB⟩, by show L.length - (i + 1) < L.length - i; omega⟩
                      · have hc0 : opc m = 1 ∨ opc m = 2 := by unfold opc; rw [if_neg hm]; split <;> simp
                        rw [if_neg (by intro e; cases e; exact hm rfl)] at ht
                        ((conv => whnf); repeat (any_goals (first | ((refine IdxA.at1 q.length (by omega) (by omega) ?_); (conv => whnf)) | (refine Vc.stp ?_; intros; (conv => whnf)))))
                        exact ⟨by rw [hnone ht]; rfl, hp8.ext⟩
                  · by_cases k10 : x.k = 10
                    · have ht : takeF o x.k = if o = [] then none else some o.dropLast := by unfold takeF; rw [if_neg h78, if_neg k9, if_pos k10]
                      by_cases h0 : o = []
                      · rw [if_pos h0] at ht
                        have hz : o.length = 0 := by rw [h0]; rfl
                        ((conv => whnf); repeat (any_goals (first | (refine Vc.stp ?_; intros; (conv => whnf)))))
                        exact ⟨by rw [hnone ht]; rfl, hp8.ext⟩
                      · rw [if_neg h0] at ht
                        have hpos := List.length_pos_iff.2 h0
                        have hcap := hp8.op.cap_le
                        have hrD : RInv H H8 al cl L out ao co o.dropLast a cap := by
                          have hc := hp8.op.cut (o.length - 1) (by omega)
                          have e : opV o.dropLast = (opV o).take ((o.length - 1) * 1) := by rw [Nat.mul_one, List.dropLast_eq_take]; simp [opV, natV, List.map_take]
                          rw [← e] at hc
                          exact hp8.open (by rw [List.length_dropLast]; exact hc) (Only.refl _ _) fun p hp => .inl rfl
                        ((conv => whnf); repeat (any_goals (first | ((refine BndH.nat (o.length - 1) (by omega) (by omega) ?_); (conv => whnf)) | (refine Vc.stp ?_; intros; (conv => whnf)))))
                        rename_i HE hsE hbE hxE
                        refine app hrD hxE hbE ?_
                        intro a8 c8 HB hrB
                        ((conv => whnf); repeat (any_goals (first | (refine Vc.stp ?_; intros; (conv => whnf)))))
                        exact ⟨⟨i + 1, out ++ [x], a8, c8, o.dropLast, a, cap⟩, ⟨rfl, by show Value.slice a8 (out.length + 1) c8 = Value.slice a8 (out ++ [x]).length c8; rw [List.length_append]; rfl, by show Value.slice a (o.length - 1) cap = Value.slice a o.dropLast.length cap; rw [List.length_dropLast], trivial⟩, ⟨by show i + 1 ≤ _; omega, by show (out ++ [x]).length ≤ 200; rw [List.length_append]; show out.length + 1 ≤ 200; omega, takeF_len ht ho8, hsome _ ht, hrB⟩, by show L.length - (i + 1) < L.length - i; omega⟩
                    · have ht : takeF o x.k = some o := by unfold takeF; rw [if_neg h78, if_neg k9, if_neg k10]
                      ((conv => whnf); repeat (any_goals (first | (refine Vc.stp ?_; intros; (conv => whnf)))))
                      rename_i HE hsE hbE hxE
                      refine app hp8 hxE hbE ?_
                      intro a8 c8 HB hrB
                      ((conv => whnf); repeat (any_goals (first | (refine Vc.stp ?_; intros; (conv => whnf)))))
                      exact ⟨⟨i + 1, out ++ [x], a8, c8, o, a, cap⟩, ⟨rfl, by show Value.slice a8 (out.length + 1) c8 = Value.slice a8 (out ++ [x]).length c8; rw [List.length_append]; rfl, rfl, trivial⟩, ⟨by show i + 1 ≤ _; omega, by show (out ++ [x]).length ≤ 200; rw [List.length_append]; show out.length + 1 ≤ 200; omega, takeF_len ht ho8, hsome _ ht, hrB⟩, by show L.length - (i + 1) < L.length - i; omega⟩
    · rw [List.drop_of_length_le (by omega)] at hinv
      rw [parseL] at hinv
      cases o with
      | nil =>
        rw [if_pos rfl] at hinv
        have hz0 : ([] : List Nat).length = 0 := rfl
        ((conv => whnf); repeat (any_goals (first | (refine Vc.stp ?_; intros; (conv => whnf)) | (refine Vc.spl ?_ ?_ <;> (intro _; (conv => whnf))))))
        rw [hinv]
        exact ⟨⟨ao, co, rfl, hp3.own⟩, hp3.ext⟩
      | cons k o =>
        rw [if_neg (by simp)] at hinv
        have hz0 : (k :: o).length = o.length + 1 := rfl
        ((conv => whnf); repeat (any_goals (first | (refine Vc.stp ?_; intros; (conv => whnf)) | (refine Vc.spl ?_ ?_ <;> (intro _; (conv => whnf))))))
        rw [hinv]
        exact ⟨rfl, hp3.ext⟩
end Go.Proofs.YtlgcfcdmldlefaaDoor
