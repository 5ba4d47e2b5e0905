import Derived.Test.YtihopeogaeinhaaGreatDoorKm
import Derived.Test.YtihopeogaeinhaaGreatDoorKh
set_option linter.unusedVariables false
set_option linter.unusedSimpArgs false
set_option maxRecDepth 100000
/- Law 13: ArchiveOpens, the walk. -/
namespace Go.Proofs.YtihopeogaeinhaaGreatDoor
open Go Go.Vc Go.Scr Go.Pth Go.Tre Go.Arc Go.Sha
theorem place_any (k : Int) (n : Nat) (h0 : 0 < n) (hn : n ≤ 1000000000) (H : Heap) : CallH Tryz.prog 25 [.int .i64 k, .int .i64 n] H fun v H' => (∃ i : Nat, v = .int .i64 i ∧ i < n) ∧ H = H' := by
  obtain ⟨m, rfl⟩ : ∃ m, n = m + 1 := ⟨n - 1, by omega⟩
  refine Vc.CallH.body Tryz.func25 Tryz.call25 rfl (by decide +kernel) rfl ?_
  have hb := tmod_bound k m
  obtain ⟨r, hr⟩ : ∃ r, k.tmod ((m : Int) + 1) = r := ⟨_, rfl⟩
  rw [hr] at hb
  by_cases hneg : r < 0
  · ((conv => whnf); repeat (any_goals (first | ((refine RemH.mk ⟨by omega, ?_⟩; rw [show k.tmod ((m + 1 : Nat) : Int) = r from hr]); (conv => whnf)) | (refine Vc.stp ?_; intros; (conv => whnf)) | (refine Vc.spl ?_ ?_ <;> (intro _; (conv => whnf))))))
    exact ⟨⟨(r + ((m + 1 : Nat) : Int)).toNat, by show Value.int _ _ = _; congr 1; omega, by omega⟩, rfl⟩
  · ((conv => whnf); repeat (any_goals (first | ((refine RemH.mk ⟨by omega, ?_⟩; rw [show k.tmod ((m + 1 : Nat) : Int) = r from hr]); (conv => whnf)) | (refine Vc.stp ?_; intros; (conv => whnf)) | (refine Vc.spl ?_ ?_ <;> (intro _; (conv => whnf))))))
    exact ⟨⟨r.toNat, by show Value.int _ _ = _; congr 1; omega, by omega⟩, rfl⟩
theorem own_some {H : Heap} {base n cap size : Nat} {e : TypeId} {a : Option Addr} {xs : List Value} (h : Own H base e size a n cap xs) (hn : 0 < n) : ∃ g, a = some ⟨g, 0, none⟩ ∧ base ≤ g := by
  rcases h.out with ⟨_, h0, _⟩ | ⟨g, _, ha, hb, _⟩
  · omega
  · exact ⟨g, ha, hb⟩
theorem set_own {H : Heap} {base n cap i : Nat} {e : TypeId} {a : Option Addr} {l : Bs} {x y : Int} (h : Own H base e 1 a n cap ((strV l).set (0 + i) (.int .u8 (bitB .u8 .xor x y)))) : ∃ Y : Bs, Y.length = n ∧ Own H base e 1 a n cap (strV Y) := by
  rw [Nat.zero_add, strV_set _ _ _ (xor_u8 x y).1 (xor_u8 x y).2] at h
  exact ⟨_, by have := h.len; rwa [strV_length, Nat.mul_one] at this, h⟩
theorem own_take {H : Heap} {base n cap k : Nat} {e : TypeId} {a : Option Addr} {Y : Bs} (h : Own H base e 1 a n cap (strV Y)) (hk : k ≤ n) (hl : Y.length = n) : ∃ Z : Bs, Z.length = k ∧ Own H base e 1 a k cap (strV Z) := ⟨Y.take k, by rw [List.length_take]; omega, by have := h.cut k hk; rwa [Nat.mul_one, strV_take] at this⟩
set_option maxHeartbeats 2000000 in
theorem opens_walk (raw : Bs) (ar : Option Addr) (nr cr : Nat) (L : Tr) (al : Option Addr) (nl cl : Nat) (at_ : Int) (x : UInt8) (cut more : Bool) (H : Heap) (hrr : Row H ar (strV raw)) (hnr : raw.length = nr) (hcr : nr ≤ cr) (hmr : cr ≤ maxLen) (hrl : RowF H al L) (hnl : L.length = nl) :
    CallH Tryz.prog 4 [.slice ar nr cr, .slice al nl cl, .int .i64 at_, .int .u8 x.toNat, .bool cut, .bool more] H fun v H' => v = .bool true ∧ Ext H H' := by
  have hlc := fun H1 (k : Ext H H1) => hlight_any L al nl cl H1 (hrl.ext k) hnl
  refine Vc.CallH.body Tryz.func4 Tryz.call4 rfl (by decide +kernel) rfl ?_
  by_cases h1000 : 1000 < nr
  · ((conv => whnf); repeat (any_goals (first | ((refine (known13_any _).mono ?_; rintro _ H1 ⟨rfl, hx1⟩; have hz1 := hx1.size); (conv => whnf)) | ((refine (hlc _ (by (repeat (first | assumption | exact Vc.Ext.refl _ | ((with_reducible apply Vc.Ext.trans); (case k => assumption)) | ((with_reducible apply Vc.Ext.but); (case k => assumption); (case hb => omega)))))).mono ?_; rintro _ _ ⟨rfl, rfl⟩); (conv => whnf)) | (refine Vc.stp ?_; intros; (conv => whnf)) | (refine Vc.spl ?_ ?_ <;> (intro _; (conv => whnf))))))
    exact ⟨rfl, hx1⟩
  by_cases hl : lightF L = true
  rotate_left
  · have hl : lightF L = false := by simpa using hl
    rw [hl] at hlc
    ((conv => whnf); repeat (any_goals (first | ((refine (known13_any _).mono ?_; rintro _ H1 ⟨rfl, hx1⟩; have hz1 := hx1.size); (conv => whnf)) | ((refine (hlc _ (by (repeat (first | assumption | exact Vc.Ext.refl _ | ((with_reducible apply Vc.Ext.trans); (case k => assumption)) | ((with_reducible apply Vc.Ext.but); (case k => assumption); (case hb => omega)))))).mono ?_; rintro _ _ ⟨rfl, rfl⟩); (conv => whnf)) | (refine Vc.stp ?_; intros; (conv => whnf)) | (refine Vc.spl ?_ ?_ <;> (intro _; (conv => whnf))))))
    exact ⟨rfl, hx1⟩
  rw [hl] at hlc
  obtain ⟨h20, hall⟩ := (light_iff L).1 hl
  have hpl := pack_light L hl
  have hpp : 0 < (packF L).length := by rw [packF_eq]; simp
  cases cut with
  | false =>
    cases more with
    | false =>
      ((conv => whnf); repeat (any_goals (first | ((refine (known13_any _).mono ?_; rintro _ H1 ⟨rfl, hx1⟩; have hz1 := hx1.size); (conv => whnf)) | ((refine (hlc _ (by (repeat (first | assumption | exact Vc.Ext.refl _ | ((with_reducible apply Vc.Ext.trans); (case k => assumption)) | ((with_reducible apply Vc.Ext.but); (case k => assumption); (case hb => omega)))))).mono ?_; rintro _ _ ⟨rfl, rfl⟩); (conv => whnf)) | ((refine (rpack_any L al nl cl _ (hrl.ext hx1) hnl (by omega) (fun f hf => by have := hall f hf; omega)).mono ?_; rintro _ H2 ⟨⟨a2, c2, rfl, ho2⟩, hx2⟩; have hz2 := hx2.size; obtain ⟨g, rfl, hgb⟩ := own_some ho2 (by omega); have hcm2 := own_max ho2; have hcl2 := ho2.cap_le; obtain ⟨N, hN⟩ : ∃ N, (packF L).length = N := ⟨_, rfl⟩; rw [hN] at ho2 hcl2 hpl hpp ⊢); (conv => whnf)) | ((refine (place_any at_ N (by omega) (by omega) _).mono ?_; rintro _ _ ⟨⟨i, rfl, hi⟩, rfl⟩); (conv => whnf)) | ((refine IdxA.at1 i rfl hi ?_); (conv => whnf)) | (((with_reducible apply SemH.load); (focus (rfl)); (focus ((exact Own.hcell ho2 (strV_get (by omega))))); (focus ((conv => whnf)))); (conv => whnf)) | (((with_reducible apply DoH.store_own); (focus ((exact ho2))); (focus (rfl)); (focus (rfl)); (focus (rfl)); (focus (omega)); (focus ((intro H3 hz3 ho3 hb3; have hx13 : Ext H1 H3 := hx2.but hb3 hgb; clear hx2 hb3 ho2; obtain ⟨Y, hY, ho3⟩ := set_own ho3; (conv => whnf))))); (conv => whnf)) | (((with_reducible apply SemH.lit0 [.int .u8 80, .int .u8 65, .int .u8 75, .int .u8 49]); (focus (rfl)); (focus (rfl)); (focus (rfl)); (focus (rfl)); (focus (rfl)); (focus (rfl)); (focus (rfl)); (focus ((have := ho3; intro H6 hz6 hb6 hx6; (conv => whnf))))); (conv => whnf)) | ((refine SemH.mark0 rfl rfl hb6 hx6 (Nat.le_refl _) ?_; intro H7 hz7 hb7 hx7; have ho7 : Own H7 H3.size 5 1 (some ⟨H3.size, 0, none⟩) 4 4 (strV [80, 65, 75, 49]) := own_lit hb7 (Nat.le_refl _) rfl (by decide); have hx17 : Ext H1 H7 := hx13.trans hx7); (conv => whnf)) | ((refine NextH.appB (y := raw) (m := nr) ho7 (Src.row (hrr.ext (hx1.trans hx17)) (by rw [strV_length]; omega) (strV_plain _)) (by decide) (by omega) (by omega) ⟨_, rfl, fun _ h => by cases h⟩ ?_; intro a8 c8 H8 ho8 hw8; have hx58 : Ext H3 H8 := hx7.wr ho7 (Nat.le_refl _) hw8; have hz8 := hx58.size); (conv => whnf)) | (refine Vc.stp ?_; intros; (conv => whnf)))))
      all_goals
        rename_i H9 hz9 hb9 hx9
        have hx19 : Ext H1 H9 := (hx13.trans hx58).trans hx9
        have ho8 := ho8.ext hx9
        have hps : Parts H9 (some ⟨H8.size, 0, none⟩) [⟨ar, nr, cr, raw⟩, ⟨a8, 4 + nr, c8, [80, 65, 75, 49] ++ raw⟩, ⟨some ⟨g, 0, none⟩, N, c2, Y⟩] := by
          refine ⟨Blk.row hb9, fun p hp => ?_⟩
          simp only [List.mem_cons, List.not_mem_nil, or_false] at hp
          rcases hp with rfl | rfl | rfl
          · exact ⟨hnr, hcr, hrr.ext (hx1.trans hx19)⟩
          · exact ⟨by rw [List.length_append, hnr]; rfl, ho8.cap_le, ho8.row⟩
          · exact ⟨hY, ho3.cap_le, ho3.row.ext (hx58.trans hx9)⟩
        have hpb : ∀ p ∈ [(⟨ar, nr, cr, raw⟩ : Part), ⟨a8, 4 + nr, c8, [80, 65, 75, 49] ++ raw⟩, ⟨some ⟨g, 0, none⟩, N, c2, Y⟩], p.cap ≤ maxLen ∧ p.n ≤ 1000000 := by
          intro p hp
          simp only [List.mem_cons, List.not_mem_nil, or_false] at hp
          rcases hp with rfl | rfl | rfl
          · exact ⟨hmr, by dsimp only; omega⟩
          · exact ⟨own_max ho8, by dsimp only; omega⟩
          · exact ⟨own_max ho3, by dsimp only; omega⟩
        obtain ⟨ps, hpse⟩ : ∃ ps, [(⟨ar, nr, cr, raw⟩ : Part), ⟨a8, 4 + nr, c8, [80, 65, 75, 49] ++ raw⟩, ⟨some ⟨g, 0, none⟩, N, c2, Y⟩] = ps := ⟨_, rfl⟩
        rw [hpse] at hps hpb
        have hpl3 : ps.length = 3 := by rw [← hpse]; rfl
        refine LoopH.intro (fun (k : Nat) => [(60, .int .i64 k)]) (fun k H' => k ≤ 3 ∧ Ext H9 H') (fun k => 3 - k) 0 ⟨rfl, trivial⟩ ⟨Nat.zero_le _, Ext.refl _⟩ ?_
        rintro k Hc ⟨hk3, hx9c⟩
        have hzc := hx9c.size
        by_cases hk : k < 3
        · have hpm : ps[k]'(by omega) ∈ ps := List.getElem_mem _
          obtain ⟨p, hp⟩ : ∃ p, ps[k]'(by omega) = p := ⟨_, rfl⟩
          rw [hp] at hpm
          obtain ⟨hpc, hpn⟩ := hpb p hpm
          ((conv => whnf); repeat (any_goals (first | ((refine IdxA.part (hps.ext hx9c) hpl3 k rfl (by omega) ?_; rw [hp]; intro b0 o0 _ hc0); (conv => whnf)) | ((refine (openA_any p.l p.a p.n p.cap _ ((hps.each p hpm).row.ext hx9c) (hps.each p hpm).len (hps.each p hpm).cap hpc hpn).mono ?_; rintro _ Ha ⟨⟨aa, ca, rfl, hfa, hla⟩, hxa⟩; have hza := hxa.size); (conv => whnf)) | ((have := hxa; refine (ropenA_any p.l p.a p.n p.cap _ ((hps.each p hpm).row.ext (hx9c.trans hxa)) (hps.each p hpm).len (hps.each p hpm).cap hpc hpn).mono ?_; rintro _ Hb ⟨⟨ab, cb, rfl, hfb, hlb⟩, hxb⟩; have hzb := hxb.size); (conv => whnf)) | ((have := hxb; refine (hfiles_any _ _ aa ab _ _ ca cb Hb (hfa.ext hxb) hfb rfl rfl (by omega) (by omega)).mono ?_; rintro _ _ ⟨rfl, rfl⟩; rw [decide_eq_true rfl]); (conv => whnf)) | (refine Vc.stp ?_; intros; (conv => whnf)))))
          exact ⟨k + 1, ⟨rfl, trivial⟩, ⟨by omega, by (repeat (first | assumption | exact Vc.Ext.refl _ | ((with_reducible apply Vc.Ext.trans); (case k => assumption)) | ((with_reducible apply Vc.Ext.but); (case k => assumption); (case hb => omega))))⟩, by omega⟩
        · ((conv => whnf); repeat (any_goals (first | (refine Vc.stp ?_; intros; (conv => whnf)))))
          exact ⟨rfl, hx1.trans (hx19.trans hx9c)⟩
    | true =>
      ((conv => whnf); repeat (any_goals (first | ((refine (known13_any _).mono ?_; rintro _ H1 ⟨rfl, hx1⟩; have hz1 := hx1.size); (conv => whnf)) | ((refine (hlc _ (by (repeat (first | assumption | exact Vc.Ext.refl _ | ((with_reducible apply Vc.Ext.trans); (case k => assumption)) | ((with_reducible apply Vc.Ext.but); (case k => assumption); (case hb => omega)))))).mono ?_; rintro _ _ ⟨rfl, rfl⟩); (conv => whnf)) | ((refine (rpack_any L al nl cl _ (hrl.ext hx1) hnl (by omega) (fun f hf => by have := hall f hf; omega)).mono ?_; rintro _ H2 ⟨⟨a2, c2, rfl, ho2⟩, hx2⟩; have hz2 := hx2.size; obtain ⟨g, rfl, hgb⟩ := own_some ho2 (by omega); have hcm2 := own_max ho2; have hcl2 := ho2.cap_le; obtain ⟨N, hN⟩ : ∃ N, (packF L).length = N := ⟨_, rfl⟩; rw [hN] at ho2 hcl2 hpl hpp ⊢); (conv => whnf)) | ((refine (place_any at_ N (by omega) (by omega) _).mono ?_; rintro _ _ ⟨⟨i, rfl, hi⟩, rfl⟩); (conv => whnf)) | ((refine IdxA.at1 i rfl hi ?_); (conv => whnf)) | (((with_reducible apply SemH.load); (focus (rfl)); (focus ((exact Own.hcell ho2 (strV_get (by omega))))); (focus ((conv => whnf)))); (conv => whnf)) | (((with_reducible apply DoH.store_own); (focus ((exact ho2))); (focus (rfl)); (focus (rfl)); (focus (rfl)); (focus (omega)); (focus ((intro H3 hz3 ho3 hb3; have hx13 : Ext H1 H3 := hx2.but hb3 hgb; clear hx2 hb3 ho2; obtain ⟨Y, hY, ho3⟩ := set_own ho3; (conv => whnf))))); (conv => whnf)) | ((refine NextH.appB (y := raw) (m := nr) ho3 (Src.row (hrr.ext (hx1.trans hx13)) (by rw [strV_length]; omega) (strV_plain _)) (by omega) (by omega) (by omega) ⟨_, rfl, fun _ h => by cases h⟩ ?_; intro a5 c5 H5 ho5 hw5; have hx15 : Ext H1 H5 := hx13.wr ho3 (Nat.le_refl _) hw5; have hz5 := hx15.size); (conv => whnf)) | (((with_reducible apply SemH.lit0 [.int .u8 80, .int .u8 65, .int .u8 75, .int .u8 49]); (focus (rfl)); (focus (rfl)); (focus (rfl)); (focus (rfl)); (focus (rfl)); (focus (rfl)); (focus (rfl)); (focus ((have := ho5; intro H6 hz6 hb6 hx6; (conv => whnf))))); (conv => whnf)) | ((refine SemH.mark0 rfl rfl hb6 hx6 (Nat.le_refl _) ?_; intro H7 hz7 hb7 hx7; have ho7 : Own H7 H5.size 5 1 (some ⟨H5.size, 0, none⟩) 4 4 (strV [80, 65, 75, 49]) := own_lit hb7 (Nat.le_refl _) rfl (by decide); have hx17 : Ext H1 H7 := hx15.trans hx7); (conv => whnf)) | ((refine NextH.appB (y := raw) (m := nr) ho7 (Src.row (hrr.ext (hx1.trans hx17)) (by rw [strV_length]; omega) (strV_plain _)) (by decide) (by omega) (by omega) ⟨_, rfl, fun _ h => by cases h⟩ ?_; intro a8 c8 H8 ho8 hw8; have hx58 : Ext H5 H8 := hx7.wr ho7 (Nat.le_refl _) hw8; have hz8 := hx58.size); (conv => whnf)) | (refine Vc.stp ?_; intros; (conv => whnf)))))
      all_goals
        rename_i H9 hz9 hb9 hx9
        have hx19 : Ext H1 H9 := (hx15.trans hx58).trans hx9
        have ho8 := ho8.ext hx9
        have hps : Parts H9 (some ⟨H8.size, 0, none⟩) [⟨ar, nr, cr, raw⟩, ⟨a8, 4 + nr, c8, [80, 65, 75, 49] ++ raw⟩, ⟨a5, (N + nr), c5, (Y ++ raw)⟩] := by
          refine ⟨Blk.row hb9, fun p hp => ?_⟩
          simp only [List.mem_cons, List.not_mem_nil, or_false] at hp
          rcases hp with rfl | rfl | rfl
          · exact ⟨hnr, hcr, hrr.ext (hx1.trans hx19)⟩
          · exact ⟨by rw [List.length_append, hnr]; rfl, ho8.cap_le, ho8.row⟩
          · exact ⟨by rw [List.length_append, hnr, hY], ho5.cap_le, ho5.row.ext (hx58.trans hx9)⟩
        have hpb : ∀ p ∈ [(⟨ar, nr, cr, raw⟩ : Part), ⟨a8, 4 + nr, c8, [80, 65, 75, 49] ++ raw⟩, ⟨a5, (N + nr), c5, (Y ++ raw)⟩], p.cap ≤ maxLen ∧ p.n ≤ 1000000 := by
          intro p hp
          simp only [List.mem_cons, List.not_mem_nil, or_false] at hp
          rcases hp with rfl | rfl | rfl
          · exact ⟨hmr, by dsimp only; omega⟩
          · exact ⟨own_max ho8, by dsimp only; omega⟩
          · exact ⟨own_max ho5, by dsimp only; omega⟩
        obtain ⟨ps, hpse⟩ : ∃ ps, [(⟨ar, nr, cr, raw⟩ : Part), ⟨a8, 4 + nr, c8, [80, 65, 75, 49] ++ raw⟩, ⟨a5, (N + nr), c5, (Y ++ raw)⟩] = ps := ⟨_, rfl⟩
        rw [hpse] at hps hpb
        have hpl3 : ps.length = 3 := by rw [← hpse]; rfl
        refine LoopH.intro (fun (k : Nat) => [(60, .int .i64 k)]) (fun k H' => k ≤ 3 ∧ Ext H9 H') (fun k => 3 - k) 0 ⟨rfl, trivial⟩ ⟨Nat.zero_le _, Ext.refl _⟩ ?_
        rintro k Hc ⟨hk3, hx9c⟩
        have hzc := hx9c.size
        by_cases hk : k < 3
        · have hpm : ps[k]'(by omega) ∈ ps := List.getElem_mem _
          obtain ⟨p, hp⟩ : ∃ p, ps[k]'(by omega) = p := ⟨_, rfl⟩
          rw [hp] at hpm
          obtain ⟨hpc, hpn⟩ := hpb p hpm
          ((conv => whnf); repeat (any_goals (first | ((refine IdxA.part (hps.ext hx9c) hpl3 k rfl (by omega) ?_; rw [hp]; intro b0 o0 _ hc0); (conv => whnf)) | ((refine (openA_any p.l p.a p.n p.cap _ ((hps.each p hpm).row.ext hx9c) (hps.each p hpm).len (hps.each p hpm).cap hpc hpn).mono ?_; rintro _ Ha ⟨⟨aa, ca, rfl, hfa, hla⟩, hxa⟩; have hza := hxa.size); (conv => whnf)) | ((have := hxa; refine (ropenA_any p.l p.a p.n p.cap _ ((hps.each p hpm).row.ext (hx9c.trans hxa)) (hps.each p hpm).len (hps.each p hpm).cap hpc hpn).mono ?_; rintro _ Hb ⟨⟨ab, cb, rfl, hfb, hlb⟩, hxb⟩; have hzb := hxb.size); (conv => whnf)) | ((have := hxb; refine (hfiles_any _ _ aa ab _ _ ca cb Hb (hfa.ext hxb) hfb rfl rfl (by omega) (by omega)).mono ?_; rintro _ _ ⟨rfl, rfl⟩; rw [decide_eq_true rfl]); (conv => whnf)) | (refine Vc.stp ?_; intros; (conv => whnf)))))
          exact ⟨k + 1, ⟨rfl, trivial⟩, ⟨by omega, by (repeat (first | assumption | exact Vc.Ext.refl _ | ((with_reducible apply Vc.Ext.trans); (case k => assumption)) | ((with_reducible apply Vc.Ext.but); (case k => assumption); (case hb => omega))))⟩, by omega⟩
        · ((conv => whnf); repeat (any_goals (first | (refine Vc.stp ?_; intros; (conv => whnf)))))
          exact ⟨rfl, hx1.trans (hx19.trans hx9c)⟩
  | true =>
    cases more with
    | false =>
      ((conv => whnf); repeat (any_goals (first | ((refine (known13_any _).mono ?_; rintro _ H1 ⟨rfl, hx1⟩; have hz1 := hx1.size); (conv => whnf)) | ((refine (hlc _ (by (repeat (first | assumption | exact Vc.Ext.refl _ | ((with_reducible apply Vc.Ext.trans); (case k => assumption)) | ((with_reducible apply Vc.Ext.but); (case k => assumption); (case hb => omega)))))).mono ?_; rintro _ _ ⟨rfl, rfl⟩); (conv => whnf)) | ((refine (rpack_any L al nl cl _ (hrl.ext hx1) hnl (by omega) (fun f hf => by have := hall f hf; omega)).mono ?_; rintro _ H2 ⟨⟨a2, c2, rfl, ho2⟩, hx2⟩; have hz2 := hx2.size; obtain ⟨g, rfl, hgb⟩ := own_some ho2 (by omega); have hcm2 := own_max ho2; have hcl2 := ho2.cap_le; obtain ⟨N, hN⟩ : ∃ N, (packF L).length = N := ⟨_, rfl⟩; rw [hN] at ho2 hcl2 hpl hpp ⊢); (conv => whnf)) | ((refine (place_any at_ N (by omega) (by omega) _).mono ?_; rintro _ _ ⟨⟨i, rfl, hi⟩, rfl⟩); (conv => whnf)) | ((refine IdxA.at1 i rfl hi ?_); (conv => whnf)) | (((with_reducible apply SemH.load); (focus (rfl)); (focus ((exact Own.hcell ho2 (strV_get (by omega))))); (focus ((conv => whnf)))); (conv => whnf)) | (((with_reducible apply DoH.store_own); (focus ((exact ho2))); (focus (rfl)); (focus (rfl)); (focus (rfl)); (focus (omega)); (focus ((intro H3 hz3 ho3 hb3; have hx13 : Ext H1 H3 := hx2.but hb3 hgb; clear hx2 hb3 ho2; obtain ⟨Y, hY, ho3⟩ := set_own ho3; (conv => whnf))))); (conv => whnf)) | ((have := ho3; refine BndH.nat i rfl (by omega) ?_; have ⟨Z, hZ, ho4⟩ := own_take ho3 (Nat.le_of_lt hi) hY); (conv => whnf)) | (((with_reducible apply SemH.lit0 [.int .u8 80, .int .u8 65, .int .u8 75, .int .u8 49]); (focus (rfl)); (focus (rfl)); (focus (rfl)); (focus (rfl)); (focus (rfl)); (focus (rfl)); (focus (rfl)); (focus ((have := ho4; intro H6 hz6 hb6 hx6; (conv => whnf))))); (conv => whnf)) | ((refine SemH.mark0 rfl rfl hb6 hx6 (Nat.le_refl _) ?_; intro H7 hz7 hb7 hx7; have ho7 : Own H7 H3.size 5 1 (some ⟨H3.size, 0, none⟩) 4 4 (strV [80, 65, 75, 49]) := own_lit hb7 (Nat.le_refl _) rfl (by decide); have hx17 : Ext H1 H7 := hx13.trans hx7); (conv => whnf)) | ((refine NextH.appB (y := raw) (m := nr) ho7 (Src.row (hrr.ext (hx1.trans hx17)) (by rw [strV_length]; omega) (strV_plain _)) (by decide) (by omega) (by omega) ⟨_, rfl, fun _ h => by cases h⟩ ?_; intro a8 c8 H8 ho8 hw8; have hx58 : Ext H3 H8 := hx7.wr ho7 (Nat.le_refl _) hw8; have hz8 := hx58.size); (conv => whnf)) | (refine Vc.stp ?_; intros; (conv => whnf)))))
      all_goals
        rename_i H9 hz9 hb9 hx9
        have hx19 : Ext H1 H9 := (hx13.trans hx58).trans hx9
        have ho8 := ho8.ext hx9
        have hps : Parts H9 (some ⟨H8.size, 0, none⟩) [⟨ar, nr, cr, raw⟩, ⟨a8, 4 + nr, c8, [80, 65, 75, 49] ++ raw⟩, ⟨some ⟨g, 0, none⟩, i, c2, Z⟩] := by
          refine ⟨Blk.row hb9, fun p hp => ?_⟩
          simp only [List.mem_cons, List.not_mem_nil, or_false] at hp
          rcases hp with rfl | rfl | rfl
          · exact ⟨hnr, hcr, hrr.ext (hx1.trans hx19)⟩
          · exact ⟨by rw [List.length_append, hnr]; rfl, ho8.cap_le, ho8.row⟩
          · exact ⟨hZ, ho4.cap_le, ho4.row.ext (hx58.trans hx9)⟩
        have hpb : ∀ p ∈ [(⟨ar, nr, cr, raw⟩ : Part), ⟨a8, 4 + nr, c8, [80, 65, 75, 49] ++ raw⟩, ⟨some ⟨g, 0, none⟩, i, c2, Z⟩], p.cap ≤ maxLen ∧ p.n ≤ 1000000 := by
          intro p hp
          simp only [List.mem_cons, List.not_mem_nil, or_false] at hp
          rcases hp with rfl | rfl | rfl
          · exact ⟨hmr, by dsimp only; omega⟩
          · exact ⟨own_max ho8, by dsimp only; omega⟩
          · exact ⟨own_max ho4, by dsimp only; omega⟩
        obtain ⟨ps, hpse⟩ : ∃ ps, [(⟨ar, nr, cr, raw⟩ : Part), ⟨a8, 4 + nr, c8, [80, 65, 75, 49] ++ raw⟩, ⟨some ⟨g, 0, none⟩, i, c2, Z⟩] = ps := ⟨_, rfl⟩
        rw [hpse] at hps hpb
        have hpl3 : ps.length = 3 := by rw [← hpse]; rfl
        refine LoopH.intro (fun (k : Nat) => [(60, .int .i64 k)]) (fun k H' => k ≤ 3 ∧ Ext H9 H') (fun k => 3 - k) 0 ⟨rfl, trivial⟩ ⟨Nat.zero_le _, Ext.refl _⟩ ?_
        rintro k Hc ⟨hk3, hx9c⟩
        have hzc := hx9c.size
        by_cases hk : k < 3
        · have hpm : ps[k]'(by omega) ∈ ps := List.getElem_mem _
          obtain ⟨p, hp⟩ : ∃ p, ps[k]'(by omega) = p := ⟨_, rfl⟩
          rw [hp] at hpm
          obtain ⟨hpc, hpn⟩ := hpb p hpm
          ((conv => whnf); repeat (any_goals (first | ((refine IdxA.part (hps.ext hx9c) hpl3 k rfl (by omega) ?_; rw [hp]; intro b0 o0 _ hc0); (conv => whnf)) | ((refine (openA_any p.l p.a p.n p.cap _ ((hps.each p hpm).row.ext hx9c) (hps.each p hpm).len (hps.each p hpm).cap hpc hpn).mono ?_; rintro _ Ha ⟨⟨aa, ca, rfl, hfa, hla⟩, hxa⟩; have hza := hxa.size); (conv => whnf)) | ((have := hxa; refine (ropenA_any p.l p.a p.n p.cap _ ((hps.each p hpm).row.ext (hx9c.trans hxa)) (hps.each p hpm).len (hps.each p hpm).cap hpc hpn).mono ?_; rintro _ Hb ⟨⟨ab, cb, rfl, hfb, hlb⟩, hxb⟩; have hzb := hxb.size); (conv => whnf)) | ((have := hxb; refine (hfiles_any _ _ aa ab _ _ ca cb Hb (hfa.ext hxb) hfb rfl rfl (by omega) (by omega)).mono ?_; rintro _ _ ⟨rfl, rfl⟩; rw [decide_eq_true rfl]); (conv => whnf)) | (refine Vc.stp ?_; intros; (conv => whnf)))))
          exact ⟨k + 1, ⟨rfl, trivial⟩, ⟨by omega, by (repeat (first | assumption | exact Vc.Ext.refl _ | ((with_reducible apply Vc.Ext.trans); (case k => assumption)) | ((with_reducible apply Vc.Ext.but); (case k => assumption); (case hb => omega))))⟩, by omega⟩
        · ((conv => whnf); repeat (any_goals (first | (refine Vc.stp ?_; intros; (conv => whnf)))))
          exact ⟨rfl, hx1.trans (hx19.trans hx9c)⟩
    | true =>
      ((conv => whnf); repeat (any_goals (first | ((refine (known13_any _).mono ?_; rintro _ H1 ⟨rfl, hx1⟩; have hz1 := hx1.size); (conv => whnf)) | ((refine (hlc _ (by (repeat (first | assumption | exact Vc.Ext.refl _ | ((with_reducible apply Vc.Ext.trans); (case k => assumption)) | ((with_reducible apply Vc.Ext.but); (case k => assumption); (case hb => omega)))))).mono ?_; rintro _ _ ⟨rfl, rfl⟩); (conv => whnf)) | ((refine (rpack_any L al nl cl _ (hrl.ext hx1) hnl (by omega) (fun f hf => by have := hall f hf; omega)).mono ?_; rintro _ H2 ⟨⟨a2, c2, rfl, ho2⟩, hx2⟩; have hz2 := hx2.size; obtain ⟨g, rfl, hgb⟩ := own_some ho2 (by omega); have hcm2 := own_max ho2; have hcl2 := ho2.cap_le; obtain ⟨N, hN⟩ : ∃ N, (packF L).length = N := ⟨_, rfl⟩; rw [hN] at ho2 hcl2 hpl hpp ⊢); (conv => whnf)) | ((refine (place_any at_ N (by omega) (by omega) _).mono ?_; rintro _ _ ⟨⟨i, rfl, hi⟩, rfl⟩); (conv => whnf)) | ((refine IdxA.at1 i rfl hi ?_); (conv => whnf)) | (((with_reducible apply SemH.load); (focus (rfl)); (focus ((exact Own.hcell ho2 (strV_get (by omega))))); (focus ((conv => whnf)))); (conv => whnf)) | (((with_reducible apply DoH.store_own); (focus ((exact ho2))); (focus (rfl)); (focus (rfl)); (focus (rfl)); (focus (omega)); (focus ((intro H3 hz3 ho3 hb3; have hx13 : Ext H1 H3 := hx2.but hb3 hgb; clear hx2 hb3 ho2; obtain ⟨Y, hY, ho3⟩ := set_own ho3; (conv => whnf))))); (conv => whnf)) | ((have := ho3; refine BndH.nat i rfl (by omega) ?_; have ⟨Z, hZ, ho4⟩ := own_take ho3 (Nat.le_of_lt hi) hY); (conv => whnf)) | ((refine NextH.appB (y := raw) (m := nr) ho4 (Src.row (hrr.ext (hx1.trans hx13)) (by rw [strV_length]; omega) (strV_plain _)) (by omega) (by omega) (by omega) ⟨_, rfl, fun _ h => by cases h⟩ ?_; intro a5 c5 H5 ho5 hw5; have hx15 : Ext H1 H5 := hx13.wr ho4 (Nat.le_refl _) hw5; have hz5 := hx15.size); (conv => whnf)) | (((with_reducible apply SemH.lit0 [.int .u8 80, .int .u8 65, .int .u8 75, .int .u8 49]); (focus (rfl)); (focus (rfl)); (focus (rfl)); (focus (rfl)); (focus (rfl)); (focus (rfl)); (focus (rfl)); (focus ((have := ho5; intro H6 hz6 hb6 hx6; (conv => whnf))))); (conv => whnf)) | ((refine SemH.mark0 rfl rfl hb6 hx6 (Nat.le_refl _) ?_; intro H7 hz7 hb7 hx7; have ho7 : Own H7 H5.size 5 1 (some ⟨H5.size, 0, none⟩) 4 4 (strV [80, 65, 75, 49]) := own_lit hb7 (Nat.le_refl _) rfl (by decide); have hx17 : Ext H1 H7 := hx15.trans hx7); (conv => whnf)) | ((refine NextH.appB (y := raw) (m := nr) ho7 (Src.row (hrr.ext (hx1.trans hx17)) (by rw [strV_length]; omega) (strV_plain _)) (by decide) (by omega) (by omega) ⟨_, rfl, fun _ h => by cases h⟩ ?_; intro a8 c8 H8 ho8 hw8; have hx58 : Ext H5 H8 := hx7.wr ho7 (Nat.le_refl _) hw8; have hz8 := hx58.size); (conv => whnf)) | (refine Vc.stp ?_; intros; (conv => whnf)))))
      all_goals
        rename_i H9 hz9 hb9 hx9
        have hx19 : Ext H1 H9 := (hx15.trans hx58).trans hx9
        have ho8 := ho8.ext hx9
        have hps : Parts H9 (some ⟨H8.size, 0, none⟩) [⟨ar, nr, cr, raw⟩, ⟨a8, 4 + nr, c8, [80, 65, 75, 49] ++ raw⟩, ⟨a5, (i + nr), c5, (Z ++ raw)⟩] := by
          refine ⟨Blk.row hb9, fun p hp => ?_⟩
          simp only [List.mem_cons, List.not_mem_nil, or_false] at hp
          rcases hp with rfl | rfl | rfl
          · exact ⟨hnr, hcr, hrr.ext (hx1.trans hx19)⟩
          · exact ⟨by rw [List.length_append, hnr]; rfl, ho8.cap_le, ho8.row⟩
          · exact ⟨by rw [List.length_append, hnr, hZ], ho5.cap_le, ho5.row.ext (hx58.trans hx9)⟩
        have hpb : ∀ p ∈ [(⟨ar, nr, cr, raw⟩ : Part), ⟨a8, 4 + nr, c8, [80, 65, 75, 49] ++ raw⟩, ⟨a5, (i + nr), c5, (Z ++ raw)⟩], p.cap ≤ maxLen ∧ p.n ≤ 1000000 := by
          intro p hp
          simp only [List.mem_cons, List.not_mem_nil, or_false] at hp
          rcases hp with rfl | rfl | rfl
          · exact ⟨hmr, by dsimp only; omega⟩
          · exact ⟨own_max ho8, by dsimp only; omega⟩
          · exact ⟨own_max ho5, by dsimp only; omega⟩
        obtain ⟨ps, hpse⟩ : ∃ ps, [(⟨ar, nr, cr, raw⟩ : Part), ⟨a8, 4 + nr, c8, [80, 65, 75, 49] ++ raw⟩, ⟨a5, (i + nr), c5, (Z ++ raw)⟩] = ps := ⟨_, rfl⟩
        rw [hpse] at hps hpb
        have hpl3 : ps.length = 3 := by rw [← hpse]; rfl
        refine LoopH.intro (fun (k : Nat) => [(60, .int .i64 k)]) (fun k H' => k ≤ 3 ∧ Ext H9 H') (fun k => 3 - k) 0 ⟨rfl, trivial⟩ ⟨Nat.zero_le _, Ext.refl _⟩ ?_
        rintro k Hc ⟨hk3, hx9c⟩
        have hzc := hx9c.size
        by_cases hk : k < 3
        · have hpm : ps[k]'(by omega) ∈ ps := List.getElem_mem _
          obtain ⟨p, hp⟩ : ∃ p, ps[k]'(by omega) = p := ⟨_, rfl⟩
          rw [hp] at hpm
          obtain ⟨hpc, hpn⟩ := hpb p hpm
          ((conv => whnf); repeat (any_goals (first | ((refine IdxA.part (hps.ext hx9c) hpl3 k rfl (by omega) ?_; rw [hp]; intro b0 o0 _ hc0); (conv => whnf)) | ((refine (openA_any p.l p.a p.n p.cap _ ((hps.each p hpm).row.ext hx9c) (hps.each p hpm).len (hps.each p hpm).cap hpc hpn).mono ?_; rintro _ Ha ⟨⟨aa, ca, rfl, hfa, hla⟩, hxa⟩; have hza := hxa.size); (conv => whnf)) | ((have := hxa; refine (ropenA_any p.l p.a p.n p.cap _ ((hps.each p hpm).row.ext (hx9c.trans hxa)) (hps.each p hpm).len (hps.each p hpm).cap hpc hpn).mono ?_; rintro _ Hb ⟨⟨ab, cb, rfl, hfb, hlb⟩, hxb⟩; have hzb := hxb.size); (conv => whnf)) | ((have := hxb; refine (hfiles_any _ _ aa ab _ _ ca cb Hb (hfa.ext hxb) hfb rfl rfl (by omega) (by omega)).mono ?_; rintro _ _ ⟨rfl, rfl⟩; rw [decide_eq_true rfl]); (conv => whnf)) | (refine Vc.stp ?_; intros; (conv => whnf)))))
          exact ⟨k + 1, ⟨rfl, trivial⟩, ⟨by omega, by (repeat (first | assumption | exact Vc.Ext.refl _ | ((with_reducible apply Vc.Ext.trans); (case k => assumption)) | ((with_reducible apply Vc.Ext.but); (case k => assumption); (case hb => omega))))⟩, by omega⟩
        · ((conv => whnf); repeat (any_goals (first | (refine Vc.stp ?_; intros; (conv => whnf)))))
          exact ⟨rfl, hx1.trans (hx19.trans hx9c)⟩
end Go.Proofs.YtihopeogaeinhaaGreatDoor
