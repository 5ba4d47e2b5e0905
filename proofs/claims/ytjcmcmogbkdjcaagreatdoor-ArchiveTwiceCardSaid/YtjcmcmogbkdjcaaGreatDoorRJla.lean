import Derived.Test.YtjcmcmogbkdjcaaGreatDoorKm
import Derived.Test.YtjcmcmogbkdjcaaGreatDoorKf
set_option linter.unusedVariables false
set_option linter.unusedSimpArgs false
set_option maxRecDepth 100000
/- Law 13: ArchiveTwice, the walk. -/
namespace Go.Proofs.YtjcmcmogbkdjcaaGreatDoor
open Go Go.Vc Go.Scr Go.Pth Go.Tre Go.Arc Go.Sha
/-- what stands behind is held as a name, so that the kernel does not look into it -/
theorem genOps {P : Program} {ops : List Oper} {X : Panics} {i : Nat} {l : List Oper} {env : Env} {H : Heap} {k : Env → Heap → Prop} (h : ∀ (X' : Panics) (k' : Env → Heap → Prop), X' = X → k' = k → vcOps P ops X' i l env H k') : vcOps P ops X i l env H k := h X k rfl rfl
theorem IdxA.zero {g o n k : Nat} {K : Addr → Prop} (hn : 0 < n) (hk : K ⟨g, o, none⟩) : IdxA (some ⟨g, o, none⟩) n k 0 K := ⟨by omega, by omega, _, rfl, by rw [addk]; simpa using hk⟩
theorem two_flat (s t : Value) (d o : Bool) : (List.flatMap (fun v => v.cells.toList) [Value.agg #[s, .bool d, .slice none 0 0], Value.agg #[t, .bool o, .slice none 0 0]]).toArray = #[s, .bool d, .slice none 0 0, t, .bool o, .slice none 0 0] := rfl
theorem two_set (s t v : Value) (d o : Bool) : (#[s, .bool d, .slice none 0 0, t, .bool o, .slice none 0 0] : Array Value).setIfInBounds (0 + 2) v = [s, .bool d, v, t, .bool o, .slice none 0 0].toArray := rfl
theorem pack_two (p q : Bs) (d o : Bool) (B : Bs) (hp : p.length ≤ 200) (hq : q.length ≤ 200) (hB : B.length ≤ 10) : (packF [(p, d, B), (q, o, [])]).length ≤ 17000 := pack_light _ ((light_iff _).2 ⟨by simp, fun f hf => by
  rcases List.mem_cons.1 hf with rfl | hf
  · exact ⟨by dsimp only; omega, by dsimp only; omega⟩
  · rw [List.mem_singleton.1 hf]; exact ⟨by dsimp only; omega, by simp⟩⟩)
set_option maxHeartbeats 2000000 in
theorem twice_walk (p q : Bs) (dir other : Bool) (H : Heap) :
    CallH Tryz.prog 3 [.string (mkS p), .string (mkS q), .bool dir, .bool other] H fun v H' => v = .bool true ∧ Ext H H' := by
  have hsp : (mkS p).size = p.length := rfl
  have hsq : (mkS q).size = q.length := rfl
  refine Vc.CallH.body Tryz.func3 Tryz.call3 rfl (by decide +kernel) rfl ?_
  by_cases hp : p.length ≤ 200
  rotate_left
  · ((conv => whnf); repeat (any_goals (first | ((refine (known13_any _).mono ?_; rintro _ H1 ⟨rfl, hx1⟩; have hz1 := hx1.size); (conv => whnf)) | (refine Vc.stp ?_; intros; (conv => whnf)) | (refine Vc.spl ?_ ?_ <;> (intro _; (conv => whnf))))))
    exact ⟨rfl, hx1⟩
  by_cases hq : q.length ≤ 200
  rotate_left
  · ((conv => whnf); repeat (any_goals (first | ((refine (known13_any _).mono ?_; rintro _ H1 ⟨rfl, hx1⟩; have hz1 := hx1.size); (conv => whnf)) | (refine Vc.stp ?_; intros; (conv => whnf)) | (refine Vc.spl ?_ ?_ <;> (intro _; (conv => whnf))))))
    exact ⟨rfl, hx1⟩
  cases dir with
  | true =>
    ((conv => whnf); repeat (any_goals (first | ((refine (known13_any _).mono ?_; rintro _ H1 ⟨rfl, hx1⟩; have hz1 := hx1.size); (conv => whnf)) | (((with_reducible apply afileB1); (focus ((conv => whnf)))); (conv => whnf)) | (refine Vc.stp ?_; intros; (conv => whnf)))))
    rename_i H2 hz2 hb2 hx2
    have hrf : RowF H2 (some ⟨H1.size, 0, none⟩) [(p, true, []), (q, other, [])] := ⟨_, Blk.row (c := fileC (p, true, []) none 0 ++ (fileC (q, other, []) none 0 ++ [])) hb2, FilesV.cons (Row.nil _ _) (FilesV.cons (Row.nil _ _) .nil)⟩
    have hx02 : Ext H H2 := hx1.trans hx2
    have hz02 := hx02.size
    clear hx1 hx2 hb2
    have hpl := pack_two p q true other [] hp hq (by decide)
    obtain ⟨L, hL⟩ : ∃ L : Tr, [(p, true, []), (q, other, [])] = L := ⟨_, rfl⟩
    rw [hL] at hrf hpl
    have h64 : (cleanF p).2 = 0 → (cleanF q).2 = 0 → (cleanF p).1 = (cleanF q).1 → openF (packF L) = ([], 64) := fun e1 e2 e3 => by
      rw [← hL]
      exact open_twice (p, true, []) (q, other, []) hp (by simp) hq (by simp) e1 e2 e3
    have hcp := fun H => rclean_any p (by omega) H
    have hcq := fun H => rclean_any q (by omega) H
    obtain ⟨P, hP⟩ : ∃ P, cleanF p = P := ⟨_, rfl⟩
    obtain ⟨Q, hQ⟩ : ∃ Q, cleanF q = Q := ⟨_, rfl⟩
    rw [hP, hQ] at h64
    rw [hP] at hcp
    rw [hQ] at hcq
    obtain ⟨O, hO⟩ : ∃ O, openF (packF L) = O := ⟨_, rfl⟩
    rw [hO] at h64
    have hOp := fun H a cap (hr : Row H a (strV (packF L))) hc hm => openA_any (packF L) a _ cap H hr rfl hc hm (by omega)
    have hRp := fun H a cap (hr : Row H a (strV (packF L))) hc hm => ropenA_any (packF L) a _ cap H hr rfl hc hm (by omega)
    unfold OpV at hOp hRp
    rw [hO] at hOp hRp
    have hPk := fun H a n cap (hr : RowF H a L) (hn : L.length = n) => rpack_any L a n cap H hr hn (by rw [← hn, ← hL]; show 2 ≤ 600; decide) (by rw [← hL]; intro f hf; rcases List.mem_cons.1 hf with rfl | hf; (show _ ≤ 1000000; simp); rw [List.mem_singleton.1 hf]; exact Nat.zero_le _)
    obtain ⟨D, hD⟩ : ∃ D, packF L = D := ⟨_, rfl⟩
    rw [hD] at hOp hRp hPk hpl
    have hL2 : L.length = 2 := by rw [← hL]; rfl
    clear hO hD hP hQ hL
    by_cases c1 : P.2 = 0
    rotate_left
    · ((conv => whnf); repeat (any_goals (first | ((have := hxh; refine (hfiles_any _ _ ae ag _ _ ce cg _ (hfe.ext (by (repeat (first | assumption | exact Vc.Ext.refl _ | ((with_reducible apply Vc.Ext.trans); (case k => assumption)) | ((with_reducible apply Vc.Ext.but); (case k => assumption); (case hb => omega)))))) (hfg.ext (by (repeat (first | assumption | exact Vc.Ext.refl _ | ((with_reducible apply Vc.Ext.trans); (case k => assumption)) | ((with_reducible apply Vc.Ext.but); (case k => assumption); (case hb => omega)))))) rfl rfl (by omega) (by omega)).mono ?_; rintro _ _ ⟨rfl, rfl⟩; rw [decide_eq_true rfl]); (conv => whnf)) | ((have := hxg; refine (hcp _).mono ?_; rintro _ Hh ⟨rfl, hxh⟩; have hzh := hxh.size); (conv => whnf)) | ((have := hxh; refine (hcq _).mono ?_; rintro _ Hi ⟨rfl, hxi⟩; have hzi := hxi.size); (conv => whnf)) | ((have := hxf; refine (hRp _ af cf hof.row hof.cap_le (own_max hof)).mono ?_; rintro _ Hg ⟨⟨ag, cg, rfl, hfg, hlg⟩, hxg⟩; have hzg := hxg.size); (conv => whnf)) | ((have := hxe; refine (hPk _ _ _ _ (hrf.ext (by (repeat (first | assumption | exact Vc.Ext.refl _ | ((with_reducible apply Vc.Ext.trans); (case k => assumption)) | ((with_reducible apply Vc.Ext.but); (case k => assumption); (case hb => omega)))))) hL2).mono ?_; rintro _ Hf ⟨⟨af, cf, rfl, hof⟩, hxf⟩; have hzf := hxf.size); (conv => whnf)) | ((have := hxd; refine (hOp _ ad cd hod.row hod.cap_le (own_max hod)).mono ?_; rintro _ He ⟨⟨ae, ce, rfl, hfe, hle⟩, hxe⟩; have hze := hxe.size); (conv => whnf)) | ((refine (hPk _ _ _ _ hrf hL2).mono ?_; rintro _ Hd ⟨⟨ad, cd, rfl, hod⟩, hxd⟩; have hzd := hxd.size); (conv => whnf)) | (refine Vc.stp ?_; intros; (conv => whnf)))))
      exact ⟨rfl, by (repeat (first | assumption | exact Vc.Ext.refl _ | ((with_reducible apply Vc.Ext.trans); (case k => assumption)) | ((with_reducible apply Vc.Ext.but); (case k => assumption); (case hb => omega))))⟩
    by_cases c2 : Q.2 = 0
    rotate_left
    · ((conv => whnf); repeat (any_goals (first | ((have := hxh; refine (hfiles_any _ _ ae ag _ _ ce cg _ (hfe.ext (by (repeat (first | assumption | exact Vc.Ext.refl _ | ((with_reducible apply Vc.Ext.trans); (case k => assumption)) | ((with_reducible apply Vc.Ext.but); (case k => assumption); (case hb => omega)))))) (hfg.ext (by (repeat (first | assumption | exact Vc.Ext.refl _ | ((with_reducible apply Vc.Ext.trans); (case k => assumption)) | ((with_reducible apply Vc.Ext.but); (case k => assumption); (case hb => omega)))))) rfl rfl (by omega) (by omega)).mono ?_; rintro _ _ ⟨rfl, rfl⟩; rw [decide_eq_true rfl]); (conv => whnf)) | ((have := hxg; refine (hcp _).mono ?_; rintro _ Hh ⟨rfl, hxh⟩; have hzh := hxh.size); (conv => whnf)) | ((have := hxh; refine (hcq _).mono ?_; rintro _ Hi ⟨rfl, hxi⟩; have hzi := hxi.size); (conv => whnf)) | ((have := hxf; refine (hRp _ af cf hof.row hof.cap_le (own_max hof)).mono ?_; rintro _ Hg ⟨⟨ag, cg, rfl, hfg, hlg⟩, hxg⟩; have hzg := hxg.size); (conv => whnf)) | ((have := hxe; refine (hPk _ _ _ _ (hrf.ext (by (repeat (first | assumption | exact Vc.Ext.refl _ | ((with_reducible apply Vc.Ext.trans); (case k => assumption)) | ((with_reducible apply Vc.Ext.but); (case k => assumption); (case hb => omega)))))) hL2).mono ?_; rintro _ Hf ⟨⟨af, cf, rfl, hof⟩, hxf⟩; have hzf := hxf.size); (conv => whnf)) | ((have := hxd; refine (hOp _ ad cd hod.row hod.cap_le (own_max hod)).mono ?_; rintro _ He ⟨⟨ae, ce, rfl, hfe, hle⟩, hxe⟩; have hze := hxe.size); (conv => whnf)) | ((refine (hPk _ _ _ _ hrf hL2).mono ?_; rintro _ Hd ⟨⟨ad, cd, rfl, hod⟩, hxd⟩; have hzd := hxd.size); (conv => whnf)) | (refine Vc.stp ?_; intros; (conv => whnf)))))
      exact ⟨rfl, by (repeat (first | assumption | exact Vc.Ext.refl _ | ((with_reducible apply Vc.Ext.trans); (case k => assumption)) | ((with_reducible apply Vc.Ext.but); (case k => assumption); (case hb => omega))))⟩
    have e3 := str_mk P.1 Q.1
    by_cases c3 : P.1 = Q.1
    · rw [decide_eq_true c3] at e3
      have h64 := h64 c1 c2 c3
      have h64' : ((O.2 : Int) == 64) = true := by rw [h64]; decide
      ((conv => whnf); repeat (any_goals (first | ((have := hxh; refine (hfiles_any _ _ ae ag _ _ ce cg _ (hfe.ext (by (repeat (first | assumption | exact Vc.Ext.refl _ | ((with_reducible apply Vc.Ext.trans); (case k => assumption)) | ((with_reducible apply Vc.Ext.but); (case k => assumption); (case hb => omega)))))) (hfg.ext (by (repeat (first | assumption | exact Vc.Ext.refl _ | ((with_reducible apply Vc.Ext.trans); (case k => assumption)) | ((with_reducible apply Vc.Ext.but); (case k => assumption); (case hb => omega)))))) rfl rfl (by omega) (by omega)).mono ?_; rintro _ _ ⟨rfl, rfl⟩; rw [decide_eq_true rfl]); (conv => whnf)) | ((have := hxg; refine (hcp _).mono ?_; rintro _ Hh ⟨rfl, hxh⟩; have hzh := hxh.size); (conv => whnf)) | ((have := hxh; refine (hcq _).mono ?_; rintro _ Hi ⟨rfl, hxi⟩; have hzi := hxi.size); (conv => whnf)) | ((have := hxf; refine (hRp _ af cf hof.row hof.cap_le (own_max hof)).mono ?_; rintro _ Hg ⟨⟨ag, cg, rfl, hfg, hlg⟩, hxg⟩; have hzg := hxg.size); (conv => whnf)) | ((have := hxe; refine (hPk _ _ _ _ (hrf.ext (by (repeat (first | assumption | exact Vc.Ext.refl _ | ((with_reducible apply Vc.Ext.trans); (case k => assumption)) | ((with_reducible apply Vc.Ext.but); (case k => assumption); (case hb => omega)))))) hL2).mono ?_; rintro _ Hf ⟨⟨af, cf, rfl, hof⟩, hxf⟩; have hzf := hxf.size); (conv => whnf)) | ((have := hxd; refine (hOp _ ad cd hod.row hod.cap_le (own_max hod)).mono ?_; rintro _ He ⟨⟨ae, ce, rfl, hfe, hle⟩, hxe⟩; have hze := hxe.size); (conv => whnf)) | ((refine (hPk _ _ _ _ hrf hL2).mono ?_; rintro _ Hd ⟨⟨ad, cd, rfl, hod⟩, hxd⟩; have hzd := hxd.size); (conv => whnf)) | (refine Vc.stp ?_; intros; (conv => whnf)))))
      exact ⟨by show Value.bool _ = _; rw [h64'], by (repeat (first | assumption | exact Vc.Ext.refl _ | ((with_reducible apply Vc.Ext.trans); (case k => assumption)) | ((with_reducible apply Vc.Ext.but); (case k => assumption); (case hb => omega))))⟩
    · rw [decide_eq_false c3] at e3
      ((conv => whnf); repeat (any_goals (first | ((have := hxh; refine (hfiles_any _ _ ae ag _ _ ce cg _ (hfe.ext (by (repeat (first | assumption | exact Vc.Ext.refl _ | ((with_reducible apply Vc.Ext.trans); (case k => assumption)) | ((with_reducible apply Vc.Ext.but); (case k => assumption); (case hb => omega)))))) (hfg.ext (by (repeat (first | assumption | exact Vc.Ext.refl _ | ((with_reducible apply Vc.Ext.trans); (case k => assumption)) | ((with_reducible apply Vc.Ext.but); (case k => assumption); (case hb => omega)))))) rfl rfl (by omega) (by omega)).mono ?_; rintro _ _ ⟨rfl, rfl⟩; rw [decide_eq_true rfl]); (conv => whnf)) | ((have := hxg; refine (hcp _).mono ?_; rintro _ Hh ⟨rfl, hxh⟩; have hzh := hxh.size); (conv => whnf)) | ((have := hxh; refine (hcq _).mono ?_; rintro _ Hi ⟨rfl, hxi⟩; have hzi := hxi.size); (conv => whnf)) | ((have := hxf; refine (hRp _ af cf hof.row hof.cap_le (own_max hof)).mono ?_; rintro _ Hg ⟨⟨ag, cg, rfl, hfg, hlg⟩, hxg⟩; have hzg := hxg.size); (conv => whnf)) | ((have := hxe; refine (hPk _ _ _ _ (hrf.ext (by (repeat (first | assumption | exact Vc.Ext.refl _ | ((with_reducible apply Vc.Ext.trans); (case k => assumption)) | ((with_reducible apply Vc.Ext.but); (case k => assumption); (case hb => omega)))))) hL2).mono ?_; rintro _ Hf ⟨⟨af, cf, rfl, hof⟩, hxf⟩; have hzf := hxf.size); (conv => whnf)) | ((have := hxd; refine (hOp _ ad cd hod.row hod.cap_le (own_max hod)).mono ?_; rintro _ He ⟨⟨ae, ce, rfl, hfe, hle⟩, hxe⟩; have hze := hxe.size); (conv => whnf)) | ((refine (hPk _ _ _ _ hrf hL2).mono ?_; rintro _ Hd ⟨⟨ad, cd, rfl, hod⟩, hxd⟩; have hzd := hxd.size); (conv => whnf)) | (refine Vc.stp ?_; intros; (conv => whnf)))))
      exact ⟨rfl, by (repeat (first | assumption | exact Vc.Ext.refl _ | ((with_reducible apply Vc.Ext.trans); (case k => assumption)) | ((with_reducible apply Vc.Ext.but); (case k => assumption); (case hb => omega))))⟩
  | false =>
    ((conv => whnf); repeat (any_goals (first | ((refine (known13_any _).mono ?_; rintro _ H1 ⟨rfl, hx1⟩; have hz1 := hx1.size); (conv => whnf)) | (((with_reducible apply afileB1); (focus ((conv => whnf)))); (conv => whnf)) | (((with_reducible apply SemH.lit (vs := [_, _])); (focus (rfl)); (focus (rfl)); (focus (rfl)); (focus (rfl)); (focus (rfl)); (focus (rfl)); (focus (rfl)); (focus ((intro H2 hz2 hb2 hx2; rw [two_flat] at hb2; (conv => whnf))))); (conv => whnf)) | (((with_reducible apply DoH.store1); (focus ((exact Blk.ext hb2 hx4))); (focus (rfl)); (focus (rfl)); (focus (rfl)); (focus ((show 2 < 6; decide))); (focus ((intro H5 hz5 hb5 hk5; rw [two_set] at hb5; (conv => whnf))))); (conv => whnf)) | (((with_reducible apply SemH.lit0 [.int .u8 49]); (focus (rfl)); (focus (rfl)); (focus (rfl)); (focus (rfl)); (focus (rfl)); (focus (rfl)); (focus (rfl)); (focus ((intro H3 hz3 hb3 hx3; (conv => whnf))))); (conv => whnf)) | ((refine SemH.mark0 rfl rfl hb3 hx3 (Nat.le_refl _) ?_; intro H4 hz4 hb4 hx4; refine genOps fun X' k' hX' hk' => ?_); (conv => whnf)) | ((refine IdxA.zero (by decide) ?_); (conv => whnf)) | (refine Vc.stp ?_; intros; (conv => whnf)))))
    subst hX' hk'
    replace hb5 : Blk H5 H1.size (fileC (p, false, [49]) (some ⟨H2.size, 0, none⟩) 1 ++ (fileC (q, other, []) none 0 ++ [])).toArray 25 := hb5
    have hb45 : Blk H5 H2.size (strV [49]).toArray 5 := Blk.but (c := (strV [49]).toArray) hb4 hk5 (by omega)
    have hrf : RowF H5 (some ⟨H1.size, 0, none⟩) [(p, false, [49]), (q, other, [])] := ⟨_, Blk.row hb5, FilesV.cons (Blk.row hb45) (FilesV.cons (Row.nil _ _) .nil)⟩
    have hx02 : Ext H H5 := (hx1.trans (hx2.trans hx4)).but hk5 hz1
    have hz02 := hx02.size
    clear hx1 hx2 hx3 hx4 hk5 hb2 hb3 hb4 hb5 hb45
    have hpl := pack_two p q false other [49] hp hq (by decide)
    obtain ⟨L, hL⟩ : ∃ L : Tr, [(p, false, [49]), (q, other, [])] = L := ⟨_, rfl⟩
    rw [hL] at hrf hpl
    have h64 : (cleanF p).2 = 0 → (cleanF q).2 = 0 → (cleanF p).1 = (cleanF q).1 → openF (packF L) = ([], 64) := fun e1 e2 e3 => by
      rw [← hL]
      exact open_twice (p, false, [49]) (q, other, []) hp (by simp) hq (by simp) e1 e2 e3
    have hcp := fun H => rclean_any p (by omega) H
    have hcq := fun H => rclean_any q (by omega) H
    obtain ⟨P, hP⟩ : ∃ P, cleanF p = P := ⟨_, rfl⟩
    obtain ⟨Q, hQ⟩ : ∃ Q, cleanF q = Q := ⟨_, rfl⟩
    rw [hP, hQ] at h64
    rw [hP] at hcp
    rw [hQ] at hcq
    obtain ⟨O, hO⟩ : ∃ O, openF (packF L) = O := ⟨_, rfl⟩
    rw [hO] at h64
    have hOp := fun H a cap (hr : Row H a (strV (packF L))) hc hm => openA_any (packF L) a _ cap H hr rfl hc hm (by omega)
    have hRp := fun H a cap (hr : Row H a (strV (packF L))) hc hm => ropenA_any (packF L) a _ cap H hr rfl hc hm (by omega)
    unfold OpV at hOp hRp
    rw [hO] at hOp hRp
    have hPk := fun H a n cap (hr : RowF H a L) (hn : L.length = n) => rpack_any L a n cap H hr hn (by rw [← hn, ← hL]; show 2 ≤ 600; decide) (by rw [← hL]; intro f hf; rcases List.mem_cons.1 hf with rfl | hf; (show _ ≤ 1000000; simp); rw [List.mem_singleton.1 hf]; exact Nat.zero_le _)
    obtain ⟨D, hD⟩ : ∃ D, packF L = D := ⟨_, rfl⟩
    rw [hD] at hOp hRp hPk hpl
    have hL2 : L.length = 2 := by rw [← hL]; rfl
    clear hO hD hP hQ hL
    by_cases c1 : P.2 = 0
    rotate_left
    · ((conv => whnf); repeat (any_goals (first | ((have := hxh; refine (hfiles_any _ _ ae ag _ _ ce cg _ (hfe.ext (by (repeat (first | assumption | exact Vc.Ext.refl _ | ((with_reducible apply Vc.Ext.trans); (case k => assumption)) | ((with_reducible apply Vc.Ext.but); (case k => assumption); (case hb => omega)))))) (hfg.ext (by (repeat (first | assumption | exact Vc.Ext.refl _ | ((with_reducible apply Vc.Ext.trans); (case k => assumption)) | ((with_reducible apply Vc.Ext.but); (case k => assumption); (case hb => omega)))))) rfl rfl (by omega) (by omega)).mono ?_; rintro _ _ ⟨rfl, rfl⟩; rw [decide_eq_true rfl]); (conv => whnf)) | ((have := hxg; refine (hcp _).mono ?_; rintro _ Hh ⟨rfl, hxh⟩; have hzh := hxh.size); (conv => whnf)) | ((have := hxh; refine (hcq _).mono ?_; rintro _ Hi ⟨rfl, hxi⟩; have hzi := hxi.size); (conv => whnf)) | ((have := hxf; refine (hRp _ af cf hof.row hof.cap_le (own_max hof)).mono ?_; rintro _ Hg ⟨⟨ag, cg, rfl, hfg, hlg⟩, hxg⟩; have hzg := hxg.size); (conv => whnf)) | ((have := hxe; refine (hPk _ _ _ _ (hrf.ext (by (repeat (first | assumption | exact Vc.Ext.refl _ | ((with_reducible apply Vc.Ext.trans); (case k => assumption)) | ((with_reducible apply Vc.Ext.but); (case k => assumption); (case hb => omega)))))) hL2).mono ?_; rintro _ Hf ⟨⟨af, cf, rfl, hof⟩, hxf⟩; have hzf := hxf.size); (conv => whnf)) | ((have := hxd; refine (hOp _ ad cd hod.row hod.cap_le (own_max hod)).mono ?_; rintro _ He ⟨⟨ae, ce, rfl, hfe, hle⟩, hxe⟩; have hze := hxe.size); (conv => whnf)) | ((refine (hPk _ _ _ _ hrf hL2).mono ?_; rintro _ Hd ⟨⟨ad, cd, rfl, hod⟩, hxd⟩; have hzd := hxd.size); (conv => whnf)) | (refine Vc.stp ?_; intros; (conv => whnf)))))
      exact ⟨rfl, by (repeat (first | assumption | exact Vc.Ext.refl _ | ((with_reducible apply Vc.Ext.trans); (case k => assumption)) | ((with_reducible apply Vc.Ext.but); (case k => assumption); (case hb => omega))))⟩
    by_cases c2 : Q.2 = 0
    rotate_left
    · ((conv => whnf); repeat (any_goals (first | ((have := hxh; refine (hfiles_any _ _ ae ag _ _ ce cg _ (hfe.ext (by (repeat (first | assumption | exact Vc.Ext.refl _ | ((with_reducible apply Vc.Ext.trans); (case k => assumption)) | ((with_reducible apply Vc.Ext.but); (case k => assumption); (case hb => omega)))))) (hfg.ext (by (repeat (first | assumption | exact Vc.Ext.refl _ | ((with_reducible apply Vc.Ext.trans); (case k => assumption)) | ((with_reducible apply Vc.Ext.but); (case k => assumption); (case hb => omega)))))) rfl rfl (by omega) (by omega)).mono ?_; rintro _ _ ⟨rfl, rfl⟩; rw [decide_eq_true rfl]); (conv => whnf)) | ((have := hxg; refine (hcp _).mono ?_; rintro _ Hh ⟨rfl, hxh⟩; have hzh := hxh.size); (conv => whnf)) | ((have := hxh; refine (hcq _).mono ?_; rintro _ Hi ⟨rfl, hxi⟩; have hzi := hxi.size); (conv => whnf)) | ((have := hxf; refine (hRp _ af cf hof.row hof.cap_le (own_max hof)).mono ?_; rintro _ Hg ⟨⟨ag, cg, rfl, hfg, hlg⟩, hxg⟩; have hzg := hxg.size); (conv => whnf)) | ((have := hxe; refine (hPk _ _ _ _ (hrf.ext (by (repeat (first | assumption | exact Vc.Ext.refl _ | ((with_reducible apply Vc.Ext.trans); (case k => assumption)) | ((with_reducible apply Vc.Ext.but); (case k => assumption); (case hb => omega)))))) hL2).mono ?_; rintro _ Hf ⟨⟨af, cf, rfl, hof⟩, hxf⟩; have hzf := hxf.size); (conv => whnf)) | ((have := hxd; refine (hOp _ ad cd hod.row hod.cap_le (own_max hod)).mono ?_; rintro _ He ⟨⟨ae, ce, rfl, hfe, hle⟩, hxe⟩; have hze := hxe.size); (conv => whnf)) | ((refine (hPk _ _ _ _ hrf hL2).mono ?_; rintro _ Hd ⟨⟨ad, cd, rfl, hod⟩, hxd⟩; have hzd := hxd.size); (conv => whnf)) | (refine Vc.stp ?_; intros; (conv => whnf)))))
      exact ⟨rfl, by (repeat (first | assumption | exact Vc.Ext.refl _ | ((with_reducible apply Vc.Ext.trans); (case k => assumption)) | ((with_reducible apply Vc.Ext.but); (case k => assumption); (case hb => omega))))⟩
    have e3 := str_mk P.1 Q.1
    by_cases c3 : P.1 = Q.1
    · rw [decide_eq_true c3] at e3
      have h64 := h64 c1 c2 c3
      have h64' : ((O.2 : Int) == 64) = true := by rw [h64]; decide
      ((conv => whnf); repeat (any_goals (first | ((have := hxh; refine (hfiles_any _ _ ae ag _ _ ce cg _ (hfe.ext (by (repeat (first | assumption | exact Vc.Ext.refl _ | ((with_reducible apply Vc.Ext.trans); (case k => assumption)) | ((with_reducible apply Vc.Ext.but); (case k => assumption); (case hb => omega)))))) (hfg.ext (by (repeat (first | assumption | exact Vc.Ext.refl _ | ((with_reducible apply Vc.Ext.trans); (case k => assumption)) | ((with_reducible apply Vc.Ext.but); (case k => assumption); (case hb => omega)))))) rfl rfl (by omega) (by omega)).mono ?_; rintro _ _ ⟨rfl, rfl⟩; rw [decide_eq_true rfl]); (conv => whnf)) | ((have := hxg; refine (hcp _).mono ?_; rintro _ Hh ⟨rfl, hxh⟩; have hzh := hxh.size); (conv => whnf)) | ((have := hxh; refine (hcq _).mono ?_; rintro _ Hi ⟨rfl, hxi⟩; have hzi := hxi.size); (conv => whnf)) | ((have := hxf; refine (hRp _ af cf hof.row hof.cap_le (own_max hof)).mono ?_; rintro _ Hg ⟨⟨ag, cg, rfl, hfg, hlg⟩, hxg⟩; have hzg := hxg.size); (conv => whnf)) | ((have := hxe; refine (hPk _ _ _ _ (hrf.ext (by (repeat (first | assumption | exact Vc.Ext.refl _ | ((with_reducible apply Vc.Ext.trans); (case k => assumption)) | ((with_reducible apply Vc.Ext.but); (case k => assumption); (case hb => omega)))))) hL2).mono ?_; rintro _ Hf ⟨⟨af, cf, rfl, hof⟩, hxf⟩; have hzf := hxf.size); (conv => whnf)) | ((have := hxd; refine (hOp _ ad cd hod.row hod.cap_le (own_max hod)).mono ?_; rintro _ He ⟨⟨ae, ce, rfl, hfe, hle⟩, hxe⟩; have hze := hxe.size); (conv => whnf)) | ((refine (hPk _ _ _ _ hrf hL2).mono ?_; rintro _ Hd ⟨⟨ad, cd, rfl, hod⟩, hxd⟩; have hzd := hxd.size); (conv => whnf)) | (refine Vc.stp ?_; intros; (conv => whnf)))))
      exact ⟨by show Value.bool _ = _; rw [h64'], by (repeat (first | assumption | exact Vc.Ext.refl _ | ((with_reducible apply Vc.Ext.trans); (case k => assumption)) | ((with_reducible apply Vc.Ext.but); (case k => assumption); (case hb => omega))))⟩
    · rw [decide_eq_false c3] at e3
      ((conv => whnf); repeat (any_goals (first | ((have := hxh; refine (hfiles_any _ _ ae ag _ _ ce cg _ (hfe.ext (by (repeat (first | assumption | exact Vc.Ext.refl _ | ((with_reducible apply Vc.Ext.trans); (case k => assumption)) | ((with_reducible apply Vc.Ext.but); (case k => assumption); (case hb => omega)))))) (hfg.ext (by (repeat (first | assumption | exact Vc.Ext.refl _ | ((with_reducible apply Vc.Ext.trans); (case k => assumption)) | ((with_reducible apply Vc.Ext.but); (case k => assumption); (case hb => omega)))))) rfl rfl (by omega) (by omega)).mono ?_; rintro _ _ ⟨rfl, rfl⟩; rw [decide_eq_true rfl]); (conv => whnf)) | ((have := hxg; refine (hcp _).mono ?_; rintro _ Hh ⟨rfl, hxh⟩; have hzh := hxh.size); (conv => whnf)) | ((have := hxh; refine (hcq _).mono ?_; rintro _ Hi ⟨rfl, hxi⟩; have hzi := hxi.size); (conv => whnf)) | ((have := hxf; refine (hRp _ af cf hof.row hof.cap_le (own_max hof)).mono ?_; rintro _ Hg ⟨⟨ag, cg, rfl, hfg, hlg⟩, hxg⟩; have hzg := hxg.size); (conv => whnf)) | ((have := hxe; refine (hPk _ _ _ _ (hrf.ext (by (repeat (first | assumption | exact Vc.Ext.refl _ | ((with_reducible apply Vc.Ext.trans); (case k => assumption)) | ((with_reducible apply Vc.Ext.but); (case k => assumption); (case hb => omega)))))) hL2).mono ?_; rintro _ Hf ⟨⟨af, cf, rfl, hof⟩, hxf⟩; have hzf := hxf.size); (conv => whnf)) | ((have := hxd; refine (hOp _ ad cd hod.row hod.cap_le (own_max hod)).mono ?_; rintro _ He ⟨⟨ae, ce, rfl, hfe, hle⟩, hxe⟩; have hze := hxe.size); (conv => whnf)) | ((refine (hPk _ _ _ _ hrf hL2).mono ?_; rintro _ Hd ⟨⟨ad, cd, rfl, hod⟩, hxd⟩; have hzd := hxd.size); (conv => whnf)) | (refine Vc.stp ?_; intros; (conv => whnf)))))
      exact ⟨rfl, by (repeat (first | assumption | exact Vc.Ext.refl _ | ((with_reducible apply Vc.Ext.trans); (case k => assumption)) | ((with_reducible apply Vc.Ext.but); (case k => assumption); (case hb => omega))))⟩
end Go.Proofs.YtjcmcmogbkdjcaaGreatDoor
