import Derived.Test.YtihopeogaeinhaaGreatDoorKm
import Derived.Test.YtihopeogaeinhaaGreatDoorKf
import Derived.Test.YtihopeogaeinhaaGreatDoorKe
set_option linter.unusedVariables false
set_option linter.unusedSimpArgs false
set_option maxRecDepth 100000
/- Law 13: ArchiveEscapes, the walk. -/
namespace Go.Arc
open Go.Scr Go.Pth Go.Tre
def oneE (j : Nat) : Fi := ([102, UInt8.ofNat (97 + j)], false, [120, 121, 122])
def onesE (k : Nat) : List Fi := (List.range k).map oneE
def escE (p : Nat) : Txt := ([[46, 46, 47, 120], [47, 120], [97, 47, 46, 46, 47, 46, 46, 47, 120], [46, 46], [97, 47, 46, 46, 47, 46, 46]] : List Txt).getD p []
def escL (k i p : Nat) : List Fi := (onesE k).set i (escE p, false, [120, 121, 122])
theorem onesE_len (k : Nat) : (onesE k).length = k := by simp [onesE]
theorem onesE_snoc (k : Nat) : onesE (k + 1) = onesE k ++ [oneE k] := by simp [onesE, List.range_succ]
theorem escL_len (k i p : Nat) : (escL k i p).length = k := by simp [escL, onesE_len]
theorem oneE_clean : ∀ j, j < 6 → (cleanF (oneE j).1).2 = 0 := by decide +kernel
theorem escE_out : ∀ p, p < 5 → (cleanF (escE p)).2 = 51 ∧ (escE p).length ≤ 20 := by decide +kernel
theorem escL_mem {k i p : Nat} (hp : p < 5) : ∀ f ∈ escL k i p, f.1.length ≤ 20 ∧ f.2.2.length = 3 := by
  intro f hf
  rcases List.mem_or_eq_of_mem_set hf with hf | rfl
  · obtain ⟨j, _, rfl⟩ := List.mem_map.1 hf
    exact ⟨by simp [oneE], by simp [oneE]⟩
  · exact ⟨(escE_out p hp).2, rfl⟩
theorem escL_open {k i p : Nat} (hk : k ≤ 6) (hi : i < k) (hp : p < 5) (hl : (packF (escL k i p)).length ≤ 262144) : openF (packF (escL k i p)) = ([], 51) := by
  refine open_escape (escL k i p) i (escE p, false, [120, 121, 122]) ?_ ?_ (by have := (escE_out p hp).2; dsimp only; omega) (by simp) (escE_out p hp).1 (by rw [escL_len]; omega) hl
  · unfold escL
    rw [List.getElem?_set_self (by rw [onesE_len]; exact hi)]
  · intro g hg
    unfold escL at hg
    rw [List.take_set_of_le (Nat.le_refl _)] at hg
    obtain ⟨j, hj, rfl⟩ := List.mem_map.1 (List.mem_of_mem_take hg)
    exact ⟨by simp [oneE], by simp [oneE], oneE_clean j (by have := List.mem_range.1 hj; omega)⟩
end Go.Arc
namespace Go.Proofs.YtihopeogaeinhaaGreatDoor
open Go Go.Vc Go.Scr Go.Pth Go.Tre Go.Arc Go.Sha
theorem escL_light {k i p : Nat} (hk : k ≤ 6) (hp : p < 5) : lightF (escL k i p) = true := (light_iff _).2 ⟨by rw [escL_len]; omega, fun f hf => by have := escL_mem hp f hf; omega⟩
theorem DoH.store_ownK {P : Program} {H : Heap} {t e : TypeId} {i : TypeInfo} {base g n cap size : Nat} {xs : List Value} {o : Nat} {v : Value} {K : Heap → Prop} (ho : Own H base e size (some ⟨g, 0, none⟩) n cap xs) (hi : P.info? t = some i) (hn : i.size = 1) (hp : plainV v = true) (hl : o < n * size)
    (hk : ∀ H', H'.size = H.size → Own H' base e size (some ⟨g, 0, none⟩) n cap (xs.set o v) → But g H H' → K H') : DoH P (Instr.storeAt t (.pointer (some ⟨g, o, none⟩)) v) H K := by
  rcases ho.out with ⟨ha, _⟩ | ⟨g', cur, ha, hb, hg, hnc, hmc, hcs, htake⟩
  · cases ha
  · cases ha
    have hns : n * size ≤ cap * size := Nat.mul_le_mul_right _ hnc
    refine DoH.store1 hg hi hn hp (by omega) fun H' h1 h2 h3 => hk H' h1 ⟨by simpa using ho.len, .inr ⟨_, _, rfl, hb, h2, hnc, hmc, by simpa using hcs, ?_⟩⟩ h3
    rw [← htake, Array.toList_setIfInBounds]
    apply List.ext_getElem?
    intro j
    simp only [List.getElem?_take, List.getElem?_set, List.length_take]
    have hsz : cur.toList.length = cap * size := by simpa using hcs
    by_cases hj : o = j
    · subst hj
      rw [if_pos hl, if_pos rfl, if_pos rfl, if_pos (by omega), if_pos (by omega)]
    · rw [if_neg hj, if_neg hj]
theorem own_type {H : Heap} {base n cap size : Nat} {e : TypeId} {a : Option Addr} {xs : List Value} (h : Own H base e size a n cap xs) (he : e ≠ 5) : ∀ b c, (∃ p, a = some p ∧ p.block = b) → ¬ Blk H b c 5 := by
  rintro b c ⟨p, hp, rfl⟩ k
  rcases h.out with ⟨h1, _⟩ | ⟨g, cur, h1, _, hb, _⟩
  · rw [h1] at hp; cases hp
  · rw [h1] at hp; cases hp
    exact he (blk_one hb k).1
theorem encF_set : ∀ (fs : List SF) (i : Nat) (f : SF) (p : Bs), fs[i]? = some f → (fs.flatMap encF).set (i * 3) (.string (mkS p)) = (fs.set i (p, f.2)).flatMap encF
  | [], i, f, p, h => by simp at h
  | g :: fs, 0, f, p, h => by
    simp only [List.getElem?_cons_zero, Option.some.injEq] at h
    subst h
    simp [encF]
  | g :: fs, i + 1, f, p, h => by
    have := encF_set fs i f p (by simpa using h)
    rw [List.set_cons_succ, List.flatMap_cons, List.flatMap_cons, ← this, List.set_append_right _ _ (by show (3 : Nat) ≤ (i + 1) * 3; omega), show (i + 1) * 3 - (encF g).length = i * 3 by show (i + 1) * 3 - 3 = _; omega]
theorem ToldL.setp {H : Heap} : ∀ {fs : List SF} {xs : Tr} {i : Nat} {f : SF} {x : Bs × Tre.Node} (p : Bs), ToldL H fs xs → fs[i]? = some f → xs[i]? = some x → ToldL H (fs.set i (p, f.2)) (xs.set i (p, x.2))
  | [], [], i, f, x, p, _, h, _ => by simp at h
  | g :: fs, y :: xs, 0, f, x, p, ⟨h1, h2⟩, hf, hx => by
    simp only [List.getElem?_cons_zero, Option.some.injEq] at hf hx
    subst hf; subst hx
    exact ⟨⟨rfl, h1.dir, h1.len, h1.own⟩, h2⟩
  | g :: fs, y :: xs, i + 1, f, x, p, ⟨h1, h2⟩, hf, hx => ⟨h1, ToldL.setp p h2 (by simpa using hf) (by simpa using hx)⟩
  | [], _ :: _, _, _, _, _, h, _, _ => h.elim
  | _ :: _, [], _, _, _, _, h, _, _ => h.elim
theorem fileB2 {K : Value → Prop} {o1 o2 : Operand} {s : ByteArray} {a : Option Addr} {n c : Nat} (h : K (.agg #[.string s, .bool false, .slice a n c])) : PureH Tryz.prog (Instr.build 45 ((List.map (fun x : Nat × Operand => x.1) (#[(0, o1), (2, o2)] : Array (Nat × Operand)).toList).zip [.string s, .slice a n c]).toArray) K := PureH.build _ (by kernel_rfl) h
structure EsS where
  i : Nat
  fs : List SF
  a : Option Addr
  cap : Nat
theorem own_head {H : Heap} {base n cap size : Nat} {e : TypeId} {a : Option Addr} {xs : List Value} (h : Own H base e size a n cap xs) (hn : 0 < n) : ∃ g, a = some ⟨g, 0, none⟩ ∧ base ≤ g := by
  rcases h.out with ⟨_, h0, _⟩ | ⟨g, _, ha, hb, _⟩
  · omega
  · exact ⟨g, ha, hb⟩
theorem IdxA.atK {g o n size : Nat} {i : Int} {K : Addr → Prop} (j : Nat) (hi : i = j) (hj : j < n) (hk : K ⟨g, o + j * size, none⟩) : IdxA (some ⟨g, o, none⟩) n size i K := by
  subst hi
  exact ⟨by omega, by omega, _, rfl, by rw [addk, Int.toNat_natCast]; exact hk⟩
set_option maxHeartbeats 1000000 in
theorem escapes_walk (n at_ p cut : UInt8) (H : Heap) :
    CallH Tryz.prog 6 [.int .u8 n.toNat, .int .u8 at_.toNat, .int .u8 p.toNat, .int .u8 cut.toNat] H fun v H' => v = .bool true ∧ Ext H H' := by
  have hn8 := n.toNat_lt
  have ha8 := at_.toNat_lt
  have hp8 := p.toNat_lt
  have hc8 := cut.toNat_lt
  obtain ⟨k, hk⟩ : ∃ k, k = n.toNat % 6 + 1 := ⟨_, rfl⟩
  refine Vc.CallH.body Tryz.func6 Tryz.call6 rfl (by decide +kernel) rfl ?_
  ((conv => whnf); repeat (any_goals (first | ((refine (known13_any _).mono ?_; rintro _ H1 ⟨rfl, hx1⟩; have hz1 := hx1.size); (conv => whnf)) | (refine Vc.stp ?_; intros; (conv => whnf)))))
  refine LoopH.intro (fun (s : EsS) => [(11, .int .i64 s.i), (10, .slice s.a s.i s.cap)]) (fun s H' => s.i ≤ k ∧ Own H' H1.size 45 3 s.a s.i s.cap (s.fs.flatMap encF) ∧ ToldL H' s.fs (onesE s.i) ∧ Ext H1 H') (fun s => k - s.i) ⟨0, [], none, 0⟩ ⟨rfl, rfl, trivial⟩ ⟨Nat.zero_le _, Own.nil _ _ _ _, trivial, Ext.refl _⟩ ?_
  rintro ⟨i, fs, sa, sc⟩ H2 ⟨hi, ho2, ht2, hx2⟩
  dsimp only at hi ho2 ht2 hx2 ⊢
  by_cases hlt : i < k
  · have hb : ((97 : Int) + (i : Int)) % 256 = (((UInt8.ofNat (97 + i)).toNat : Nat) : Int) := by rw [UInt8.toNat_ofNat']; omega
    ((conv => whnf); repeat (any_goals (first | ((refine ArithH.u8m ?_; rw [hb]); (conv => whnf)) | ((refine NeedH.mk ⟨(by (show 1 + 1 ≤ 9223372036854775807); decide), ?_⟩); (conv => whnf)) | ((rename_i H3 z3 b3 x3; refine to_string' (l := [UInt8.ofNat (97 + i)]) rfl rfl rfl (Blk.row (c := strV [UInt8.ofNat (97 + i)]) b3) rfl ?_); (conv => whnf)) | (((with_reducible apply SemH.lit0 [.int .u8 120, .int .u8 121, .int .u8 122]); (focus (rfl)); (focus (rfl)); (focus (rfl)); (focus (rfl)); (focus (rfl)); (focus (rfl)); (focus (rfl)); (focus ((intro H4 hz4 hb4 hx4; (conv => whnf))))); (conv => whnf)) | ((refine SemH.mark0 rfl rfl hb4 hx4 (Nat.le_refl _) ?_; intro H5 hz5 hb5 hx5); (conv => whnf)) | (((with_reducible apply fileB2); (focus ((conv => whnf)))); (conv => whnf)) | ((have := hb5; rename_i Hm zm bm xm; have bm' : Blk Hm H5.size (encF ([102] ++ [UInt8.ofNat (97 + i)], false, some ⟨H3.size, 0, none⟩, 3, 3)).toArray 45 := (by unfold encF; rw [← mkS_app]; exact bm); have x2m : Ext H2 Hm := x3.trans (hx5.trans xm); refine NextH.pushF bm' (ho2.ext x2m) (by have := hx2.size; have := x2m.size; omega) (by omega) ⟨_, rfl, fun _ h => by cases h⟩ ?_; intro a6 c6 H6 ho6 hz6 hw6); (conv => whnf)) | (refine Vc.stp ?_; intros; (conv => whnf)))))
    have hto : Told Hm ([102] ++ [UInt8.ofNat (97 + i)], false, some ⟨H3.size, 0, none⟩, 3, 3) (oneE i) := ⟨rfl, rfl, rfl, (own_lit (n := 3) hb5 (Nat.zero_le _) rfl (by decide)).ext xm⟩
    have ht6 : ToldL H6 (fs ++ [([102] ++ [UInt8.ofNat (97 + i)], false, some ⟨H3.size, 0, none⟩, 3, 3)]) (onesE (i + 1)) := by
      rw [onesE_snoc]
      exact (ToldL.snoc hto (ht2.ext x2m)).keep hw6 (own_type (ho2.ext x2m) (by decide))
    exact ⟨⟨i + 1, _, a6, c6⟩, ⟨rfl, rfl, trivial⟩, ⟨by show i + 1 ≤ k; omega, ho6, ht6, (hx2.trans x2m).wr (ho2.ext x2m) (Nat.le_refl _) hw6⟩, by show k - (i + 1) < k - i; omega⟩
  · obtain rfl : i = k := by omega
    obtain ⟨g, rfl, hgb⟩ := own_head ho2 (by omega)
    obtain ⟨I, hI⟩ : ∃ I, at_.toNat % i = I := ⟨_, rfl⟩
    have hIl : I < i := by rw [← hI]; exact Nat.mod_lt _ (by omega)
    have hIe : ((at_.toNat : Int) % ((n.toNat : Int) % 6 + 1)) = (I : Int) := by
      rw [show ((n.toNat : Int) % 6 + 1) = (i : Int) by omega, ← hI]; rfl
    obtain ⟨P, hP⟩ : ∃ P, p.toNat % 5 = P := ⟨_, rfl⟩
    have hPl : P < 5 := by omega
    have hw : ([[46, 46, 47, 120], [47, 120], [97, 47, 46, 46, 47, 46, 46, 47, 120], [46, 46], [97, 47, 46, 46, 47, 46, 46]] : List Txt)[P]? = some (escE P) := by
      unfold escE
      rw [List.getD_eq_getElem?_getD, List.getElem?_eq_getElem (by simpa using hPl)]; rfl
    have hfl : fs.length = i := by rw [ht2.len, onesE_len]
    obtain ⟨f, hf⟩ : ∃ f, fs[I]? = some f := ⟨_, List.getElem?_eq_getElem (by omega)⟩
    have hx : (onesE i)[I]? = some (oneE I) := by simp [onesE, hIl]
    ((conv => whnf); repeat (any_goals (first | ((refine RemH.pos (by omega) ?_; first | rw [hIe] | skip); (conv => whnf)) | (((with_reducible apply SemH.lit (vs := [_, _, _, _, _])); (focus (rfl)); (focus (rfl)); (focus (rfl)); (focus (rfl)); (focus (rfl)); (focus (rfl)); (focus (rfl)); (focus ((intro Hs zs bs xs; have hrw : Row Hs (some ⟨H2.size, 0, none⟩) (strs [[46, 46, 47, 120], [47, 120], [97, 47, 46, 46, 47, 46, 46, 47, 120], [46, 46], [97, 47, 46, 46, 47, 46, 46]]) := Blk.row bs; (conv => whnf))))); (conv => whnf)) | ((refine IdxA.strv hrw rfl P (escE P) (by omega) hw ?_; intro _ _ _ _ _); (conv => whnf)) | ((refine IdxA.atK I rfl hIl ?_); (conv => whnf)) | (refine Vc.stp ?_; intros; (conv => whnf)))))
    refine DoH.store_ownK (o := 0 + I * 3 + 0) (ho2.ext xs) rfl rfl rfl (by omega) ?_
    intro Hu zu hou hbu
    rw [show 0 + I * 3 + 0 = I * 3 by omega, encF_set fs I f _ hf] at hou
    have htu : ToldL Hu (fs.set I (escE P, f.2)) ((onesE i).set I (escE P, (oneE I).2)) := (ToldL.setp (escE P) (ht2.ext xs) hf hx).keep hbu fun b c e hb => own_type (ho2.ext xs) (by decide) b c ⟨_, rfl, e.symm⟩ hb
    have hru : RowF Hu (some ⟨g, 0, none⟩) (escL i I P) := ⟨_, hou.row, htu.files⟩
    have hx1u : Ext H1 Hu := (hx2.trans xs).but hbu hgb
    have hlen := escL_len i I P
    have hpl := pack_light (escL i I P) (escL_light (by omega) hPl)
    have hopen := escL_open (by omega) hIl hPl (show (packF (escL i I P)).length ≤ 262144 by omega)
    have hpp : 5 ≤ (packF (escL i I P)).length := by rw [packF_eq]; simp
    have hmem := escL_mem (k := i) (i := I) hPl
    clear hou htu hbu hrw bs
    obtain ⟨L, hL⟩ : ∃ L, escL i I P = L := ⟨_, rfl⟩
    rw [hL] at hru hlen hpl hopen hpp hmem
    by_cases hc : cut.toNat % 2 = 1
    · obtain ⟨N, hN⟩ : ∃ N, (packF L).length = N := ⟨_, rfl⟩
      rw [hN] at hpp hpl
      obtain ⟨M, hM⟩ : ∃ M, N - 1 - cut.toNat / 2 % 3 = M := ⟨_, rfl⟩
      have hMe : (N : Int) - 1 - (cut.toNat : Int) / 2 % 3 = (M : Int) := by omega
      ((conv => whnf); repeat (any_goals (first | ((refine (rpack_any L _ i sc _ hru hlen (by omega) (fun f hf => by have := hmem f hf; omega)).mono ?_; rintro _ Hv ⟨⟨av, cv, rfl, hov⟩, hxv⟩; have hzv := hxv.size; have hmv := own_max hov; have hcv := hov.cap_le; obtain ⟨Y, hY⟩ : ∃ Y, packF L = Y := ⟨_, rfl⟩; rw [hY] at hov hcv hN ⊢; rw [hN] at hov hcv ⊢; have hrv := hov.row.take M; rw [strV_take] at hrv; have hYl : (Y.take M).length = M := (by rw [List.length_take]; omega)); (conv => whnf)) | ((refine QuoH.u8 (by omega) ?_); (conv => whnf)) | ((refine BndH.nat M hMe (by omega) ?_); (conv => whnf)) | ((refine (openA_any (Y.take M) av _ cv _ hrv hYl (by omega) hmv (by omega)).mono ?_; rintro _ Hw ⟨⟨aw, cw, rfl, _, _⟩, hxw⟩; have hzw := hxw.size); (conv => whnf)) | ((have := hxw; refine (ropenA_any (Y.take M) av _ cv _ (hrv.ext hxw) hYl (by omega) hmv (by omega)).mono ?_; rintro _ Hx ⟨⟨ax, cx, rfl, _, _⟩, hxx⟩); (conv => whnf)) | (refine Vc.stp ?_; intros; (conv => whnf)))))
      cases h51 : (((openF (Y.take M)).2 : Int) == 51) with
      | true =>
        ((conv => whnf); repeat (any_goals (first | (refine Vc.stp ?_; intros; (conv => whnf)))))
        exact ⟨rfl, hx1.trans (hx1u.trans (hxv.trans (hxw.trans hxx)))⟩
      | false =>
        ((conv => whnf); repeat (any_goals (first | (refine Vc.stp ?_; intros; (conv => whnf)))))
        have hc1 : ((cut.toNat : Int) % 2 == 1) = true := by rw [beq_iff_eq]; omega
        exact ⟨by show Value.bool _ = _; rw [hc1], hx1.trans (hx1u.trans (hxv.trans (hxw.trans hxx)))⟩
    · have h51 : (((openF (packF L)).2 : Int) == 51) = true := by rw [hopen]; rfl
      ((conv => whnf); repeat (any_goals (first | ((refine (rpack_any L _ i sc _ hru hlen (by omega) (fun f hf => by have := hmem f hf; omega)).mono ?_; rintro _ Hv ⟨⟨av, cv, rfl, hov⟩, hxv⟩; have hzv := hxv.size); (conv => whnf)) | ((refine (openA_any (packF L) av _ cv _ hov.row rfl hov.cap_le (own_max hov) (by omega)).mono ?_; rintro _ Hw ⟨⟨aw, cw, rfl, _, _⟩, hxw⟩; have hzw := hxw.size); (conv => whnf)) | ((have := hxw; refine (ropenA_any (packF L) av _ cv _ (hov.row.ext hxw) rfl hov.cap_le (own_max hov) (by omega)).mono ?_; rintro _ Hx ⟨⟨ax, cx, rfl, _, _⟩, hxx⟩); (conv => whnf)) | (refine Vc.stp ?_; intros; (conv => whnf)))))
      exact ⟨rfl, hx1.trans (hx1u.trans (hxv.trans (hxw.trans hxx)))⟩
end Go.Proofs.YtihopeogaeinhaaGreatDoor
