import Derived.Test.YtphkaogbcfdllaaGreatDoorKi
import Derived.Test.YtphkaogbcfdllaaGreatDoorKj
set_option linter.unusedVariables false
set_option linter.unusedSimpArgs false
set_option maxRecDepth 100000
/- VmIfs. -/
namespace Go.Proofs.YtphkaogbcfdllaaGreatDoor
open Go Go.Vc Go.Scr Go.Pth Go.Tre Go.Blk Go.Run
theorem sz_lit (l : List UInt8) : ByteArray.size ⟨l.toArray⟩ = l.length := rfl
theorem if_lens : ∀ q, q < 4 → ∀ nt els, (ifL q nt els).length ≤ 1000000 ∧ ∀ x ∈ ifL q nt els, x.a.length ≤ 1000000 ∧ x.b.length ≤ 1000000 ∧ x.tx.length ≤ 1000000 ∧ x.n ≤ 1000000 := by decide +kernel
theorem if_len : ∀ q, q < 4 → ∀ nt els, (ifT q nt els).length ≤ 1000 := by decide +kernel
theorem if_run {H H5 : Heap} {a : Option Addr} {c b m q : Nat} {there nt els : Bool} (hg : Glb H) (hH : 2 ≤ H.size) (hq : q < 4) (hr : Row H5 a (lnsV (ifL q nt els))) (ht : TreeO no H5 b m (ifTree there)) (hx : Ext H H5) (hb : H.size ≤ b) (hm : H.size ≤ m) :
    CallH Tryz.prog 18 [.slice a (ifL q nt els).length c, .pointer (some ⟨b, 0, none⟩), .map none, .int .i64 100] H5 fun v H' => (∃ s : Nat, v = .tuple #[.int .i64 (ifWant (ifIs q there) nt els : Nat), .int .i64 s, .nilIface] ∧ TreeO no H' b m (ifR q there nt els).2.A) ∧ Ext H H' := by
  have ok := if_ok q hq there nt els
  have hl := if_lens q hq nt els
  have hok : Okay (ifTree there) := by unfold ifTree; split; exact Okay.nil.writeF _ _; exact Okay.nil
  have h5 := hx.size
  have hfu : min (max 100 0) 65536 = ((100 : Nat) : Int) := rfl
  have q2 := run_any (cl := c) (vm := none) (V := none) (A := ifTree there) (fuel := 100) (F := 100) hr rfl hl.1 ok.nest hl.2 ht trivial hok (fun v hv => by cases hv) (hg.ext hx) ⟨by omega, by omega, fun v hv => by cases hv⟩ (by omega) hfu
  have hrun : (runP (ifL q nt els) 100 0 ⟨0, ifTree there, none, []⟩).1 = (ifWant (ifIs q there) nt els, 0) := ok.run
  rw [hrun] at q2
  dsimp only at q2
  refine q2.mono ?_
  rintro _ H6 ⟨er, rfl, her, ht6, _, ho6⟩
  rw [if_pos rfl] at her
  subst her
  exact ⟨⟨_, rfl, ht6⟩, Only.trans hx ho6 fun y hy e => (by rcases e with e | e | e; omega; omega; cases e)⟩
set_option maxHeartbeats 4000000 in
theorem ifs_any {H : Heap} (hg : Glb H) (hH : 2 ≤ H.size) (there nt els : Bool) (p : Nat) (hp : p < 256) : CallH Tryz.prog 4 [.bool there, .bool nt, .bool els, .int .u8 p] H fun v H' => v = .bool true ∧ Ext H H' := by
  obtain ⟨q, hq⟩ : ∃ q, q = p % 4 := ⟨_, rfl⟩
  have hq4 : q < 4 := by omega
  have hq' : ((p : Int) % 4) = (q : Int) := by omega
  have ok := if_ok q hq4 there nt els
  refine Vc.CallH.body Tryz.func4 Tryz.call4 rfl (by decide +kernel) rfl ?_
  obtain ⟨w, hw⟩ : ∃ w, w = ifNames.getD q [] := ⟨_, rfl⟩
  have hw' : ifNames[q]? = some w := by subst hw; match q, hq4 with | 0, _ => rfl | 1, _ => rfl | 2, _ => rfl | 3, _ => rfl
  have hwl : w.length ≤ 10 := by subst hw; clear hw' ok hq hq'; match q, hq4 with | 0, _ => decide | 1, _ => decide | 2, _ => decide | 3, _ => decide
  ((conv => whnf); repeat (any_goals (first | ((refine (known18_any hg hH).mono ?_; rintro _ H1 ⟨rfl, hx1⟩; have hz1 := hx1.size); (conv => whnf)) | ((refine RemH.pos (by omega) ?_); (conv => whnf)) | ((refine IdxA.strv (ws := ifNames) (Blk.row (by assumption)) rfl q w (by omega) hw' ?_; intro b o hbo hao hc0); (conv => whnf)) | (refine Vc.stp ?_; intros; (conv => whnf)))))
  have hx0 : Ext H _ := hx1.trans (by assumption)
  rename_i H2 hz2 hb2 hx2
  have hpr : ∀ (s : ByteArray) (H' : Heap), s = mkS (ifT q nt els) → CallH Tryz.prog 16 [.string s] H' fun v H'' => parseR H'' H'.size v (some (ifL q nt els), 0) ∧ Ext H' H'' := by
    rintro s H' rfl
    have := rparse_any (ifT q nt els) (by have := if_len q hq4 nt els; omega) H'
    rw [ok.parse] at this
    exact this
  have hex : ∀ {H' : Heap} {b m : Nat} (h : TreeO no H' b m (ifR q there nt els).2.A), ∀ t B, existsF (ifR q there nt els).2.A t = B → CallH Tryz.prog 21 [.pointer (some ⟨b, 0, none⟩), .string (mkS t)] H' fun v H'' => v = .bool B ∧ Ext H' H'' := by
    rintro H' b m h t _ rfl
    exact exists_any h t
  have hy := ok.yes
  have hno := ok.no
  have hfi := ok.fin
  have hrun := fun {H5 : Heap} {a : Option Addr} {c b m : Nat} => if_run (H5 := H5) (a := a) (c := c) (b := b) (m := m) (nt := nt) (els := els) (there := there) hg hH hq4
  clear ok
  have is : ifIs q there = (q == 2 || (there && decide (q < 2))) := rfl
  cases nt <;> cases els
  all_goals ((conv => whnf); repeat (any_goals (first | ((refine NeedH.mk ⟨by (simp only [ByteArray.size_append, sz_lit, List.length_cons, List.length_nil]; omega), ?_⟩); (conv => whnf)) | ((refine (hpr _ _ (by (subst hw; apply ByteArray.ext; apply Array.ext'; simp [mkS, ifT, ifA, ifB, ifC, ifD, ifE]))).mono ?_; rintro _ H3 ⟨⟨a3, c3, rfl, ho3⟩, hx3⟩; have hz3 := hx3.size); (conv => whnf)) | ((refine (new_any _).mono ?_; rintro _ H4 ⟨⟨b4, m4, rfl, ht4, hb4, hm4⟩, hx4⟩; have hz4 := hx4.size); (conv => whnf)) | (refine Vc.stp ?_; intros; (conv => whnf)))))
  all_goals cases there
  all_goals clear hwl hw' hw hpr
  all_goals ((conv => whnf); repeat (any_goals (first | ((refine (write_any ht4 .nil [97, 47, 98] [] none 0 0 (Row.nil _ _) rfl (by decide)).mono ?_; rintro _ H5 ⟨rfl, ht5', ho5⟩; have ht5 : TreeO no H5 b4 m4 (ifTree true) := ht5'; have hz5 := ho5.size; have hx05 : Ext H H5 := Only.trans (hx0.trans (hx3.trans hx4)) ho5 fun y hy e => (by rcases e with e | e; omega; omega); have hr5 := Row.keep (ho3.row.ext hx4) ho5 fun p hp e => (by have := (ho3.block p hp).2; rcases e with e | e; omega; omega)); (conv => whnf)) | (refine Vc.stp ?_; intros; (conv => whnf)))))
  all_goals first | (have := ht5) | (have ht5 : TreeO no H4 b4 m4 (ifTree false) := ht4; have hx05 := hx0.trans (hx3.trans hx4); have hr5 := ho3.row.ext hx4)
  all_goals have hbb : Array.size H ≤ b4 ∧ Array.size H ≤ m4 := (by constructor <;> omega)
  all_goals clear ht4 hx0 hx1 hx2 hx3 hx4 ho3 hb2 hg hH
  all_goals rcases (by omega : q = 0 ∨ q = 1 ∨ q = 2 ∨ q = 3) with rfl | rfl | rfl | rfl
  all_goals ((conv => whnf); repeat (any_goals (first | (refine Vc.stp ?_; intros; (conv => whnf)))))
  all_goals (refine (hrun hr5 ht5 hx05 hbb.1 hbb.2).mono ?_; rintro _ H7 ⟨⟨s7, rfl, ht7⟩, hx7⟩; have hz7 := hx7.size; clear hrun hr5 ht5 hx05)
  all_goals simp [ifIs] at hy hno
  all_goals first | (have hd : decide ((p : Int) % 4 < 2) = true := by (rw [decide_eq_true_eq]; omega)) | (have hd : decide ((p : Int) % 4 < 2) = false := by (rw [decide_eq_false_iff_not]; omega))
  all_goals ((conv => whnf); repeat (any_goals (first | ((refine SplitH.pos (by rw [hd]; rfl) ?_); (conv => whnf)) | ((refine SplitH.neg (by rw [hd]; rfl) ?_); (conv => whnf)) | ((refine (hex ht7 [121, 101, 115] _ hy).mono ?_; rintro _ H8 ⟨rfl, hx8⟩; have hz8 := hx8.size); (conv => whnf)) | ((refine (hex (ht7.ext (by exact Vc.xt)) [110, 111] _ hno).mono ?_; rintro _ H9 ⟨rfl, hx9⟩; have hz9 := hx9.size); (conv => whnf)) | ((refine (hex (ht7.ext (by exact Vc.xt)) [101, 110, 100] _ hfi).mono ?_; rintro _ H10 ⟨rfl, hx10⟩; have hz10 := hx10.size); (conv => whnf)) | (refine Vc.stp ?_; intros; (conv => whnf)))))
  all_goals exact ⟨by kernel_rfl, hx7.trans (hx8.trans (hx9.trans hx10))⟩
end Go.Proofs.YtphkaogbcfdllaaGreatDoor
/- Which lines an if does, with and without an else, by whether a path is there. The package variables that the card lists hold what the program's text lays. -/
namespace Go.Proofs.YtphkaogbcfdllaaGreatDoor
open Go Go.Vc Go.Scr Go.Pth Go.Tre Go.ChangeShapes Go.WideShapes Go.ChangeAt Go.RowKit
theorem glb_two {H : Heap} (h : Glb H) : 2 ≤ H.size := by
  obtain ⟨t, fr, e⟩ := h.tab
  have := (Array.getElem?_eq_some_iff.1 e).1
  omega
theorem u8_nat {n : Int} (h : (Lit.int .u8 n).wf = true) : ∃ m : Nat, n = m ∧ m < 256 := by
  have h2 : 0 ≤ n ∧ n ≤ 255 := by
    simp [Lit.wf, IntKind.min, IntKind.max, IntKind.signed, IntKind.bits] at h
    omega
  exact ⟨n.toNat, by omega, by omega⟩
namespace ifs
set_option maxRecDepth 100000 in
theorem lifted (os : Os) (started : os.Started) (H : Type) (enc : TypeId × Value → H) :
    ReturnsInHanded {} Tryz.checked os 4 .any (fun w args => (Rows.vmIfsSpec.pre enc Tryz.prog Tryz.f4 Rows.vmIfsRow.domain false w args ∧ laidMetH Tryz.prog Rows.vmIfsRow.laid w) ∧ sizedMet enc Tryz.prog Tryz.f4 (OpenSpec.ofChange Rows.vmIfsSpec) false w args)
      (Rows.vmIfsSpec.post enc Tryz.prog Tryz.f4 false true false false) := by
  refine returnsInHanded_of_change_and (C := Tryz.checked) (X := fun w _ => laidMetH Tryz.prog Rows.vmIfsRow.laid w) (fun _ _ _ hh h => h.of_heap hh) own started (by kernel_rfl) Tryz.func4
    (ChangeSpec.witness_shaped (enc := enc) (C := Tryz.checked) (os := os) (X := fun w _ => laidMetH Tryz.prog Rows.vmIfsRow.laid w) false (witW os) #[.bool false, .bool false, .bool false, .int .u8 0] 8 (witW_os os)
      (World.shaped_of_ZipB (by kernel_rfl) (by kernel_rfl)) (by kernel_rfl) (by kernel_rfl) (by kernel_rfl)
      (witW_met os _)) ?_
  intro W base args ds gs before hval0 hW hc _ hL _
  have hval : ∀ (j : Nat) t v, Tryz.f4.params[j]? = some t → args[j]? = some v → Value.okWide Tryz.prog W .any base t v := hval0
  have hW' := hW
  obtain ⟨p, q, hA, hV, _, _, _⟩ := hW
  rw [Tryz.params4] at hA hval
  obtain ⟨v0, v1, v2, v3, d0, d1, d2, d3, p0, p1, p2, p3, rfl, rfl, rfl, h0, h1, h2, h3⟩ := trodAll_four hA
  obtain ⟨there, rfl, rfl, rfl⟩ := open_bool rfl (hval 0 _ v0 rfl rfl) h0
  obtain ⟨nt, rfl, rfl, rfl⟩ := open_bool rfl (hval 1 _ v1 rfl rfl) h1
  obtain ⟨els, rfl, rfl, rfl⟩ := open_bool rfl (hval 2 _ v2 rfl rfl) h2
  obtain ⟨x3, rfl, rfl, rfl, w3⟩ := open_int rfl (hval 3 _ v3 rfl rfl) h3
  obtain ⟨x3, rfl, l3⟩ := u8_nat w3
  exact law_calls (tb := 4) rfl (ifs_any (glb_of_laid hL) (glb_two (glb_of_laid hL)) there nt els x3 l3) hW' rfl (by obtain ⟨rfl, rfl⟩ := trodVars_none hV; rfl) rfl rfl laid_out (by kernel_rfl)
end ifs

end Go.Proofs.YtphkaogbcfdllaaGreatDoor
