import Derived.Test.YtlgcfcdmldlefaaDoorFe
import Derived.Test.YtlgcfcdmldlefaaDoorVi
import Derived.Test.YtlgcfcdmldlefaaDoorVl
set_option linter.unusedVariables false
set_option linter.unusedSimpArgs false
set_option maxRecDepth 100000
/- An archive that isn't there ends a fetch at once, with its own error and the package's name. The package variables that the card lists hold what the program's text lays. -/
namespace Go.Proofs.YtlgcfcdmldlefaaDoor
open Go Go.Vc Go.ChangeShapes Go.WideShapes Go.ChangeAt Go.RowKit
theorem errs_err {H : Heap} {v : Value} {n : Int} (h : Errs H v opFetch ⟨#[97]⟩ n) : ErV H [([102, 101, 116, 99, 104], [97])] (.num n) v := by
  obtain ⟨g, rfl, hb⟩ := h
  exact ⟨g, _, rfl, hb, rfl⟩
def failed (b : List UInt8) (m : Nat) : Fet := { St b m 0 with fl := true }
set_option maxHeartbeats 4000000 in
theorem missing_any (n k : Int) (H : Heap) (hg : Glb H) (hn : 0 ≤ n ∧ n ≤ 65535) (hk : 0 ≤ k ∧ k ≤ 255) :
    CallH Tryd.prog 7 [.int .u16 n, .int .u8 k] H fun v H' => v = .bool true ∧ Ext H H' := by
  refine Vc.CallH.body Tryd.func7 Tryd.call7 rfl (by decide +kernel) rfl ?_
  obtain ⟨N, hN, hNl⟩ : ∃ N : Nat, n % 300 + 200 = N ∧ 200 ≤ N ∧ N ≤ 499 := ⟨(n % 300 + 200).toNat, by omega, by omega⟩
  obtain ⟨q, hq, hq3⟩ : ∃ q : Nat, k % 3 = q ∧ q ≤ 2 := ⟨(k % 3).toNat, by omega, by omega⟩
  have hlen := madeL_length N
  have hmade := fun H => made_any N (by omega) H
  have hrow := fun (H2 : Heap) (a : Option Addr) (hr : Row H2 a (strV (madeL N))) => row_any (madeL N) a N N 0 H2 (by decide) hr hlen (Nat.le_refl _) (by omega)
  rw [show (0 : Int).toNat = 0 from rfl, lieR_zero] at hrow
  have hnew := fun H => new_any (rowOf (madeL N)) (sumL_length _) H
  rw [newF_row] at hnew
  generalize hB : madeL N = B at *
  ((conv => whnf); repeat (any_goals (first | ((refine (known20_any _).mono ?_; rintro _ H1 ⟨rfl, hx1⟩; have hz1 := hx1.size); (conv => whnf)) | ((rw [hN]; refine (hmade _).mono ?_; rintro _ H2 ⟨rfl, ho2, hx2⟩; have hz2 := hx2.size; have hlb2 := ho2.block _ rfl); (conv => whnf)) | ((refine (hrow _ _ ho2.row).mono ?_; rintro _ H3 ⟨rfl, hx3⟩; have hz3 := hx3.size); (conv => whnf)) | ((refine (hnew _).mono ?_; rintro _ H6 ⟨⟨g, rfl, hf6⟩, hx6⟩; have hz6 := hx6.size; have hfl6 := hf6.low); (conv => whnf)) | (refine Vc.stp ?_; intros; (conv => whnf)) | (refine Vc.spl ?_ ?_ <;> (intro _; (conv => whnf))))))
  have hr6 : Row H6 (some ⟨H1.size, 0, none⟩) (strV B) := ho2.row.ext (by (repeat (first | assumption | exact Vc.Ext.refl _ | ((with_reducible apply Vc.Ext.trans); (case k => assumption)) | ((with_reducible apply Vc.Ext.but); (case k => assumption); (case hb => omega)))))
  dsimp only at hlb2
  refine LoopH.intro (fun (x : Nat × Option Addr × Nat) => [(7, .int .i64 x.1)])
    (fun x H' => x.1 ≤ q ∧ FetO H' H3.size g (St B (64 * x.1) 0) x.2.1 x.2.2 ∧ Only (fun b => H3.size ≤ b) H6 H') (fun x => q - x.1) ⟨0, none, 0⟩ ⟨rfl, trivial⟩ ⟨Nat.zero_le _, hf6, Only.refl _ _⟩ ?_
  rintro ⟨i, a, cap⟩ H7 ⟨hi, hf7, hx7⟩
  dsimp only at hi hf7 hx7 ⊢
  have hz7 := hx7.size
  have hmB : 64 * i < B.length := by omega
  have hr7 : Row H7 (some ⟨H1.size, 0, none⟩) (strV B) := hr6.keep hx7 fun p hp hq => by cases hp; dsimp only at *; omega
  have e67 : Ext H H7 := Only.trans (show Ext H H6 by (repeat (first | assumption | exact Vc.Ext.refl _ | ((with_reducible apply Vc.Ext.trans); (case k => assumption)) | ((with_reducible apply Vc.Ext.but); (case k => assumption); (case hb => omega))))) hx7 fun b hb h => by omega
  by_cases hlt : i < q
  · have hw64 : min 64 (B.length - 64 * i) = 64 := by omega
    have haskv := fun H' (k : Ext H7 H') => st_ask (hf7.ext k) hmB (by omega)
    rw [hw64] at haskv
    have hdl : ((B.drop (64 * i)).take 64).length = 64 := by rw [List.length_take, List.length_drop]; omega
    have ht := St.takeAll (fa := 0) hmB (l := (B.drop (64 * i)).take 64) (by rw [hw64, List.take_take, Nat.min_self]) (by omega)
    rw [hw64] at ht
    have htk := fun H' (k : Ext H7 H') => st_take (cap2 := N - 64 * i) (hf7.ext k) hmB (by omega) (by omega) (show Row H' (sliceBase (some ⟨H1.size, 0, none⟩) N (64 * i) 1) (strV ((B.drop (64 * i)).take 64)) by
      have := ((hr7.ext k).drop N (64 * i) 1 (by rw [strV_length]; omega)).take 64
      rwa [Nat.mul_one, strV_drop, strV_take] at this) hdl (by omega) (by omega) (by have := k.size; omega) ht
    ((conv => whnf); repeat (any_goals (first | ((refine (haskv _ (by (repeat (first | assumption | exact Vc.Ext.refl _ | ((with_reducible apply Vc.Ext.trans); (case k => assumption)) | ((with_reducible apply Vc.Ext.but); (case k => assumption); (case hb => omega)))))).mono ?_; rintro _ H8 ⟨rfl, hx8⟩; have hz8 := hx8.size); (conv => whnf)) | ((refine BndH.nat (64 * i + 64) (by omega) (by omega) ?_); (conv => whnf)) | ((refine BndH.nat (64 * i) (by omega) (by omega) ?_); (conv => whnf)) | ((refine PureH.build #[.int .i64 0, .slice (sliceBase (some ⟨H1.size, 0, none⟩) N (64 * i) 1) (64 * i + 64 - 64 * i) (N - 64 * i)] (by kernel_rfl) ?_); (conv => whnf)) | ((rw [show 64 * i + 64 - 64 * i = 64 by omega]; refine (htk _ (by (repeat (first | assumption | exact Vc.Ext.refl _ | ((with_reducible apply Vc.Ext.trans); (case k => assumption)) | ((with_reducible apply Vc.Ext.but); (case k => assumption); (case hb => omega)))))).mono ?_; rintro _ H9 ⟨rfl, ⟨a9, c9, hf9, hn9⟩, hx9⟩; have hz9 := hx9.size); (conv => whnf)) | (refine Vc.stp ?_; intros; (conv => whnf)) | (refine Vc.spl ?_ ?_ <;> (intro _; (conv => whnf))))))
    have e79 : Only (fun b => H3.size ≤ b) H6 H9 := (hx7.trans (show Ext H7 _ by (repeat (first | assumption | exact Vc.Ext.refl _ | ((with_reducible apply Vc.Ext.trans); (case k => assumption)) | ((with_reducible apply Vc.Ext.but); (case k => assumption); (case hb => omega))))) fun _ _ h => h.elim).trans hx9 fun b hb h => by
      rcases h with rfl | ⟨p, hp, rfl⟩
      · omega
      · exact (hf7.own.block p hp).1
    exact ⟨⟨i + 1, a9, c9⟩, ⟨rfl, trivial⟩, ⟨by show i + 1 ≤ q; omega, by (show FetO H9 _ g (St B (64 * (i + 1)) 0) a9 c9); rw [show 64 * (i + 1) = 64 * i + 64 by omega]; exact hf9, e79⟩, by show q - (i + 1) < q - i; omega⟩
  · obtain rfl : i = q := by omega
    have htk := fun H' (k : Ext H7 H') => take_any (l := []) (k := 2) (n2 := 0) (cap2 := 0) (a2 := none) (hf7.ext k) (Row.nil _ _) rfl (Nat.le_refl _) (by rw [St.len (by omega), St.size]; omega) (by rw [St.size]; omega) (by omega) (by have := k.size; omega) (by show 0 ≤ _; omega) (by show 0 ≤ _; omega)
    have e1 : (St B (64 * i) 0).takeF 2 [] = (failed B (64 * i), 76) := by
      unfold Fet.takeF
      rw [St.over', if_neg (by rw [decide_eq_true_eq]; omega), if_pos rfl]; rfl
    rw [e1] at htk
    have e78 : ∀ {H8 : Heap}, Only (foot g a) H7 H8 → Ext H H8 := fun {H8} hx8 => Only.trans e67 hx8 fun b hb h => by
      rcases h with rfl | ⟨p, hp, rfl⟩
      · omega
      · have := (hf7.own.block p hp).1; omega
    have hask : ∀ {H8 : Heap} {a8 : Option Addr} {c8 : Nat}, FetO H8 H3.size g (failed B (64 * i)) a8 c8 → CallH Tryd.prog 30 [.pointer (some ⟨g, 0, none⟩)] H8 fun v H' => v = .tuple #[.agg (askC ⟨#[]⟩ 0 0 0 0 0), .bool false] ∧ Ext H8 H' := fun {H8 a8 c8} h => by
      have e : (failed B (64 * i)).askV = .tuple #[.agg (askC ⟨#[]⟩ 0 0 0 0 0), .bool false] := by
        unfold Fet.askV; rw [if_pos (by unfold Fet.over failed; simp)]
      rw [← e]
      have e2 : (failed B (64 * i)).size = B.length := St.size B (64 * i) 0
      have e3 : (failed B (64 * i)).b.length = 64 * i := St.len (fa := 0) (by omega)
      exact ask_any h (by omega) (by omega)
    have hdone : ∀ {H8 : Heap} {a8 : Option Addr} {c8 : Nat}, FetO H8 H3.size g (failed B (64 * i)) a8 c8 → CallH Tryd.prog 32 [.pointer (some ⟨g, 0, none⟩)] H8 fun v H' => (∃ a' cap' n', v = .tuple #[.slice a' n' cap', .bool false]) ∧ Ext H8 H' := fun {H8 a8 c8} h => by
      have e3 : (failed B (64 * i)).b.length = 64 * i := St.len (fa := 0) (by omega)
      refine (done_any h (by omega)).mono ?_
      rintro v H' ⟨⟨a', cap', rfl, _⟩, hx⟩
      refine ⟨⟨a', cap', (failed B (64 * i)).had.length, ?_⟩, hx⟩
      show Value.tuple #[_, .bool (decide (64 * i = B.length))] = _
      rw [decide_eq_false (by omega)]
    have ew : wrS [([102, 101, 116, 99, 104], [97])] (basT (.num 76)) = [102, 101, 116, 99, 104, 32, 97, 58, 32, 101, 114, 114, 32, 55, 54] := by decide +kernel
    have etx : ((mkS [102, 101, 116, 99, 104, 32, 97, 58, 32, 101, 114, 114, 32, 55, 54]).toList == (⟨#[102, 101, 116, 99, 104, 32, 97, 58, 32, 101, 114, 114, 32, 55, 54]⟩ : ByteArray).toList) = true := beq_self_eq_true _
    have hsm : Small [(([102, 101, 116, 99, 104] : List UInt8), ([97] : List UInt8))] := ⟨Nat.le_of_ble_eq_true rfl, fun y hy => by simp at hy; subst hy; exact ⟨Nat.le_of_ble_eq_true rfl, Nat.le_of_ble_eq_true rfl⟩⟩
    have hok : BasOk (.num 76) := (show I64 76 from ⟨by omega, by omega⟩)
    ((conv => whnf); repeat (any_goals (first | ((refine PureH.build #[.int .i64 2, .slice none 0 0] (by kernel_rfl) ?_); (conv => whnf)) | ((refine (htk _ (by (repeat (first | assumption | exact Vc.Ext.refl _ | ((with_reducible apply Vc.Ext.trans); (case k => assumption)) | ((with_reducible apply Vc.Ext.but); (case k => assumption); (case hb => omega)))))).mono ?_; rintro _ H8 ⟨he8, ⟨a8, c8, hf8, hn8⟩, hx8⟩; have hz8 := hx8.size; have he8 := errs_err he8; obtain ⟨t8, y8, rfl⟩ := ErV.iface he8; have eH8 := e78 hx8); (conv => whnf)) | ((refine (hask (hf8.ext (by (repeat (first | assumption | exact Vc.Ext.refl _ | ((with_reducible apply Vc.Ext.trans); (case k => assumption)) | ((with_reducible apply Vc.Ext.but); (case k => assumption); (case hb => omega))))))).mono ?_; rintro _ H9 ⟨rfl, hx9⟩; have hz9 := hx9.size); (conv => whnf)) | ((refine (hdone (hf8.ext (by (repeat (first | assumption | exact Vc.Ext.refl _ | ((with_reducible apply Vc.Ext.trans); (case k => assumption)) | ((with_reducible apply Vc.Ext.but); (case k => assumption); (case hb => omega))))))).mono ?_; rintro _ H10 ⟨⟨a10, c10, n10, rfl⟩, hx10⟩; have hz10 := hx10.size); (conv => whnf)) | ((refine (text_err (hg.ext (by (repeat (first | assumption | exact Vc.Ext.refl _ | ((with_reducible apply Vc.Ext.trans); (case k => assumption)) | ((with_reducible apply Vc.Ext.but); (case k => assumption); (case hb => omega)))))) hsm hok (ErV.ext he8 (by (repeat (first | assumption | exact Vc.Ext.refl _ | ((with_reducible apply Vc.Ext.trans); (case k => assumption)) | ((with_reducible apply Vc.Ext.but); (case k => assumption); (case hb => omega))))))).mono ?_; rw [ew]; rintro _ H11 ⟨rfl, hx11⟩; have hz11 := hx11.size); (conv => whnf)) | ((refine (code_any (hg.ext (by (repeat (first | assumption | exact Vc.Ext.refl _ | ((with_reducible apply Vc.Ext.trans); (case k => assumption)) | ((with_reducible apply Vc.Ext.but); (case k => assumption); (case hb => omega)))))) hsm hok (ErV.ext he8 (by (repeat (first | assumption | exact Vc.Ext.refl _ | ((with_reducible apply Vc.Ext.trans); (case k => assumption)) | ((with_reducible apply Vc.Ext.but); (case k => assumption); (case hb => omega))))))).mono ?_; rintro _ H12 ⟨rfl, hx12⟩; have hz12 := hx12.size); (conv => whnf)) | (refine Vc.stp ?_; intros; (conv => whnf)) | (refine Vc.spl ?_ ?_ <;> (intro _; (conv => whnf))))))
    exact ⟨rfl, by (repeat (first | assumption | exact Vc.Ext.refl _ | ((with_reducible apply Vc.Ext.trans); (case k => assumption)) | ((with_reducible apply Vc.Ext.but); (case k => assumption); (case hb => omega))))⟩
namespace missing
set_option maxRecDepth 100000 in
theorem lifted (os : Os) (started : os.Started) (H : Type) (enc : TypeId × Value → H) :
    ReturnsInHanded {} Tryd.checked os 7 .any (fun w args => (Rows.fetchMissingSpec.pre enc Tryd.prog Tryd.f7 Rows.fetchMissingRow.domain false w args ∧ laidMetH Tryd.prog Rows.fetchMissingRow.laid w) ∧ sizedMet enc Tryd.prog Tryd.f7 (OpenSpec.ofChange Rows.fetchMissingSpec) false w args)
      (Rows.fetchMissingSpec.post enc Tryd.prog Tryd.f7 false true false false) := by
  refine returnsInHanded_of_change_and (C := Tryd.checked) (X := fun w _ => laidMetH Tryd.prog Rows.fetchMissingRow.laid w) (fun _ _ _ hh h => h.of_heap hh) own started (by kernel_rfl) Tryd.func7
    (ChangeSpec.witness_shaped (enc := enc) (C := Tryd.checked) (os := os) (X := fun w _ => laidMetH Tryd.prog Rows.fetchMissingRow.laid w) false (witW os) #[.int .u16 0, .int .u8 0] 8 (witW_os os)
      (World.shaped_of_ZipB (by kernel_rfl) (by kernel_rfl)) (by kernel_rfl) (by kernel_rfl) (by kernel_rfl)
      (witW_met os _)) ?_
  intro W base args ds gs before hval0 hW hc _ hL _
  have hval : ∀ (j : Nat) t v, Tryd.f7.params[j]? = some t → args[j]? = some v → Value.okWide Tryd.prog W .any base t v := hval0
  have hW' := hW
  obtain ⟨p, q, hA, hV, _, _, _⟩ := hW
  rw [Tryd.params7] at hA hval
  obtain ⟨v0, v1, d0, d1, p0, p1, rfl, rfl, rfl, h0, h1⟩ := trodAll_two hA
  obtain ⟨n0, rfl, rfl, rfl, w0⟩ := open_int rfl (hval 0 _ v0 rfl rfl) h0
  obtain ⟨n1, rfl, rfl, rfl, w1⟩ := open_int rfl (hval 1 _ v1 rfl rfl) h1
  exact law_calls (tb := 4) rfl (missing_any n0 n1 W.heap (glb_of_laid hL) (bounds_u16 w0) (bounds_u8 w1)) hW' rfl (by obtain ⟨rfl, rfl⟩ := trodVars_none hV; rfl) rfl rfl laid_out (by kernel_rfl)
theorem over : Rows.FetchMissingSaid :=
  OpenClaim.holds_of_wide 7 Tryd.f7 rfl rfl rfl rfl rfl rfl rfl ⟨rfl, rfl, rfl, rfl, rfl⟩ rfl rfl rfl rfl rfl (by kernel_rfl) Tryd.func7 (by kernel_rfl)
    (of_decide_eq_true (by kernel_rfl)) (by unfold Func.isWrapper; first | (rw [if_pos (by decide +kernel)]; kernel_rfl) | (rw [if_neg (by decide +kernel)]; exact ⟨rfl, rfl⟩))
    (fun os started H enc _ => lifted os started H enc)
end missing
theorem missing_holds : Rows.FetchMissingCardSaid :=
  Claim7.holds_tied_plain_at .later [] [.data, .data, .data, .handle] true (true, "ec022585ead264ebfa090ea5a5077dc4c409f371d29c801cbacd222ad9e17bdd") true missing.over (fun _ h => by cases h) (by kernel_rfl) (fun _ h => by cases h) fetchMissing_row_tie rfl ⟨rfl, rfl⟩ (by kernel_rfl) rfl
    (fun f fn hf hfn => by
      obtain rfl : f = 7 := Option.some.inj ((show Tryd.prog.funcNamed Tryd.f7.name = some 7 by kernel_rfl).symm.trans hf) |>.symm
      obtain rfl : fn = Tryd.f7 := (Option.some.inj (Tryd.func7.symm.trans hfn)).symm
      exact ⟨by kernel_rfl, fun j t ht => by
        rw [Tryd.params7] at ht
        have hm : t ∈ [52, 5] := by simpa using Array.mem_of_getElem? ht
        have hall : ([52, 5].all fun u => !Tryd.prog.wantsStandIn u) = true := by kernel_rfl
        exact (show Tryd.prog.wantsStandIn t = false by simpa using List.all_eq_true.1 hall t hm)⟩)
    (by kernel_rfl)

end Go.Proofs.YtlgcfcdmldlefaaDoor
