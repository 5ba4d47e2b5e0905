import Derived.Test.YtlgcfcdmldlefaaDoorTw
set_option linter.unusedVariables false
set_option linter.unusedSimpArgs false
set_option maxRecDepth 100000
/- Build scripts, the statements: the chapter's example. -/
namespace Go.Scr
def kn1 : Txt := [119, 114, 105, 116, 101, 32, 111, 117, 116, 32, 34, 120, 34, 10, 105, 102, 32, 101, 120, 105, 115, 116, 115, 32, 111, 117, 116, 10, 101, 110, 100, 10]
def kn2 : Txt := [119, 114, 105, 116, 101, 32, 111, 117, 116, 10]
def kn3 : Txt := [97, 32, 34, 98, 32, 99, 34]
def knA : Ln := ⟨1, [111, 117, 116], [], [120], 0, false⟩
def knL : List Ln := [knA, ⟨7, [111, 117, 116], [], [], 0, false⟩, ⟨10, [], [], [], 0, false⟩]
theorem kn1_parse : parseF kn1 = (some knL, 0) := by decide +kernel
theorem kn2_parse : parseF kn2 = (none, 1) := by decide +kernel
theorem kn3_words : wordsF kn3 = some [[97], [34, 98, 32, 99]] := by decide +kernel
theorem knL_text : textL 0 knL = kn1 := by decide +kernel
theorem knL_flat : flatL 0 knL = true := by decide +kernel
end Go.Scr
namespace Go.Proofs.YtlgcfcdmldlefaaDoor
open Go Go.Vc Go.Scr
theorem SemH.load_f {H H0 : Heap} {t : TypeId} {b o k : Nat} {x : Ln} {v : Value} {K : Value → Heap → Prop} (hc : ∀ k v, (lnC x)[k]? = some v → hcell H0 ⟨b, o + k, none⟩ = some v) (ht : aggB Tryd.prog t = some false) (hv : nth (lnC x).toList k = some v) (he : Ext H0 H) (hk : K v H) : SemH Tryd.prog (Instr.loadAt t (.pointer (some ⟨b, o + k, none⟩))) H K :=
  Go.Vc.SemH.load ht (hcell_keep (hc k v (by rw [nth_eq] at hv; simpa using hv)) he id) hk
theorem SemH.load_f0 {H H0 : Heap} {t : TypeId} {b o : Nat} {x : Ln} {v : Value} {K : Value → Heap → Prop} (hc : ∀ k v, (lnC x)[k]? = some v → hcell H0 ⟨b, o + k, none⟩ = some v) (ht : aggB Tryd.prog t = some false) (hv : nth (lnC x).toList 0 = some v) (he : Ext H0 H) (hk : K v H) : SemH Tryd.prog (Instr.loadAt t (.pointer (some ⟨b, o, none⟩))) H K :=
  SemH.load_f (k := 0) hc ht hv he hk
set_option maxHeartbeats 4000000 in
theorem known_any (H : Heap) : CallH Tryd.prog 33 [] H fun v H' => v = .bool true ∧ Ext H H' := by
  have c1 := fun H => parse_any kn1 (by decide) H
  have c2 := fun H => parse_any kn2 (by decide) H
  have c3 := fun H => words_any kn3 (by decide) H
  have c5 := fun a n cap H hr hn hm => text_any' knL a n cap H hr hn hm knL_flat (by rw [knL_text]; decide)
  rw [knL_text] at c5
  rw [kn1_parse] at c1
  rw [kn2_parse] at c2
  rw [kn3_words] at c3
  have htx : ((mkS knA.tx).toList == (⟨#[120]⟩ : ByteArray).toList) = true := str_self (mkS [120])
  refine Vc.CallH.body Tryd.func33 Tryd.call33 rfl (by decide +kernel) rfl ?_
  ((conv => whnf); repeat (any_goals (first | ((refine (c1 _).mono ?_; rintro _ H1 ⟨⟨a1, k1, rfl, ho1⟩, hx1⟩; have hz1 := hx1.size; have hr1 := ho1.row); (conv => whnf)) | ((refine (c2 _).mono ?_; rintro _ H2 ⟨rfl, hx2⟩; have hz2 := hx2.size); (conv => whnf)) | ((refine (c3 _).mono ?_; rintro _ H3 ⟨⟨a3, k3, rfl, ho3⟩, hx3⟩; have hz3 := hx3.size; have hr3 := ho3.row); (conv => whnf)) | ((refine IdxA.ln (Row.ext hr1 (by (repeat (first | assumption | exact Vc.Ext.refl _ | ((with_reducible apply Vc.Ext.trans); (case k => assumption)) | ((with_reducible apply Vc.Ext.but); (case k => assumption); (case hb => omega)))))) rfl 0 knA rfl rfl ?_; intro _ _ _); (conv => whnf)) | (((with_reducible apply SemH.load_f0); (focus (assumption)); (focus (rfl)); (focus (rfl)); (focus ((repeat (first | assumption | exact Vc.Ext.refl _ | ((with_reducible apply Vc.Ext.trans); (case k => assumption)) | ((with_reducible apply Vc.Ext.but); (case k => assumption); (case hb => omega)))))); (focus ((conv => whnf)))); (conv => whnf)) | (((with_reducible apply SemH.load_f); (focus (assumption)); (focus (rfl)); (focus (rfl)); (focus ((repeat (first | assumption | exact Vc.Ext.refl _ | ((with_reducible apply Vc.Ext.trans); (case k => assumption)) | ((with_reducible apply Vc.Ext.but); (case k => assumption); (case hb => omega)))))); (focus ((conv => whnf)))); (conv => whnf)) | ((refine (strings_any [[97], [34, 98, 32, 99]] [[97], [34, 98, 32, 99]] _ _ _ _ _ _ _ (Row.ext hr3 (by (repeat (first | assumption | exact Vc.Ext.refl _ | ((with_reducible apply Vc.Ext.trans); (case k => assumption)) | ((with_reducible apply Vc.Ext.but); (case k => assumption); (case hb => omega)))))) (Blk.row (c := strs [[97], [34, 98, 32, 99]]) (by (repeat (first | assumption | ((with_reducible apply Vc.Blk.ext); (case k => assumption)) | ((with_reducible apply Vc.Blk.but); (case k => assumption); (case hb => omega)))))) rfl rfl (by decide) (by decide)).mono ?_; rintro _ _ ⟨rfl, rfl⟩; rw [decide_eq_true rfl]); (conv => whnf)) | ((refine (c5 _ _ _ _ (Row.ext hr1 (by (repeat (first | assumption | exact Vc.Ext.refl _ | ((with_reducible apply Vc.Ext.trans); (case k => assumption)) | ((with_reducible apply Vc.Ext.but); (case k => assumption); (case hb => omega)))))) rfl (by decide)).mono ?_; rintro _ H5 ⟨rfl, hx5⟩; have hz5 := hx5.size); (conv => whnf)) | (refine Vc.stp ?_; intros; (conv => whnf)) | (refine Vc.spl ?_ ?_ <;> (intro _; (conv => whnf))))))
  exact ⟨by show Value.bool ((mkS kn1).toList == (mkS kn1).toList) = _; rw [str_self], by (repeat (first | assumption | exact Vc.Ext.refl _ | ((with_reducible apply Vc.Ext.trans); (case k => assumption)) | ((with_reducible apply Vc.Ext.but); (case k => assumption); (case hb => omega))))⟩
end Go.Proofs.YtlgcfcdmldlefaaDoor
