import Derived.Test.YtihopeogaeinhaaGreatDoorPe
set_option linter.unusedVariables false
set_option linter.unusedSimpArgs false
set_option maxRecDepth 100000
/- Trees of files, plain: one path told under another. -/
namespace Go.Tre
open Go.Pth Go.Scr
open Go.Vc (mget mput mdel mget_put mget_mem mget_of_mem mget_none)
def movedF (A : Tr) (p q : Txt) : Tr := (A.filter fun x => withinF x.1 p).map fun x => (q ++ x.1.drop p.length, x.2)
def badM (l : Tr) : Bool := l.any fun x => (cleanF x.1).2 != 0
def putsF (A : Tr) (l : Tr) : Tr := l.foldl (fun A x => putF A x.1 x.2) A
def restF (A : Tr) (p : Txt) (stays : Bool) : Tr := if stays = true then A else A.filter fun x => !withinF x.1 p
def twoP (A : Tr) (p q : Txt) (stays : Bool) : Tr × Nat :=
  if p ≠ [] ∧ mget A p = none then (A, 52)
  else if p = [] ∨ withinF q p = true then (A, 54)
  else if q = [] ∨ (mget A q).isSome = true then (A, 53)
  else if fileF A q = true then (A, 54)
  else if badM (movedF A p q) = true then (A, 50)
  else if 500 < A.length + ((lackF A q).length + if stays = true then (movedF A p q).length else 0) ∨ 1048576 < sizeT A + (if stays = true then sizeT (movedF A p q) else 0) then (A, 55)
  else (putsF (makeF (restF A p stays) (lackF A q)) (movedF A p q), 0)
def twoF (A : Tr) (s t : Txt) (stays : Bool) : Tr × Nat :=
  if (cleanF s).2 = 0 then (if (cleanF t).2 = 0 then twoP A (cleanF s).1 (cleanF t).1 stays else (A, (cleanF t).2)) else (A, (cleanF s).2)
theorem mget_putsF (k : Txt) : ∀ (l A : Tr), (l.map (·.1)).Nodup → mget (putsF A l) k = match mget l k with
    | some n => some n
    | none => mget A k
  | [], A, _ => rfl
  | x :: l, A, h => by
    rw [List.map_cons, List.nodup_cons] at h
    show mget (putsF (putF A x.1 x.2) l) k = _
    rw [mget_putsF k l _ h.2, mget_putF]
    simp only [mget]
    by_cases hk : k = x.1
    · have hn : mget l k = none := by rw [mget_none, hk]; exact h.1
      rw [hn, if_pos hk, if_pos hk]
    · rw [if_neg hk, if_neg hk]
theorem putsF_sorted : ∀ (l : Tr) {A : Tr}, Sorted A → Sorted (putsF A l)
  | [], _, h => h
  | x :: l, _, h => putsF_sorted l (putF_sorted h _ _)
theorem putsF_cnt : ∀ (l : Tr) {A : Tr}, Sorted A → (l.map (·.1)).Nodup → (∀ x ∈ l, mget A x.1 = none) → (putsF A l).length = A.length + l.length ∧ sizeT (putsF A l) = sizeT A + sizeT l
  | [], _, _, _, _ => ⟨rfl, rfl⟩
  | x :: l, A, h, hn, hl => by
    rw [List.map_cons, List.nodup_cons] at hn
    have hx := hl x (by simp)
    have e1 : ∀ (y : Txt × Node) (m : Tr), sizeT (y :: m) = y.2.2.length + sizeT m := fun y m => by simp [sizeT]
    have h1 := putF_len h x.1 x.2
    have h2 := putF_size h x.1 x.2
    rw [if_pos hx] at h1
    have h3 : oldF A x.1 = 0 := by unfold oldF; rw [hx]
    obtain ⟨g1, g2⟩ := putsF_cnt l (putF_sorted h x.1 x.2) hn.2 fun y hy => by
      rw [mget_putF, if_neg fun e => hn.1 (by rw [← e]; exact List.mem_map_of_mem hy)]; exact hl y (by simp [hy])
    show (putsF (putF A x.1 x.2) l).length = _ ∧ sizeT (putsF (putF A x.1 x.2) l) = _
    rw [g1, g2, h1, e1, List.length_cons]
    omega
/-- what is below a path, and where it goes -/
structure Goes (A : Tr) (p q : Txt) : Prop where
  nodup : ((movedF A p q).map (·.1)).Nodup
  keys : ∀ x ∈ movedF A p q, ∃ k m r, p = glue k ∧ q = glue m ∧ CleanL (k ++ r) ∧ (∀ y ∈ m ++ r, GoodP y) ∧ x.1 = glue (m ++ r) ∧ mget A (glue (k ++ r)) = some x.2
theorem goes {A : Tr} (hA : Okay A) {p q : Txt} (hp : CleanP p) (hq : CleanP q) (hpn : p ≠ []) (hqn : q ≠ []) : Goes A p q := by
  obtain ⟨k, rfl, hk⟩ := hp
  obtain ⟨m, rfl, hm⟩ := hq
  have hkn : k ≠ [] := by rintro rfl; exact hpn rfl
  have hmn : m ≠ [] := by rintro rfl; exact hqn rfl
  have key : ∀ y ∈ A, withinF y.1 (glue k) = true → ∃ r, y.1 = glue (k ++ r) ∧ CleanL (k ++ r) := by
    intro y hy hw
    obtain ⟨⟨l, e, hl⟩, _⟩ := hA.clean y.1 y.2 (mget_of_mem hA.sorted.nodup hy)
    rw [e] at hw
    obtain ⟨r, rfl⟩ := (Pth.within_iff hl.good hk.good).1 hw
    exact ⟨r, e, hl⟩
  have gm : ∀ {r : List Txt}, CleanL (k ++ r) → ∀ y ∈ m ++ r, GoodP y := fun {r} h y hy => (List.mem_append.1 hy).elim (hm.good y) fun hy => h.good y (by simp [hy])
  refine ⟨?_, fun x hx => ?_⟩
  · unfold movedF
    rw [List.map_map]
    unfold List.Nodup
    rw [List.pairwise_map]
    refine List.Pairwise.imp_of_mem ?_ (List.Pairwise.filter (fun x : Txt × Node => withinF x.1 (glue k)) (List.pairwise_map.1 hA.sorted.nodup))
    intro a b ha hb hne e
    rw [List.mem_filter] at ha hb
    obtain ⟨r, ea, hra⟩ := key a ha.1 ha.2
    obtain ⟨s, eb, hrb⟩ := key b hb.1 hb.2
    have e' : glue m ++ a.1.drop (glue k).length = glue m ++ b.1.drop (glue k).length := e
    rw [ea, eb, glue_move hkn hmn, glue_move hkn hmn] at e'
    have := List.append_cancel_left (glue_inj (gm hra) (gm hrb) e')
    exact hne (by rw [ea, eb, this])
  · unfold movedF at hx
    obtain ⟨y, hy, rfl⟩ := List.mem_map.1 hx
    rw [List.mem_filter] at hy
    obtain ⟨r, ea, hra⟩ := key y hy.1 hy.2
    refine ⟨k, m, r, rfl, rfl, hra, gm hra, ?_, ?_⟩
    · show glue m ++ y.1.drop (glue k).length = _
      rw [ea, glue_move hkn hmn]
    · rw [← ea]; exact mget_of_mem hA.sorted.nodup hy.1
/-- nothing stands below a path that is not there -/
theorem below_none {A : Tr} (hA : Okay A) {m r : List Txt} (hg : ∀ y ∈ m ++ r, GoodP y) (hmn : m ≠ []) (h : mget A (glue m) = none) : mget A (glue (m ++ r)) = none := by
  by_cases hr : r = []
  · subst hr; rw [List.append_nil]; exact h
  · cases hx : mget A (glue (m ++ r)) with
    | none => rfl
    | some n =>
      have hd : glue m ∈ pars (glue (m ++ r)) := (mem_pars hg).2 ⟨m, List.prefix_append _ _, hmn, by rw [List.length_append]; have := List.length_pos_iff.2 hr; omega, rfl⟩
      obtain ⟨t, ht⟩ := hA.above _ n hx _ hd
      rw [h] at ht; cases ht
/-- neither what lacks nor what is moved stands below what it is moved from -/
structure Apart (A : Tr) (p q : Txt) : Prop where
  lack : ∀ d ∈ lackF A q, withinF d p = false
  moved : ∀ x ∈ movedF A p q, withinF x.1 p = false
  fresh : ∀ x ∈ movedF A p q, mget A x.1 = none
  nlack : ∀ x ∈ movedF A p q, x.1 ∉ lackF A q
theorem apart {A : Tr} (hA : Okay A) {p q : Txt} (hp : CleanP p) (hq : CleanP q) (hpn : p ≠ []) (hqn : q ≠ []) (hpe : mget A p ≠ none) (hqe : mget A q = none) (hw : withinF q p = false) : Apart A p q := by
  have hG := goes hA hp hq hpn hqn
  obtain ⟨k, rfl, hk⟩ := hp
  obtain ⟨m, rfl, hm⟩ := hq
  have hkn : k ≠ [] := by rintro rfl; exact hpn rfl
  have hmn : m ≠ [] := by rintro rfl; exact hqn rfl
  have hnp : ¬ k <+: m := fun h => by rw [(Pth.within_iff hm.good hk.good).2 h] at hw; cases hw
  refine ⟨fun d hd => ?_, fun x hx => ?_, fun x hx => ?_, fun x hx hl => ?_⟩
  · obtain ⟨h1, _⟩ := lack_none hd
    obtain ⟨j, hj, _, _, rfl⟩ := (mem_pars hm.good).1 h1
    cases hwd : withinF (glue j) (glue k) with
    | false => rfl
    | true => exact absurd (((Pth.within_iff (good_pre hm hj).good hk.good).1 hwd).trans hj) hnp
  · obtain ⟨k', m', r, ek, em, hkr, hmr, e, _⟩ := hG.keys x hx
    have hgk' : ∀ y ∈ k', GoodP y := fun y hy => hkr.good y (by simp [hy])
    have hgm' : ∀ y ∈ m', GoodP y := fun y hy => hmr y (by simp [hy])
    have := glue_inj hk.good hgk' ek; subst this
    have := glue_inj hm.good hgm' em; subst this
    cases hwd : withinF x.1 (glue k) with
    | false => rfl
    | true =>
      rw [e] at hwd
      have h1 := (Pth.within_iff hmr hk.good).1 hwd
      rcases List.prefix_or_prefix_of_prefix h1 (List.prefix_append m r) with h2 | h2
      · exact absurd h2 hnp
      · obtain ⟨s, rfl⟩ := h2
        exact absurd (below_none hA hk.good hmn hqe) hpe
  · obtain ⟨k', m', r, ek, em, hkr, hmr, e, _⟩ := hG.keys x hx
    have hgm' : ∀ y ∈ m', GoodP y := fun y hy => hmr y (by simp [hy])
    have := glue_inj hm.good hgm' em; subst this
    rw [e]; exact below_none hA hmr hmn hqe
  · obtain ⟨k', m', r, ek, em, hkr, hmr, e, _⟩ := hG.keys x hx
    have hgm' : ∀ y ∈ m', GoodP y := fun y hy => hmr y (by simp [hy])
    have := glue_inj hm.good hgm' em; subst this
    obtain ⟨j, hj, _, hjl, e2⟩ := (mem_pars hm.good).1 (lack_none hl).1
    rw [e] at e2
    have := glue_inj hmr (good_pre hm hj).good e2
    have := congrArg List.length this
    rw [List.length_append] at this; omega
end Go.Tre
