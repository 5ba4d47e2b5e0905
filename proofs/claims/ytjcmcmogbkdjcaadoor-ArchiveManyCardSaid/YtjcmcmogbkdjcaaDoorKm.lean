import Derived.Test.YtjcmcmogbkdjcaaDoorKe
import Derived.Test.YtjcmcmogbkdjcaaDoorKf
import Derived.Test.YtjcmcmogbkdjcaaDoorKg
import Derived.Test.YtjcmcmogbkdjcaaDoorKl
set_option linter.unusedVariables false
set_option linter.unusedSimpArgs false
set_option maxRecDepth 100000
/- The tree of a tree's files is that tree. -/
namespace Go.Tre
open Go.Pth Go.Scr
open Go.Vc (mget mput mdel mget_put mget_mem mget_of_mem mget_none)
theorem putF_last : ∀ {A : Tr} {p : Txt} {n : Node}, Sorted (A ++ [(p, n)]) → putF A p n = A ++ [(p, n)]
  | [], p, n, _ => rfl
  | x :: l, p, n, h => by
    have h1 := List.pairwise_cons.1 h
    have hx := h1.1 (p, n) (by simp)
    simp only [putF]
    rw [if_pos hx, putF_last h1.2]; rfl
theorem pre_lt : ∀ {a b : Txt}, a <+: b → a ≠ b → Op.bytesLess a b = true := by
  intro a b h hne
  obtain ⟨c, rfl⟩ := h
  induction a with
  | nil => cases c with
    | nil => exact absurd rfl hne
    | cons x c => rfl
  | cons x a ih =>
    have := ih (fun e => hne (by simpa using e))
    show Op.bytesLess (x :: a) (x :: (a ++ c)) = true
    unfold Op.bytesLess
    simp [this]
theorem glue_pre {k l : List Txt} (h : k <+: l) : glue k <+: glue l := by
  obtain ⟨r, rfl⟩ := h
  have : ∀ (k : List Txt), glue k <+: glue (k ++ r) := by
    intro k
    induction k with
    | nil => exact ⟨glue r, rfl⟩
    | cons x k ih =>
      cases k with
      | nil =>
        cases r with
        | nil => exact ⟨[], by simp⟩
        | cons y r => exact ⟨47 :: glue (y :: r), rfl⟩
      | cons y k =>
        obtain ⟨t, ht⟩ := ih
        refine ⟨t, ?_⟩
        show (x ++ 47 :: glue (y :: k)) ++ t = x ++ 47 :: glue (y :: k ++ r)
        rw [← ht]; simp
  exact this k
theorem par_lt {p d : Txt} (hp : CleanP p) (hd : d ∈ pars p) : Op.bytesLess d p = true := by
  obtain ⟨l, rfl, hl⟩ := hp
  obtain ⟨k, hk, hkn, hkl, rfl⟩ := (mem_pars hl.good).1 hd
  refine pre_lt (glue_pre hk) fun e => ?_
  have := glue_lt hl.good hk hkn hkl
  rw [e] at this; omega
theorem of_step {A : Tr} (hA : Okay A) (i : Nat) {x : Txt × Node} (hx : A[i]? = some x) : stepF (A.take i) x.1 x = (A.take (i + 1), 0) ∧ cleanF x.1 = (x.1, 0) ∧ dirF (A.take i) x.1 = false := by
  have hi := (List.getElem?_eq_some_iff.1 hx).1
  have hxm : x ∈ A := List.mem_of_getElem? hx
  have hg := mget_of_mem hA.sorted.nodup hxm
  obtain ⟨hcp, hne⟩ := hA.clean x.1 x.2 hg
  have hal := hA.above x.1 x.2 hg
  have hfi := hA.file x.1 x.2 hg
  have e1 : A.take (i + 1) = A.take i ++ [x] := by rw [List.take_add_one, hx]; rfl
  have hs : Sorted (A.take i ++ [x]) := by rw [← e1]; exact List.Pairwise.sublist (List.take_sublist _ _) hA.sorted
  have hs0 : Sorted (A.take i) := List.Pairwise.sublist (List.take_sublist _ _) hA.sorted
  have hno : mget (A.take i) x.1 = none := by
    rw [mget_none]
    intro h
    obtain ⟨y, hy, e⟩ := List.mem_map.1 h
    have := (List.pairwise_append.1 hs).2.2 y hy x (by simp)
    rw [e, lt_irrefl] at this; cases this
  have hpar : ∀ d ∈ pars x.1, ∃ t, mget (A.take i) d = some (true, t) := by
    intro d hd
    obtain ⟨t, ht⟩ := hal d hd
    refine ⟨t, mget_of_mem hs0.nodup ?_⟩
    have hm := mget_mem ht
    obtain ⟨j, hj⟩ := List.mem_iff_getElem?.1 hm
    have hji : j < i := by
      rcases Nat.lt_trichotomy j i with h | h | h
      · exact h
      · subst h
        rw [hj] at hx
        have := par_lt hcp hd
        rw [← congrArg (fun o => o.1) (Option.some.inj hx)] at this
        rw [lt_irrefl] at this; cases this
      · have hlt := par_lt hcp hd
        have := List.pairwise_iff_getElem.1 hA.sorted i j hi (List.getElem?_eq_some_iff.1 hj).1 h
        rw [(List.getElem?_eq_some_iff.1 hx).2, (List.getElem?_eq_some_iff.1 hj).2] at this
        rw [lt_asymm this] at hlt; cases hlt
    exact List.mem_of_getElem? (by rw [List.getElem?_take, if_pos hji]; exact hj)
  have hdir : dirF (A.take i) x.1 = false := by
    unfold dirF; rw [hno]; simpa using hne
  have hfile : fileF (A.take i) x.1 = false := by
    unfold fileF
    rw [List.any_eq_false]
    intro d hd
    obtain ⟨t, ht⟩ := hpar d hd
    rw [ht]; simp
  have hlack : lackF (A.take i) x.1 = [] := by
    unfold lackF
    rw [List.filter_eq_nil_iff]
    intro d hd
    obtain ⟨t, ht⟩ := hpar d hd
    rw [ht]; simp
  have hcnt := hA.count
  have hl : (A.take i).length = i := by rw [List.length_take]; omega
  have hsz : sizeT (A.take i) + x.2.2.length ≤ sizeT A := by
    have : sizeT (A.take (i + 1)) ≤ sizeT A := by
      conv => rhs; rw [← List.take_append_drop (i + 1) A]
      simp only [sizeT, List.map_append, List.sum_append_nat]; exact Nat.le_add_right _ _
    rw [e1] at this
    simp only [sizeT, List.map_append, List.sum_append_nat, List.map_cons, List.map_nil, List.sum_cons, List.sum_nil] at this ⊢
    omega
  have hAs := hA.size
  refine ⟨?_, hcp.id, hdir⟩
  unfold stepF
  by_cases hd : x.2.1 = true
  · rw [if_pos hd]
    unfold mkdirP
    rw [if_neg (by rw [hdir]; simp), if_neg (by rw [hno, hfile]; simp), hlack, if_neg (by simp; omega), e1]
    show (putF (A.take i) x.1 (true, []), 0) = _
    have : x.2 = (true, []) := Prod.ext hd (hfi.2 hd)
    rw [← this]
    congr 1
    exact putF_last hs
  · have hd : x.2.1 = false := by simpa using hd
    rw [hd, if_neg (by simp)]
    unfold writeP
    have ho : oldF (A.take i) x.1 = 0 := by unfold oldF; rw [hno]
    have hm : moreF (A.take i) x.1 = 1 := by unfold moreF; rw [hno, hlack]; simp
    rw [hdir, hfile, hlack, ho, hm, if_neg (by simp), if_neg (by omega), e1]
    show (putF (A.take i) x.1 (false, x.2.2), 0) = _
    have : x.2 = (false, x.2.2) := Prod.ext hd rfl
    rw [← this]
    congr 1
    exact putF_last hs
theorem of_id {A : Tr} (hA : Okay A) : ofF A = (some A, 0) := by
  have key : ∀ m i, m + i = A.length → ofGo (A.take i) ((A.take i).map (·.1)) (A.drop i) = (some A, 0) := by
    intro m
    induction m with
    | zero => intro i hi; rw [List.drop_of_length_le (by omega), List.take_of_length_le (by omega)]; rfl
    | succ m ih =>
      intro i hi
      obtain ⟨x, hx⟩ : ∃ x, A[i]? = some x := ⟨_, List.getElem?_eq_getElem (by omega)⟩
      have hd : A.drop i = x :: A.drop (i + 1) := by
        rw [List.drop_eq_getElem_cons (by omega), (List.getElem?_eq_some_iff.1 hx).2]
      obtain ⟨h1, h2, h3⟩ := of_step hA i hx
      have e1 : A.take (i + 1) = A.take i ++ [x] := by rw [List.take_add_one, hx]; rfl
      have hns : x.1 ∉ (A.take i).map (·.1) := by
        intro h
        have hs : Sorted (A.take i ++ [x]) := by rw [← e1]; exact List.Pairwise.sublist (List.take_sublist _ _) hA.sorted
        obtain ⟨y, hy, e⟩ := List.mem_map.1 h
        have := (List.pairwise_append.1 hs).2.2 y hy x (by simp)
        rw [e, lt_irrefl] at this; cases this
      rw [hd, ofGo, h2, if_neg (by simp), if_neg (by rw [not_or]; exact ⟨hns, fun e => by rw [h3] at e; cases e.2⟩)]
      show (if (stepF (A.take i) x.1 x).2 ≠ 0 then _ else _) = _
      rw [h1, if_neg (by simp)]
      have := ih (i + 1) (by omega)
      rw [e1, List.map_append] at this
      rw [e1]; exact this
  have := key A.length 0 (by omega)
  show ofGo [] [] A = _
  simpa using this
end Go.Tre
/- TreeOf: the walk. -/
namespace Go.Proofs.YtjcmcmogbkdjcaaDoor
open Go Go.Vc Go.Scr Go.Pth Go.Tre
def lightF (L : Tr) : Bool := decide (L.length ≤ 20) && L.all fun f => decide (f.1.length ≤ 300) && decide (f.2.2.length ≤ 500)
theorem light_iff (L : Tr) : lightF L = true ↔ L.length ≤ 20 ∧ ∀ f ∈ L, f.1.length ≤ 300 ∧ f.2.2.length ≤ 500 := by
  unfold lightF
  simp [List.all_eq_true]
theorem of_code {L : Tr} {r : Option Tr × Nat} (h : ofF L = r) : (r.1 = none ↔ r.2 ≠ 0) := by
  have key : ∀ (L A : Tr) (seen : List Txt), ((ofGo A seen L).1 = none ↔ (ofGo A seen L).2 ≠ 0) := by
    intro L
    induction L with
    | nil => intro A seen; rw [ofGo]; simp
    | cons f fs ih =>
      intro A seen
      rw [ofGo]
      split
      · rename_i h; simpa using h
      · split
        · simp
        · split
          · rename_i h; simpa using h
          · exact ih _ _
  rw [← h]; exact key L [] []
end Go.Proofs.YtjcmcmogbkdjcaaDoor
/- Law 13: ArchivePacks, the walk. -/
namespace Go.Proofs.YtjcmcmogbkdjcaaDoor
open Go Go.Vc Go.Scr Go.Pth Go.Tre Go.Arc Go.Sha
theorem ent_light (f : Fi) (h1 : f.1.length ≤ 300) (h2 : f.2.2.length ≤ 500) : (entB f).length ≤ 820 := by
  unfold entB
  simp only [List.length_append, List.length_singleton, numB_len, List.length_take]
  split
  · simp; omega
  · simp [numB_len]; omega
theorem ents_light : ∀ (L : Tr), (∀ f ∈ L, f.1.length ≤ 300 ∧ f.2.2.length ≤ 500) → (L.flatMap entB).length ≤ 820 * L.length
  | [], _ => by simp
  | f :: L, h => by
    have h1 := ent_light f (h f (by simp)).1 (h f (by simp)).2
    have h2 := ents_light L fun g hg => h g (by simp [hg])
    rw [List.flatMap_cons, List.length_append, List.length_cons]
    omega
theorem pack_light (L : Tr) (h : lightF L = true) : (packF L).length ≤ 17000 := by
  obtain ⟨h20, hall⟩ := (light_iff L).1 h
  have := ents_light L hall
  rw [packF_eq, List.length_append, List.length_append, List.length_singleton]
  show 4 + _ ≤ _
  omega
end Go.Proofs.YtjcmcmogbkdjcaaDoor
