import Derived.Test.YtihopeogaeinhaaGreatDoorPd
set_option linter.unusedVariables false
set_option linter.unusedSimpArgs false
set_option maxRecDepth 100000
/- Trees of files, plain: what an operation makes of a tree is a tree. -/
namespace Go.Tre
open Go.Pth Go.Scr
open Go.Vc (mget mput mdel mget_put mget_mem mget_of_mem mget_none)
theorem mem_pars {l : List Txt} (h : ∀ x ∈ l, GoodP x) {d : Txt} : d ∈ pars (glue l) ↔ ∃ k, k <+: l ∧ k ≠ [] ∧ k.length < l.length ∧ d = glue k := by
  unfold pars
  rw [parts_glue h, List.mem_map]
  constructor
  · rintro ⟨i, hi, rfl⟩
    rw [List.mem_range] at hi
    refine ⟨l.take (i + 1), List.take_prefix _ _, ?_, ?_, rfl⟩
    · exact List.length_pos_iff.1 (by rw [List.length_take]; omega)
    · rw [List.length_take]; omega
  · rintro ⟨k, hk, hn, hl, rfl⟩
    have hpos := List.length_pos_iff.2 hn
    refine ⟨k.length - 1, List.mem_range.2 (by omega), ?_⟩
    rw [show k.length - 1 + 1 = k.length by omega, ← List.prefix_iff_eq_take.1 hk]
theorem good_pre {l k : List Txt} (h : CleanL l) (hk : k <+: l) : CleanL k := by
  rw [List.prefix_iff_eq_take.1 hk]; exact h.take _
structure Par (p d : Txt) : Prop where
  clean : CleanP d
  ne : d ≠ []
  np : d ≠ p
  sub : ∀ e ∈ pars d, e ∈ pars p
  len : d.length < p.length
theorem glue_lt {k l : List Txt} (h : ∀ x ∈ l, GoodP x) (hk : k <+: l) (hn : k ≠ []) (hl : k.length < l.length) : (glue k).length < (glue l).length := by
  obtain ⟨r, rfl⟩ := hk
  have hr : r ≠ [] := by rintro rfl; simp at hl
  rw [glue_app hn hr]; simp
theorem clean_par {p d : Txt} (h : CleanP p) (hd : d ∈ pars p) : Par p d := by
  obtain ⟨l, rfl, hl⟩ := h
  obtain ⟨k, hk, hn, hlt, rfl⟩ := (mem_pars hl.good).1 hd
  have hc := good_pre hl hk
  refine ⟨⟨k, rfl, hc⟩, glue_nil hc.good hn, fun e => ?_, fun e he => ?_, glue_lt hl.good hk hn hlt⟩
  · have := glue_inj hc.good hl.good e; rw [this] at hlt; omega
  · obtain ⟨j, hj, hjn, hjl, rfl⟩ := (mem_pars hc.good).1 he
    exact (mem_pars hl.good).2 ⟨j, hj.trans hk, hjn, by omega, rfl⟩
theorem pars_nodup {p : Txt} (h : CleanP p) : (pars p).Nodup := by
  obtain ⟨l, rfl, hl⟩ := h
  unfold pars
  rw [parts_glue hl.good]
  unfold List.Nodup
  rw [List.pairwise_map]
  refine List.Pairwise.imp_of_mem ?_ (List.nodup_range (n := l.length - 1))
  intro a b ha hb hne e
  rw [List.mem_range] at ha hb
  have := congrArg List.length (glue_inj (hl.take _).good (hl.take _).good e)
  rw [List.length_take, List.length_take] at this
  omega
theorem lack_none {A : Tr} {p d : Txt} (h : d ∈ lackF A p) : d ∈ pars p ∧ mget A d = none := by
  unfold lackF at h; rw [List.mem_filter] at h; exact ⟨h.1, by simpa using h.2⟩
theorem dir_above {A : Tr} {p d : Txt} (hf : fileF A p = false) (hd : d ∈ pars p) : mget A d = none ∨ ∃ t, mget A d = some (true, t) := by
  unfold fileF at hf
  rw [List.any_eq_false] at hf
  have := hf d hd
  cases hg : mget A d with
  | none => exact .inl rfl
  | some n => rw [hg] at this; obtain ⟨x, t⟩ := n; right; cases x; exact absurd rfl this; exact ⟨t, rfl⟩
theorem lack_nil {A : Tr} (hA : Okay A) {p : Txt} {n : Node} (h : mget A p = some n) : lackF A p = [] ∧ fileF A p = false := by
  have hab := hA.above p n h
  constructor
  · unfold lackF; rw [List.filter_eq_nil_iff]; intro d hd; obtain ⟨t, ht⟩ := hab d hd; simp [ht]
  · unfold fileF; rw [List.any_eq_false]; intro d hd; obtain ⟨t, ht⟩ := hab d hd; simp [ht]
theorem Okay.nil : Okay [] := ⟨List.Pairwise.nil, fun k n h => by simp [mget] at h, fun k n h => by simp [mget] at h, by simp [sizeT], by simp, fun k n h => by simp [mget] at h⟩
/-- directories are made that lacked -/
theorem Okay.made {A : Tr} (hA : Okay A) {l : List Txt} (hl : ∀ d ∈ l, mget A d = none ∧ CleanP d ∧ d ≠ [] ∧ ∀ e ∈ pars d, e ∈ l ∨ ∃ t, mget A e = some (true, t)) (hn : l.Nodup) (hc : A.length + l.length ≤ 500) : Okay (makeF A l) := by
  refine ⟨makeF_sorted l hA.sorted, fun k n h => ?_, fun k n h d hd => ?_, by rw [makeF_size hA.sorted fun d hd => (hl d hd).1]; exact hA.size, by rw [makeF_len hA.sorted hn fun d hd => (hl d hd).1]; exact hc, fun k n h => ?_⟩
  · rw [mget_makeF] at h
    split at h
    · rename_i hk; exact ⟨(hl k hk).2.1, (hl k hk).2.2.1⟩
    · exact hA.clean k n h
  · rw [mget_makeF] at h
    rw [mget_makeF]
    split
    · exact ⟨_, rfl⟩
    · rename_i hdl
      split at h
      · rename_i hk
        rcases (hl k hk).2.2.2 d hd with h1 | h1
        · exact absurd h1 hdl
        · exact h1
      · exact hA.above k n h d hd
  · rw [mget_makeF] at h
    split at h
    · cases h; exact ⟨by simp, fun _ => rfl⟩
    · exact hA.file k n h
theorem lack_made {A : Tr} (hA : Okay A) {p : Txt} (hp : CleanP p) (hf : fileF A p = false) : ∀ d ∈ lackF A p, mget A d = none ∧ CleanP d ∧ d ≠ [] ∧ ∀ e ∈ pars d, e ∈ lackF A p ∨ ∃ t, mget A e = some (true, t) := by
  intro d hd
  obtain ⟨h1, h2⟩ := lack_none hd
  have hpar := clean_par hp h1
  refine ⟨h2, hpar.clean, hpar.ne, fun e he => ?_⟩
  have he' := hpar.sub e he
  rcases dir_above hf he' with h | h
  · left; unfold lackF; rw [List.mem_filter]; exact ⟨he', by simp [h]⟩
  · exact .inr h
theorem lack_nodup {A : Tr} {p : Txt} (hp : CleanP p) : (lackF A p).Nodup := (pars_nodup hp).sublist (List.filter_sublist)
/-- one file is put in its place -/
theorem Okay.put {A : Tr} (hA : Okay A) {p b : Txt} (hp : CleanP p) (hn : p ≠ []) (hd : dirF A p = false) (ha : ∀ d ∈ pars p, ∃ t, mget A d = some (true, t)) (hb : b.length ≤ 65536) (hs : sizeT A - oldF A p + b.length ≤ 1048576) (hc : A.length + (if mget A p = none then 1 else 0) ≤ 500) : Okay (putF A p (false, b)) := by
  have hps : sizeT (putF A p (false, b)) + oldF A p = sizeT A + b.length := putF_size hA.sorted p (false, b)
  refine ⟨putF_sorted hA.sorted p _, fun k n h => ?_, fun k n h d hdp => ?_, by omega, by rw [putF_len hA.sorted]; exact hc, fun k n h => ?_⟩
  · rw [mget_putF] at h
    split at h
    · rename_i e; subst e; exact ⟨hp, hn⟩
    · exact hA.clean k n h
  · rw [mget_putF] at h ⊢
    have key : ∃ t, mget A d = some (true, t) := by
      split at h
      · rename_i e; subst e; exact ha d hdp
      · exact hA.above k n h d hdp
    split
    · rename_i e; subst e
      obtain ⟨t, ht⟩ := key
      unfold dirF at hd; rw [ht] at hd; simp at hd
    · exact key
  · rw [mget_putF] at h
    split at h
    · cases h; exact ⟨hb, fun h => by cases h⟩
    · exact hA.file k n h
theorem old_makeF {A : Tr} (h : Sorted A) {l : List Txt} {p : Txt} (hp : p ∉ l) : oldF (makeF A l) p = oldF A p := by unfold oldF; rw [mget_makeF, if_neg hp]
theorem lack_np {A : Tr} {p : Txt} (hp : CleanP p) : p ∉ lackF A p := fun h => (clean_par hp (lack_none h).1).np rfl
theorem Okay.write {A : Tr} (hA : Okay A) {p b : Txt} (hp : CleanP p) : Okay (writeP A p b).1 := by
  unfold writeP
  split
  · exact hA
  · rename_i h1
    split
    · exact hA
    · rename_i h2
      rw [not_or] at h1
      rw [not_or, not_or] at h2
      have hd : dirF A p = false := by simpa using h1.1
      have hf : fileF A p = false := by simpa using h1.2
      have hn : p ≠ [] := by rintro rfl; simp [dirF] at hd
      have hm : moreF A p = (lackF A p).length + (if mget A p = none then 1 else 0) := by
        unfold moreF
        cases hg : mget A p with
        | none => simp
        | some n => simp [(lack_nil hA hg).1]
      have hB := hA.made (lack_made hA hp hf) (lack_nodup hp) (by omega)
      have hlen := makeF_len hA.sorted (lack_nodup (A := A) hp) fun d hd => (lack_none hd).2
      have hsz := makeF_size hA.sorted (l := lackF A p) fun d hd => (lack_none hd).2
      have hnp := lack_np (A := A) hp
      have hgp : mget (makeF A (lackF A p)) p = mget A p := by rw [mget_makeF, if_neg hnp]
      refine hB.put hp hn ?_ (fun d hd => ?_) (by omega) (by rw [hsz, old_makeF hA.sorted hnp]; omega) (by rw [hgp, hlen]; omega)
      · unfold dirF at hd ⊢; rw [hgp]; exact hd
      · rw [mget_makeF]
        split
        · exact ⟨_, rfl⟩
        · rename_i hnl
          rcases dir_above hf hd with h | h
          · exact absurd (by unfold lackF; rw [List.mem_filter]; exact ⟨hd, by simp [h]⟩) hnl
          · exact h
theorem clean_of {s : Txt} (h : (cleanF s).2 = 0) : CleanP (cleanF s).1 := (clean_ok (p := (cleanF s).1) (Prod.ext rfl h)).1
theorem Okay.writeF {A : Tr} (hA : Okay A) (s b : Txt) : Okay (writeF A s b).1 := by
  unfold Tre.writeF
  split
  · rename_i h; exact hA.write (clean_of h)
  · exact hA
theorem Okay.appendF {A : Tr} (hA : Okay A) (s b : Txt) : Okay (appendF A s b).1 := by
  unfold Tre.appendF
  split
  · rename_i h; exact hA.write (clean_of h)
  · exact hA
theorem Okay.mkdir {A : Tr} (hA : Okay A) {p : Txt} (hp : CleanP p) : Okay (mkdirP A p).1 := by
  unfold mkdirP
  split
  · exact hA
  · rename_i h1
    split
    · exact hA
    · rename_i h2
      split
      · exact hA
      · rename_i h3
        rw [not_or] at h2
        have hf : fileF A p = false := by simpa using h2.2
        have hg : mget A p = none := by simpa using h2.1
        have hn : p ≠ [] := by rintro rfl; simp [dirF] at h1
        refine hA.made (fun d hd => ?_) ?_ (by rw [List.length_append]; simpa using h3)
        · have hall : ∀ e ∈ pars p, e ∈ lackF A p ++ [p] ∨ ∃ t, mget A e = some (true, t) := fun e he => by
            rcases dir_above hf he with h | h
            · left; rw [List.mem_append]; left; unfold lackF; rw [List.mem_filter]; exact ⟨he, by simp [h]⟩
            · exact .inr h
          rcases List.mem_append.1 hd with hd | hd
          · obtain ⟨k1, k2, k3, k4⟩ := lack_made hA hp hf d hd
            exact ⟨k1, k2, k3, fun e he => (k4 e he).elim (fun h => .inl (List.mem_append.2 (.inl h))) .inr⟩
          · rw [List.mem_singleton] at hd; subst hd
            exact ⟨hg, hp, hn, hall⟩
        · rw [List.nodup_append]
          exact ⟨lack_nodup hp, by simp, fun a ha b hb e => by rw [List.mem_singleton] at hb; subst hb; subst e; exact lack_np hp ha⟩
theorem Okay.mkdirF {A : Tr} (hA : Okay A) (s : Txt) : Okay (mkdirF A s).1 := by
  unfold Tre.mkdirF
  split
  · rename_i h; exact hA.mkdir (clean_of h)
  · exact hA
theorem mget_filter {A : Tr} (f : Txt → Bool) (k : Txt) : mget (A.filter fun x => f x.1) k = if f k = true then mget A k else none := by
  induction A with
  | nil => simp [mget]
  | cons x l ih =>
    rw [List.filter_cons]
    by_cases hx : f x.1 = true
    · rw [if_pos hx]
      simp only [mget, ih]
      by_cases hk : k = x.1
      · rw [if_pos hk, if_pos (by rw [hk]; exact hx), if_pos hk]
      · rw [if_neg hk, if_neg hk]
    · rw [if_neg hx, ih]
      simp only [mget]
      by_cases hk : k = x.1
      · rw [if_neg (by rw [hk]; exact hx), if_neg (by rw [hk]; exact hx)]
      · simp only [if_neg hk]
theorem filter_size (A : Tr) (f : Txt × Node → Bool) : sizeT (A.filter f) ≤ sizeT A := by
  induction A with
  | nil => exact Nat.le_refl _
  | cons x l ih =>
    have e1 : ∀ (y : Txt × Node) (m : Tr), sizeT (y :: m) = y.2.2.length + sizeT m := fun y m => by simp [sizeT]
    rw [List.filter_cons]
    split
    · rw [e1, e1]; omega
    · rw [e1]; omega
theorem Okay.removed {A : Tr} (hA : Okay A) {p : Txt} (hp : CleanP p) : Okay (A.filter fun x => !withinF x.1 p) := by
  have hg : ∀ k, mget (A.filter fun x => !withinF x.1 p) k = if (!withinF k p) = true then mget A k else none := mget_filter fun x => !withinF x p
  refine ⟨hA.sorted.sublist List.filter_sublist, fun k n h => ?_, fun k n h d hd => ?_, Nat.le_trans (filter_size _ _) hA.size, Nat.le_trans (List.length_filter_le _ _) hA.count, fun k n h => ?_⟩
  · rw [hg] at h; split at h
    · exact hA.clean k n h
    · cases h
  · rw [hg] at h ⊢
    split at h
    · rename_i hk
      obtain ⟨t, ht⟩ := hA.above k n h d hd
      rw [if_pos ?_]
      · exact ⟨t, ht⟩
      · obtain ⟨⟨l, rfl, hl⟩, hkn⟩ := hA.clean k n h
        obtain ⟨m, rfl, hm⟩ := hp
        obtain ⟨j, hj, _, _, rfl⟩ := (mem_pars hl.good).1 hd
        have hjc := good_pre hl hj
        cases hw : withinF (glue j) (glue m) with
        | false => rfl
        | true =>
          have := (Pth.within_iff hjc.good hm.good).1 hw
          have hk2 : withinF (glue l) (glue m) = true := (Pth.within_iff hl.good hm.good).2 (this.trans hj)
          rw [hk2] at hk; cases hk
    · cases h
  · rw [hg] at h; split at h
    · exact hA.file k n h
    · cases h
theorem Okay.removeF {A : Tr} (hA : Okay A) (s : Txt) : Okay (removeF A s).1 := by
  unfold Tre.removeF
  split
  · rename_i h
    split
    · exact hA
    · split
      · exact hA
      · exact hA.removed (clean_of h)
  · exact hA
end Go.Tre
