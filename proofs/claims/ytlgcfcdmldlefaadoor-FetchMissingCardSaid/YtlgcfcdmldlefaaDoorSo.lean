import Derived.Test.YtlgcfcdmldlefaaDoorSh
import Derived.Test.YtlgcfcdmldlefaaDoorHr
set_option linter.unusedVariables false
set_option linter.unusedSimpArgs false
set_option maxRecDepth 100000
/- Sums: the document's sum over parts. -/
namespace Go.Proofs.YtlgcfcdmldlefaaDoor
open Go Go.Vc Go.Sha

theorem of_any (ps : List Part) (pa : Option Addr) (pn pcap : Nat) (H : Heap) (hp : Parts H pa ps) (hn : ps.length = pn) (hpn : pn ≤ 140737488355328) (htot : (allL ps).length ≤ 70368744177664) :
    CallH Tryd.prog 50 [.slice pa pn pcap] H fun v H' => v = .agg (strV (sumL (allL ps))).toArray ∧ Ext H H' := by
  refine Vc.CallH.body Tryd.func50 Tryd.call50 rfl (by decide +kernel) rfl ?_
  ((conv => whnf); repeat (any_goals (first | (refine Vc.sts ?_; (conv => whnf)))))
  refine SemH.alloc rfl rfl ?_
  intro H1 hs1 hb1 hx1
  ((conv => whnf); repeat (any_goals (first | (refine Vc.sts ?_; (conv => whnf)))))
  refine LoopH.intro (fun (s : Nat × Option Addr × Nat) => [(4, .int .i64 s.1), (3, .slice s.2.1 (allL (ps.take s.1)).length s.2.2)]) (fun s H' => s.1 ≤ ps.length ∧ Own H' (H.size + 1) 5 1 s.2.1 (allL (ps.take s.1)).length s.2.2 (strV (allL (ps.take s.1))) ∧ Blk H' H.size (Array.replicate 32 (.int .u8 0)) 60 ∧ Ext H H') (fun s => ps.length - s.1) (0, none, 0) ⟨rfl, rfl, trivial⟩ ⟨Nat.zero_le _, Own.nil _ _ _ _, hb1, hx1⟩ ?_
  rintro ⟨k, a1, cap1⟩ H2 ⟨hk, ho2, hz2, hx2⟩
  dsimp only at hk ho2 hz2 hx2 ⊢
  by_cases hlt : k < ps.length
  · have hP := hp.each ps[k] (List.getElem_mem hlt)
    have hpx := hp.ext hx2
    have hsn := allL_snoc ps k hlt
    have htk := allL_take_le ps (k + 1)
    have hlen : (allL (ps.take (k + 1))).length = (allL (ps.take k)).length + ps[k].l.length := by rw [hsn, List.length_append]
    have hPr := (hP.ext hx2).row
    have hPn := hP.len
    generalize hPk : ps[k] = p at *
    obtain ⟨a, n, cap, l⟩ := p
    dsimp only at hPn hPr hlen hsn
    ((conv => whnf); repeat (any_goals (first | ((refine IdxA.part hpx hn k rfl hlt ?_; intro _ _ _ hc; rw [hPk] at hc; replace hc : hcell _ _ = some (.slice a n cap) := hc); (conv => whnf)) | (((with_reducible apply SemH.load); (focus (rfl)); (focus (exact hc))); (conv => whnf)) | (refine Vc.sts ?_; (conv => whnf)))))
    refine NextH.append (i := Tryd.t5) (z := .int .u8 0) rfl ⟨_, rfl, fun _ h => by cases h⟩ rfl rfl rfl ho2 (Src.row hPr (by rw [strV_length, hPn]; exact (Nat.mul_one _).symm) (strV_plain _)) (by unfold maxLen; omega) (by show ((allL (ps.take k)).length + n) * 1 ≤ _; omega) (by have := hz2.lt; omega) ?_
    intro a3 cap3 H3 ho3 hw3 _
    ((conv => whnf); repeat (any_goals (first | (refine Vc.sts ?_; (conv => whnf)))))
    have hF := Own.wr_new ho2
    refine ⟨(k + 1, a3, cap3), ⟨rfl, ?_, trivial⟩, ⟨by omega, ?_, hz2.keep hw3 fun h => (by have := hF _ h; omega), Only.trans hx2 hw3 fun b hb h => (by have := hF b h; omega)⟩, by show ps.length - (k + 1) < ps.length - k; omega⟩
    · show Value.slice _ _ _ = Value.slice _ _ _
      rw [hlen, ← hPn]
    · show Own H3 _ _ 1 a3 (allL (ps.take (k + 1))).length cap3 (strV (allL (ps.take (k + 1))))
      rw [hlen, hsn, strV_append, hPn]
      exact ho3
  · obtain rfl : k = ps.length := by omega
    rw [List.take_length] at *
    ((conv => whnf); repeat (any_goals (first | ((refine (rsum_any (allL ps) a1 _ cap1 _ ho2.row rfl (by omega)).mono ?_; rintro _ H3 ⟨rfl, hx3⟩); (conv => whnf)) | (refine Vc.sts ?_; (conv => whnf)))))
    refine DoH.store_all (hz2.ext hx3) rfl (by simp [strV, sumL_length]; rfl) (by simp [strV, sumL_length]) (by simpa using strV_plain _) ?_
    intro H4 hs4 hb4 hx4
    ((conv => whnf); repeat (any_goals (first | (refine Vc.sts ?_; (conv => whnf)))))
    refine SemH.load_blk hb4 rfl rfl (by simp [strV, sumL_length]; rfl) ?_
    ((conv => whnf); repeat (any_goals (first | (refine Vc.sts ?_; (conv => whnf)))))
    refine ⟨rfl, ?_⟩
    (conv => whnf)
    exact ⟨rfl, (hx2.trans hx3).but hx4 (Nat.le_refl _)⟩

theorem parts_nil (H : Heap) (a : Option Addr) : Parts H a [] := ⟨Row.nil _ _, fun p hp => by cases hp⟩

theorem key_size (l : List UInt8) (h : l.length = 32) : (strV l).toArray.size = 32 := by simp [strV, h]
theorem key_plain (l : List UInt8) : ∀ u ∈ (strV l).toArray.toList, plainV u = true := by simpa using strV_plain l
theorem parts1 {H : Heap} {g : Nat} {e : TypeId} {p : Part} (hb : Blk H g #[p.val] e) (hp : PartOk H p) : Parts H (some ⟨g, 0, none⟩) [p] :=
  ⟨Blk.row (c := [p.val]) hb, fun q hq => by rw [List.mem_singleton.1 hq]; exact hp⟩
theorem parts2 {H : Heap} {g : Nat} {e : TypeId} {p p' : Part} (hb : Blk H g #[p.val, p'.val] e) (hp : PartOk H p) (hp' : PartOk H p') : Parts H (some ⟨g, 0, none⟩) [p, p'] :=
  ⟨Blk.row (c := [p.val, p'.val]) hb, fun q hq => by rcases List.mem_cons.1 hq with rfl | hq; exact hp; rw [List.mem_singleton.1 hq]; exact hp'⟩
theorem allL_one (p : Part) : allL [p] = p.l := by simp [allL]

theorem sum1 {a : Option Addr} {n cap g : Nat} {l : List UInt8} {e : TypeId} {H : Heap} (hb : Blk H g #[.slice a n cap] e) (hl : l.length = n) (hc : n ≤ cap) (hr : Row H a (strV l)) (hm : n ≤ 70368744177664) :
    CallH Tryd.prog 80 [.slice (some ⟨g, 0, none⟩) 1 1] H fun v H' => v = .agg (strV (sumL l)).toArray ∧ Ext H H' := by
  have h := sum_any [⟨a, n, cap, l⟩] (some ⟨g, 0, none⟩) 1 1 H (parts1 hb ⟨hl, hc, hr⟩) rfl (by decide) (by rw [allL_one]; show l.length ≤ _; omega)
  rw [allL_one] at h
  exact h
theorem sum2 {a a' : Option Addr} {n cap n' cap' g : Nat} {l l' : List UInt8} {e : TypeId} {H : Heap} (hb : Blk H g #[.slice a n cap, .slice a' n' cap'] e) (hl : l.length = n) (hc : n ≤ cap) (hr : Row H a (strV l)) (hl' : l'.length = n') (hc' : n' ≤ cap') (hr' : Row H a' (strV l')) (hm : n + n' ≤ 70368744177664) :
    CallH Tryd.prog 80 [.slice (some ⟨g, 0, none⟩) 2 2] H fun v H' => v = .agg (strV (sumL (l ++ l'))).toArray ∧ Ext H H' := by
  have e2 : allL [⟨a, n, cap, l⟩, ⟨a', n', cap', l'⟩] = l ++ l' := by simp [allL]
  have h := sum_any [⟨a, n, cap, l⟩, ⟨a', n', cap', l'⟩] (some ⟨g, 0, none⟩) 2 2 H (parts2 hb ⟨hl, hc, hr⟩ ⟨hl', hc', hr'⟩) rfl (by decide) (by rw [e2, List.length_append]; omega)
  rw [e2] at h
  exact h

end Go.Proofs.YtlgcfcdmldlefaaDoor
