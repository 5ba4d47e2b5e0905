import Derived.Test.YtlgcfcdmldlefaaDoorSe
set_option linter.unusedVariables false
set_option linter.unusedSimpArgs false
set_option maxRecDepth 100000
/- Sums: the walk of the sum over parts. -/
namespace Go.Proofs.YtlgcfcdmldlefaaDoor
open Go Go.Vc Go.Sha

/-- what is known in the midst of the parts: the state's block bt, q blocks done, what is left over (own), what of the part is still to come -/
structure Mid (H0 H : Heap) (bt : Nat) (C : List UInt8) (q : Nat) (X rest rem : List UInt8) (ra : Option Addr) (rn rcap : Nat) (a : Option Addr) (n cap : Nat) : Prop where
  all : C = X ++ rest ++ rem
  blocks : X.length = 64 * q
  st : Blk H bt (stc (absorb q h0 (ints X))) 198
  own : Own H (bt + 1) 5 1 ra rn rcap (strV rest)
  rlen : rest.length = rn
  row : Row H a (strV rem)
  len : rem.length = n
  hcap : n ≤ cap
  ext : Ext H0 H
  new : H0.size ≤ bt
  in0 : rem ≠ [] → ∀ p, a = some p → p.block < H0.size

/-- a step that writes the state's block, or the own slice's, or none that was there -/
theorem Mid.step {H0 H H' : Heap} {bt : Nat} {C : List UInt8} {q q' : Nat} {X X' rest rest' rem rem' : List UInt8} {ra ra' : Option Addr} {rn rcap rn' rcap' : Nat} {a a' : Option Addr} {n cap n' cap' : Nat} (h : Mid H0 H bt C q X rest rem ra rn rcap a n cap)
    {F : Nat → Prop} (hF : ∀ b, F b → bt ≤ b) (k : Only F H H') (hall : C = X' ++ rest' ++ rem') (hX : X'.length = 64 * q') (hst : Blk H' bt (stc (absorb q' h0 (ints X'))) 198) (hown : Own H' (bt + 1) 5 1 ra' rn' rcap' (strV rest')) (hrl : rest'.length = rn')
    (hrow : Row H a' (strV rem')) (hlen : rem'.length = n') (hcap : n' ≤ cap') (hin : rem' ≠ [] → ∀ p, a' = some p → p.block < H0.size) : Mid H0 H' bt C q' X' rest' rem' ra' rn' rcap' a' n' cap' :=
  ⟨hall, hX, hst, hown, hrl, hrow.keep' k fun h0 p hp hb => by
    have h1 := hin (fun e => h0 (by rw [e]; rfl)) p hp
    have h2 := hF _ hb
    have := h.new
    omega, hlen, hcap, Only.trans h.ext k fun b hb hFb => (by have := hF b hFb; have := h.new; omega), h.new, hin⟩
theorem absorb_more (q : Nat) (X b : List UInt8) (hX : X.length = 64 * q) (hb : 64 ≤ b.length) : blk (absorb q h0 (ints X)) (ints b) = absorb (q + 1) h0 (ints (X ++ b.take 64)) := by
  rw [absorb_succ, ints_append, absorb_append q h0 (ints X) _ (by rw [ints_length, hX]; omega)]
  rw [List.drop_append_of_le_length (by rw [ints_length, hX]; omega), List.drop_eq_nil_of_le (by rw [ints_length, hX]; omega), List.nil_append, ← ints_take, List.take_take, Nat.min_self, blk_take]

theorem PartOk.in0 {H : Heap} {p : Part} (h : PartOk H p) : ∀ q, p.a = some q → p.l ≠ [] → q.block < H.size := by
  intro q hq hl
  obtain ⟨b, o, ha, hb, _⟩ := h.row.at (by rw [strV_length]; exact List.length_pos_iff.2 hl)
  rw [ha] at hq; cases hq; exact hb
theorem shr_u64 (x : Int) (k : Int) (h0 : 0 ≤ k) (h1 : k ≤ 64) : shrB .u64 x k = x / 2 ^ k.toNat := by
  unfold shrB
  rw [Nat.min_eq_left (by simp [IntKind.bits]; omega)]
  exact Int.fdiv_eq_ediv_of_nonneg _ (Int.pow_nonneg (by decide))

set_option maxHeartbeats 1000000 in
theorem sum_any (ps : List Part) (pa : Option Addr) (pn pcap : Nat) (H : Heap) (hp : Parts H pa ps) (hn : ps.length = pn) (hpn : pn ≤ 140737488355328) (htot : (allL ps).length ≤ 70368744177664) :
    CallH Tryd.prog 80 [.slice pa pn pcap] H fun v H' => v = .agg (strV (sumL (allL ps))).toArray ∧ Ext H H' := by
  refine Vc.CallH.body Tryd.func80 Tryd.call80 rfl (by decide +kernel) rfl ?_
  ((conv => whnf); repeat (any_goals (first | (refine Vc.sts ?_; (conv => whnf)))))
  refine SemH.alloc rfl rfl ?_
  intro H1 hs1 hb1 hx1
  ((conv => whnf); repeat (any_goals (first | ((refine (begin_any _).mono ?_; rintro _ H2 ⟨rfl, hx2⟩); (conv => whnf)) | ((refine (round_any _).mono ?_; rintro _ H3 ⟨rfl, hx3⟩); (conv => whnf)) | (refine Vc.sts ?_; (conv => whnf)))))
  refine ⟨⟨.agg (stc h0), fun w => by kernel_rfl, ?_⟩⟩
  ((conv => whnf); repeat (any_goals (first | (refine Vc.sts ?_; (conv => whnf)))))
  refine SemH.box ?_
  intro H4 hs4 hb4 hx4
  have hz := ((hb1.ext hx2).ext hx3).ext hx4
  clear hb1
  ((conv => whnf); repeat (any_goals (first | (refine Vc.sts ?_; (conv => whnf)))))
  have hb4' : Blk H4 H3.size (stc h0) 198 := hb4
  clear hb4
  have hx : Ext H H4 := ((hx1.trans hx2).trans hx3).trans hx4
  have hsz : H.size + 1 ≤ H3.size := by have := hx2.size; have := hx3.size; omega
  generalize hbt : H3.size = bt at *
  refine LoopH.intro (fun (s : Nat × Nat × List UInt8 × List UInt8 × Option Addr × Nat × Nat) => [(22, .int .i64 s.1), (4, .slice s.2.2.2.2.1 s.2.2.2.2.2.1 s.2.2.2.2.2.2), (5, .int .u64 (8 * (allL (ps.take s.1)).length : Nat))])
    (fun s H' => s.1 ≤ ps.length ∧ s.2.2.2.1.length < 64 ∧ Blk H' H.size (Array.replicate 32 (.int .u8 0)) 60 ∧ Mid H H' bt (allL (ps.take s.1)) s.2.1 s.2.2.1 s.2.2.2.1 [] s.2.2.2.2.1 s.2.2.2.2.2.1 s.2.2.2.2.2.2 none 0 0) (fun s => ps.length - s.1) (0, 0, [], [], none, 0, 0) ⟨rfl, rfl, rfl, trivial⟩
    ⟨Nat.zero_le _, by decide, hz, rfl, rfl, hb4', Own.nil _ _ _ _, rfl, Row.nil _ _, rfl, Nat.le_refl _, hx, by omega, fun h => absurd rfl h⟩ ?_
  intro ⟨k, q, X, rest, ra, rn, rcap⟩ H5 ⟨hk, hr64, hz5, hM⟩
  dsimp only at hk hr64 hz5 hM ⊢
  by_cases hlt : k < ps.length
  · have hP := hp.each ps[k] (List.getElem_mem hlt)
    have hpx := hp.ext hM.ext
    have hsn := allL_snoc ps k hlt
    have htk := allL_take_le ps (k + 1)
    have hlen : (allL (ps.take (k + 1))).length = (allL (ps.take k)).length + ps[k].l.length := by rw [hsn, List.length_append]
    have hPn := hP.len
    have hPc := hP.cap
    have hrl := hM.rlen
    have hC := hM.all
    generalize hCk : allL (ps.take k) = C at *
    generalize hPk : ps[k] = p at *
    obtain ⟨a, n, cap, l⟩ := p
    dsimp only at hPn hPc
    ((conv => whnf); repeat (any_goals (first | (refine Vc.stt ?_; (conv => whnf)))))
    refine SeqH.go ?_
    ((conv => whnf); repeat (any_goals (first | (refine Vc.stt ?_; (conv => whnf)))))
    refine SeqH.go ?_
    have hlen' : (allL (ps.take (k + 1))).length = C.length + l.length := hlen
    have hcl : C.length + n ≤ 70368744177664 := by omega
    ((conv => whnf); repeat (any_goals (first | ((refine IdxA.part hpx hn k rfl hlt ?_; intro _ _ _ hc; rw [hPk] at hc; replace hc : hcell _ _ = some (.slice a n cap) := hc); (conv => whnf)) | (((with_reducible apply SemH.load); (focus (rfl)); (focus (exact hc))); (conv => whnf)) | (refine Vc.stt ?_; (conv => whnf)))))
    have hMp : Mid H H5 bt (C ++ l) q X rest l ra rn rcap a n cap := ⟨by rw [hC]; simp, hM.blocks, hM.st, hM.own, hM.rlen, (hP.ext hM.ext).row, hPn, hPc, hM.ext, hM.new, fun h0 p hp => hP.in0 p hp h0⟩
    have hln : (allL (ps.take (k + 1))).length = C.length + n := by rw [hlen, ← hPn]
    refine SeqH.cut (fun (s : List UInt8 × List UInt8 × Option Addr × Nat × Nat × Option Addr × Nat × Nat) => [(4, .slice s.2.2.1 s.2.2.2.1 s.2.2.2.2.1), (7, .slice s.2.2.2.2.2.1 s.2.2.2.2.2.2.1 s.2.2.2.2.2.2.2), (5, .int .u64 (8 * (C.length + n) : Nat))])
      (fun s H' => Mid H H' bt (C ++ l) q X s.1 s.2.1 s.2.2.1 s.2.2.2.1 s.2.2.2.2.1 s.2.2.2.2.2.1 s.2.2.2.2.2.2.1 s.2.2.2.2.2.2.2 ∧ s.1.length ≤ 64 ∧ (s.1.length = 0 ∨ s.1.length = 64 ∨ s.2.1 = []) ∧ Blk H' H.size (Array.replicate 32 (.int .u8 0)) 60) ?_ ?_
    · by_cases h0 : 0 < rn
      · have e5 : (8 * C.length : Nat) + (n : Int) * 8 = (8 * (C.length + n) : Nat) := by omega
        ((conv => whnf); repeat (any_goals (first | ((refine BndH.nat (min (64 - rn) n) (by omega) (by omega) ?_); (conv => whnf)) | (refine Vc.sts ?_; (conv => whnf)))))
        have hkr : (l.take (min (64 - rn) n)).length = min (64 - rn) n := by rw [List.length_take, hPn]; omega
        have hrowk : Row H5 a (strV (l.take (min (64 - rn) n))) := by rw [← strV_take]; exact hMp.row.take _
        refine NextH.append (i := Tryd.t5) (z := .int .u8 0) rfl ⟨_, rfl, fun _ h => by cases h⟩ rfl rfl rfl hMp.own (Src.row hrowk (by rw [strV_length, hkr]; exact (Nat.mul_one _).symm) (strV_plain _)) (by unfold maxLen; omega) (by show (rn + min (64 - rn) n) * 1 ≤ _; omega) (by have := hMp.st.lt; omega) ?_
        intro ra' rcap' H6 ho6 hw6 _
        ((conv => whnf); repeat (any_goals (first | ((refine BndH.nat (min (64 - rn) n) (by omega) (by omega) ?_); (conv => whnf)) | (refine Vc.sts ?_; (conv => whnf)))))
        have hF : ∀ b, (∃ p, ra = some p ∧ p.block = b) → bt + 1 ≤ b := fun b ⟨p, hp, e⟩ => by have := (hMp.own.block p hp).1; omega
        refine ⟨(rest ++ l.take (min (64 - rn) n), l.drop (min (64 - rn) n), ra', rn + min (64 - rn) n, rcap', sliceBase a cap (min (64 - rn) n) 1, n - min (64 - rn) n, cap - min (64 - rn) n), ⟨rfl, rfl, ?_, trivial⟩, ?_, ?_, ?_, ?_⟩
        · show Value.int _ _ = Value.int _ _
          rw [← e5]
        · refine hMp.step (F := fun b => bt + 1 ≤ b) (fun b hb => by omega) (hw6.mono hF) (by rw [hC]; simp) hMp.blocks (hMp.st.keep hw6 fun h => by have := hF _ h; omega) ?_ (by rw [List.length_append, hkr, hrl]) ?_ (by rw [List.length_drop, hPn]) (by show n - _ ≤ cap - _; omega) ?_
          · rw [strV_append]; exact ho6
          · have := hMp.row.drop cap (min (64 - rn) n) 1 (fun e => by rw [strV_length]; omega)
            rw [Nat.mul_one, strV_drop] at this
            exact this
          · intro hne p hp
            have hl0 : l ≠ [] := fun e => hne (by rw [e]; simp)
            unfold sliceBase at hp
            split at hp
            · exact hP.in0 p hp hl0
            · obtain ⟨b, o, ha, hb, _⟩ := hP.row.at (by rw [strV_length]; exact List.length_pos_iff.2 hl0)
              subst ha
              rw [Option.map_some, addk] at hp
              cases hp
              exact hb
        · show (rest ++ l.take _).length ≤ 64
          rw [List.length_append, hkr]; omega
        · rcases Nat.le_total (64 - rn) n with h | h
          · refine .inr (.inl ?_)
            show (rest ++ l.take _).length = 64
            rw [List.length_append, hkr]; omega
          · refine .inr (.inr ?_)
            show l.drop _ = []
            exact List.drop_eq_nil_of_le (by omega)
        · exact hz5.keep hw6 fun h => by have := hF _ h; omega
      · ((conv => whnf); repeat (any_goals (first | (refine Vc.sts ?_; (conv => whnf)))))
        refine ⟨(rest, l, ra, rn, rcap, a, n, cap), ⟨rfl, rfl, ?_, trivial⟩, hMp, by show rest.length ≤ 64; omega, .inl (by show rest.length = 0; omega), hz5⟩
        show Value.int _ _ = Value.int _ _
        rw [show ((8 * C.length : Nat) : Int) + (n : Int) * 8 = (8 * (C.length + n) : Nat) by omega]
    · rintro ⟨rest1, rem1, ra1, rn1, rcap1, a1, n1, cap1⟩ H6 ⟨hM6, hr1, hd1, hz6⟩
      dsimp only at hM6 hr1 hd1 hz6 ⊢
      clear hMp hM hpx hc hrl
      ((conv => whnf); repeat (any_goals (first | (refine Vc.stt ?_; (conv => whnf)))))
      refine SeqH.cut (fun (s : Nat × List UInt8 × List UInt8 × Nat) => [(4, .slice ra1 s.2.2.2 rcap1), (7, .slice a1 n1 cap1), (5, .int .u64 (8 * (C.length + n) : Nat))])
        (fun s H' => Mid H H' bt (C ++ l) s.1 s.2.1 s.2.2.1 rem1 ra1 s.2.2.2 rcap1 a1 n1 cap1 ∧ s.2.2.1.length < 64 ∧ (s.2.2.1.length = 0 ∨ rem1 = []) ∧ Blk H' H.size (Array.replicate 32 (.int .u8 0)) 60) ?_ ?_
      · ((conv => whnf); repeat (any_goals (first | (refine Vc.sts ?_; (conv => whnf)))))
        refine LoopH.intro (fun (s : Nat × List UInt8 × List UInt8 × Nat) => [(4, .slice ra1 s.2.2.2 rcap1), (7, .slice a1 n1 cap1), (5, .int .u64 (8 * (C.length + n) : Nat))])
          (fun s H' => Mid H H' bt (C ++ l) s.1 s.2.1 s.2.2.1 rem1 ra1 s.2.2.2 rcap1 a1 n1 cap1 ∧ s.2.2.1.length ≤ 64 ∧ (s.2.2.1.length = 0 ∨ s.2.2.1.length = 64 ∨ rem1 = []) ∧ Blk H' H.size (Array.replicate 32 (.int .u8 0)) 60) (fun s => s.2.2.1.length) (q, X, rest1, rn1) ⟨rfl, rfl, rfl, trivial⟩ ⟨hM6, hr1, hd1, hz6⟩ ?_
        rintro ⟨q2, X2, rest2, rn2⟩ H7 ⟨hM7, hr2, hd2, hz7⟩
        dsimp only at hM7 hr2 hd2 hz7 ⊢
        have hrl2 := hM7.rlen
        by_cases h64 : rn2 = 64
        · subst h64
          ((conv => whnf); repeat (any_goals (first | ((refine (sturn_any (absorb q2 h0 (ints X2)) rest2 (by omega) _ bt hM7.st ra1 64 rcap1 (by omega) hM7.own.row (by omega)).mono ?_; rintro _ H8 ⟨rfl, hst8, hb8⟩); (conv => whnf)) | ((refine BndH.nat 0 rfl (by omega) ?_); (conv => whnf)) | (refine Vc.sts ?_; (conv => whnf)))))
          have hoc := hM7.own.cut 0 (by omega)
          rw [Nat.zero_mul, List.take_zero] at hoc
          refine ⟨(q2 + 1, X2 ++ rest2, [], 0), ⟨rfl, rfl, rfl, trivial⟩, ⟨?_, by show ([] : List UInt8).length ≤ 64; decide, .inl rfl, hz7.but hb8 (by have := hM7.new; omega)⟩, by show 0 < rest2.length; omega⟩
          refine hM7.step (F := fun b => b = bt) (fun b hb => by omega) hb8 (by rw [hM7.all]; simp) (by rw [List.length_append, hM7.blocks]; omega) ?_ (hoc.keep hb8 fun p hp => by have := (hM7.own.block p hp).1; omega) rfl hM7.row hM7.len hM7.hcap hM7.in0
          have := absorb_more q2 X2 rest2 hM7.blocks (by omega)
          rw [List.take_of_length_le (by omega)] at this
          rw [← this]
          exact hst8
        · ((conv => whnf); repeat (any_goals (first | (refine Vc.sts ?_; (conv => whnf)))))
          refine ⟨(q2, X2, rest2, rn2), ⟨rfl, rfl, rfl, trivial⟩, hM7, by show rest2.length < 64; omega, ?_, hz7⟩
          rcases hd2 with h | h | h
          · exact .inl h
          · omega
          · exact .inr h
      · rintro ⟨q2, X2, rest2, rn2⟩ H7 ⟨hM7, hr2, hd2, hz7⟩
        dsimp only at hM7 hr2 hd2 hz7 ⊢
        have hrl2 := hM7.rlen
        clear hM6 hz6
        ((conv => whnf); repeat (any_goals (first | (refine Vc.stt ?_; (conv => whnf)))))
        refine SeqH.cut (fun (s : Nat × List UInt8 × List UInt8 × Option Addr × Nat × Nat) => [(4, .slice ra1 rn2 rcap1), (7, .slice s.2.2.2.1 s.2.2.2.2.1 s.2.2.2.2.2), (5, .int .u64 (8 * (C.length + n) : Nat))])
          (fun s H' => Mid H H' bt (C ++ l) s.1 s.2.1 rest2 s.2.2.1 ra1 rn2 rcap1 s.2.2.2.1 s.2.2.2.2.1 s.2.2.2.2.2 ∧ s.2.2.1.length < 64 ∧ (rest2.length = 0 ∨ s.2.2.1 = []) ∧ Blk H' H.size (Array.replicate 32 (.int .u8 0)) 60) ?_ ?_
        · ((conv => whnf); repeat (any_goals (first | (refine Vc.sts ?_; (conv => whnf)))))
          refine LoopH.intro (fun (s : Nat × List UInt8 × List UInt8 × Option Addr × Nat × Nat) => [(4, .slice ra1 rn2 rcap1), (7, .slice s.2.2.2.1 s.2.2.2.2.1 s.2.2.2.2.2), (5, .int .u64 (8 * (C.length + n) : Nat))])
            (fun s H' => Mid H H' bt (C ++ l) s.1 s.2.1 rest2 s.2.2.1 ra1 rn2 rcap1 s.2.2.2.1 s.2.2.2.2.1 s.2.2.2.2.2 ∧ (rest2.length = 0 ∨ s.2.2.1 = []) ∧ Blk H' H.size (Array.replicate 32 (.int .u8 0)) 60) (fun s => s.2.2.1.length) (q2, X2, rem1, a1, n1, cap1) ⟨rfl, rfl, rfl, trivial⟩ ⟨hM7, hd2, hz7⟩ ?_
          rintro ⟨q3, X3, rem3, a3, n3, cap3⟩ H8 ⟨hM8, hd3, hz8⟩
          dsimp only at hM8 hd3 hz8 ⊢
          have hl3 := hM8.len
          have hc3 := hM8.hcap
          have htl := congrArg List.length hM8.all
          simp only [List.length_append] at htl
          by_cases h64 : 64 ≤ n3
          · have hr0 : rest2 = [] := by
              rcases hd3 with h | h
              · exact List.eq_nil_of_length_eq_zero h
              · rw [h] at hl3; simp at hl3; omega
            ((conv => whnf); repeat (any_goals (first | ((refine (sturn_any (absorb q3 h0 (ints X3)) rem3 (by omega) _ bt hM8.st a3 n3 cap3 hl3 hM8.row (by omega)).mono ?_; rintro _ H9 ⟨rfl, hst9, hb9⟩); (conv => whnf)) | ((refine BndH.nat 64 rfl (by omega) ?_); (conv => whnf)) | (refine Vc.sts ?_; (conv => whnf)))))
            refine ⟨(q3 + 1, X3 ++ rem3.take 64, rem3.drop 64, sliceBase a3 cap3 64 1, n3 - 64, cap3 - 64), ⟨rfl, rfl, rfl, trivial⟩, ⟨?_, ?_, hz8.but hb9 (by have := hM8.new; omega)⟩, by show (rem3.drop 64).length < rem3.length; rw [List.length_drop]; omega⟩
            · refine hM8.step (F := fun b => b = bt) (fun b hb => by omega) hb9 (by rw [hM8.all, hr0]; simp) (by rw [List.length_append, hM8.blocks, List.length_take]; omega) ?_ (hM8.own.keep hb9 fun p hp => by have := (hM8.own.block p hp).1; omega) hM8.rlen ?_ (by rw [List.length_drop, hl3]) (by show n3 - 64 ≤ cap3 - 64; omega) ?_
              · rw [← absorb_more q3 X3 rem3 hM8.blocks (by omega)]
                exact hst9
              · have := hM8.row.drop cap3 64 1 (fun e => by rw [strV_length]; omega)
                rw [Nat.mul_one, strV_drop] at this
                exact this
              · intro hne p hp
                have hl0 : rem3 ≠ [] := fun e => hne (by rw [e]; simp)
                unfold sliceBase at hp
                split at hp
                · exact hM8.in0 hl0 p hp
                · obtain ⟨b, o, ha, hb, _⟩ := hM8.row.at (by rw [strV_length]; exact List.length_pos_iff.2 hl0)
                  have := hM8.in0 hl0 _ ha
                  subst ha
                  rw [Option.map_some, addk] at hp
                  cases hp
                  exact this
            · exact .inl (by rw [hr0]; rfl)
          · ((conv => whnf); repeat (any_goals (first | (refine Vc.sts ?_; (conv => whnf)))))
            exact ⟨(q3, X3, rem3, a3, n3, cap3), ⟨rfl, rfl, rfl, trivial⟩, hM8, by show rem3.length < 64; omega, hd3, hz8⟩
        · rintro ⟨q3, X3, rem3, a3, n3, cap3⟩ H8 ⟨hM8, hr3, hd3, hz8⟩
          dsimp only at hM8 hr3 hd3 hz8 ⊢
          have hl3 := hM8.len
          have hfin : C ++ l = allL (ps.take (k + 1)) := by rw [hsn]
          by_cases h0 : 0 < n3
          · have hr0 : rest2 = [] := by
              rcases hd3 with h | h
              · exact List.eq_nil_of_length_eq_zero h
              · rw [h] at hl3; simp at hl3; omega
            have hrn : rn2 = 0 := by rw [← hrl2, hr0]; rfl
            ((conv => whnf); repeat (any_goals (first | (refine Vc.sts ?_; (conv => whnf)))))
            refine NextH.append (i := Tryd.t5) (z := .int .u8 0) rfl ⟨_, rfl, fun _ h => by cases h⟩ rfl rfl rfl hM8.own (Src.row hM8.row (by rw [strV_length, hl3]; exact (Nat.mul_one _).symm) (strV_plain _)) (by unfold maxLen; omega) (by show (rn2 + n3) * 1 ≤ _; omega) (by have := hM8.st.lt; omega) ?_
            intro ra' rcap' H9 ho9 hw9 _
            ((conv => whnf); repeat (any_goals (first | (refine Vc.sts ?_; (conv => whnf)))))
            have hF : ∀ b, (∃ p, ra1 = some p ∧ p.block = b) → bt + 1 ≤ b := fun b ⟨p, hp, e⟩ => by have := (hM8.own.block p hp).1; omega
            refine ⟨(k + 1, q3, X3, rest2 ++ rem3, ra', rn2 + n3, rcap'), ⟨rfl, rfl, ?_, trivial⟩, ⟨by omega, by show (rest2 ++ rem3).length < 64; rw [hr0]; simpa using hr3, hz8.keep hw9 (fun h => by have := hF _ h; have := hM8.new; omega), ?_⟩, by show ps.length - (k + 1) < ps.length - k; omega⟩
            · show Value.int _ _ = Value.int _ _
              rw [hln]
            · show Mid H H9 bt (allL (ps.take (k + 1))) q3 X3 (rest2 ++ rem3) [] ra' (rn2 + n3) rcap' none 0 0
              rw [← hfin]
              exact hM8.step (F := fun b => bt + 1 ≤ b) (fun b hb => by omega) (hw9.mono hF) (by rw [hM8.all]; simp) hM8.blocks (hM8.st.keep hw9 fun h => by have := hF _ h; omega) (by rw [strV_append]; exact ho9) (by rw [List.length_append, hl3, hrl2]) (Row.nil _ _) rfl (Nat.le_refl _) (fun h => absurd rfl h)
          · have hrem : rem3 = [] := List.eq_nil_of_length_eq_zero (by omega)
            ((conv => whnf); repeat (any_goals (first | (refine Vc.sts ?_; (conv => whnf)))))
            refine ⟨(k + 1, q3, X3, rest2, ra1, rn2, rcap1), ⟨rfl, rfl, ?_, trivial⟩, ⟨by omega, hr2, hz8, ?_⟩, by show ps.length - (k + 1) < ps.length - k; omega⟩
            · show Value.int _ _ = Value.int _ _
              rw [hln]
            · show Mid H H8 bt (allL (ps.take (k + 1))) q3 X3 rest2 [] ra1 rn2 rcap1 none 0 0
              rw [← hfin]
              exact hM8.step (F := fun _ => False) (fun b hb => hb.elim) (Ext.refl _) (by rw [hM8.all, hrem]) hM8.blocks hM8.st hM8.own hrl2 (Row.nil _ _) rfl (Nat.le_refl _) (fun h => absurd rfl h)
  · obtain rfl : k = ps.length := by omega
    rw [List.take_length] at *
    have hC := hM.all
    have hrl := hM.rlen
    have hXq := hM.blocks
    rw [List.append_nil] at hC
    ((conv => whnf); repeat (any_goals (first | (refine Vc.sts ?_; (conv => whnf)))))
    refine SemH.alloc rfl rfl ?_
    intro H6 hs6 hb6 hx6
    have hst6 := hM.st.ext hx6
    have hz6 := hz5.ext hx6
    have hrow6 := hM.own.row.ext hx6
    have hlt5 := hM.st.lt
    have hnew := hM.new
    have hown6 := hM.own.ext hx6
    have hx6' : Ext H H6 := hM.ext.trans hx6
    generalize hg : H5.size = g at *
    ((conv => whnf); repeat (any_goals (first | (refine Vc.sts ?_; (conv => whnf)))))
    have hb6' : Blk H6 g (Array.replicate 128 (.int .u8 0)) 201 := hb6
    clear hb6
    refine NextH.copy (i := Tryd.t5) (k := rn) (m := rn) (cs := strV rest) rfl rfl (fun w => rfl) (by show rn = min rn 128; omega) (by rw [strV_length, hrl]; exact (Nat.mul_one _).symm) (fun w hw => run_firstRow hrow6 (by rw [strV_length, hrl]; exact (Nat.mul_one _).symm) w hw) (fun _ => rfl) hb6' (by rw [strV_length]; simp; omega) (strV_plain _) ?_
    intro H7 hs7 hb7 hx7
    ((conv => whnf); repeat (any_goals (first | ((refine IdxH.nat rn rfl (by omega) ?_); (conv => whnf)) | (refine Vc.sts ?_; (conv => whnf)))))
    refine DoH.store1 hb7 rfl rfl rfl (by rw [over_size]; simp; omega) ?_
    intro H8 hs8 hb8 hx8
    have hst8 := (hst6.but hx7 (by omega)).but hx8 (by omega)
    have hz8 := (hz6.but hx7 (by omega)).but hx8 (by omega)
    have hx8' : Ext H H8 := (hx6'.but hx7 (by omega)).but hx8 (by omega)
    have hb8' : Blk H8 g (tab 128 (lastV rest ((allL ps).length * 8) (endOf rest.length) 0)) 201 := by
      have := last_start rest ((allL ps).length * 8) (endOf rest.length) hr64
      rw [hrl] at this ⊢
      rw [← this]
      exact hb8
    clear hb8 hb7 hst6 hz6 hz5 hM hown6 hrow6
    have hend : endOf rest.length = 64 ∨ endOf rest.length = 128 := by unfold endOf; split <;> omega
    ((conv => whnf); repeat (any_goals (first | (refine Vc.stt ?_; (conv => whnf)))))
    refine SeqH.cut (fun (_ : Unit) => [(11, .int .i64 (endOf rest.length : Nat))]) (fun _ H' => H' = H8) ?_ ?_
    · by_cases h9 : rn + 9 > 64
      · have : endOf rest.length = 128 := by unfold endOf; rw [hrl, if_pos h9]
        rw [this]
        ((conv => whnf); repeat (any_goals (first | (refine Vc.sts ?_; (conv => whnf)))))
        exact ⟨(), ⟨rfl, trivial⟩, rfl⟩
      · have : endOf rest.length = 64 := by unfold endOf; rw [hrl, if_neg h9]
        rw [this]
        ((conv => whnf); repeat (any_goals (first | (refine Vc.sts ?_; (conv => whnf)))))
        exact ⟨(), ⟨rfl, trivial⟩, rfl⟩
    rintro _ _ rfl
    generalize he : endOf rest.length = e at *
    ((conv => whnf); repeat (any_goals (first | (refine Vc.sts ?_; (conv => whnf)))))
    refine LoopH.intro (fun (j : Nat) => [(80, .int .i64 j)]) (fun j H' => j ≤ 8 ∧ Blk H' g (tab 128 (lastV rest ((allL ps).length * 8) e j)) 201 ∧ Blk H' bt (stc (absorb q h0 (ints X))) 198 ∧ Blk H' H.size (Array.replicate 32 (.int .u8 0)) 60 ∧ Ext H H') (fun j => 8 - j) 0 ⟨rfl, trivial⟩ ⟨by omega, hb8', hst8, hz8, hx8'⟩ ?_
    intro j H9 ⟨hj, hb9, hst9, hz9, hx9⟩
    by_cases hj8 : j < 8
    · ((conv => whnf); repeat (any_goals (first | ((refine IdxH.nat (e - 8 + j) (by omega) (by omega) ?_); (conv => whnf)) | ((refine ArithH.u8m ?_); (conv => whnf)) | (refine Vc.sts ?_; (conv => whnf)))))
      refine DoH.store1 hb9 rfl rfl rfl (by rw [tab_size]; omega) ?_
      intro H10 hs10 hb10 hx10
      ((conv => whnf); repeat (any_goals (first | (refine Vc.sts ?_; (conv => whnf)))))
      refine ⟨j + 1, ⟨rfl, trivial⟩, ⟨by omega, ?_, hst9.but hx10 (by omega), hz9.but hx10 (by omega), hx9.but hx10 (by omega)⟩, by omega⟩
      rw [Nat.zero_add] at hb10
      have e1 : shrB .u64 ((8 * (allL ps).length : Nat) : Int) (56 - 8 * (j : Int)) % 256 = ((allL ps).length * 8 : Int) / 2 ^ (8 * (7 - j)) % 256 := by
        rw [shr_u64 _ _ (by omega) (by omega), show (56 - 8 * (j : Int)).toNat = 8 * (7 - j) by omega, show ((8 * (allL ps).length : Nat) : Int) = (allL ps).length * 8 by omega]
      rw [last_set _ _ _ _ _ e1] at hb10
      exact hb10
    · obtain rfl : j = 8 := by omega
      clear hb8' hst8 hz8 hx8'
      ((conv => whnf); repeat (any_goals (first | (refine Vc.sts ?_; (conv => whnf)))))
      refine LoopH.intro (fun (b : Nat) => [(13, .int .i64 (64 * b : Nat))]) (fun b H' => 64 * b ≤ e ∧ Blk H' g (tab 128 (lastV rest ((allL ps).length * 8) e 8)) 201 ∧ Blk H' bt (stc (absorb b (absorb q h0 (ints X)) (lastB (ints rest) (allL ps).length))) 198 ∧ Blk H' H.size (Array.replicate 32 (.int .u8 0)) 60 ∧ Ext H H') (fun b => 128 - 64 * b) 0 ⟨rfl, trivial⟩ ⟨by omega, hb9, hst9, hz9, hx9⟩ ?_
      intro b H10 ⟨hb, hb10, hst10, hz10, hx10⟩
      by_cases hlt2 : 64 * b < e
      · have hG : ∀ i, i < 64 → ((List.range 64).map fun i => lastF rest ((allL ps).length * 8) e 8 (64 * b + i)).getD i 0 = lastF rest ((allL ps).length * 8) e 8 (64 * b + i) := fun i hi => by
          simp [List.getD_eq_getElem?_getD, hi]
        generalize hGl : ((List.range 64).map fun i => lastF rest ((allL ps).length * 8) e 8 (64 * b + i)) = G at hG
        have hGn : G.length = 64 := by rw [← hGl]; simp
        have hrowG : Row H10 (sliceBase (some ⟨g, 0, none⟩) 128 (64 * b) 1) (strV G) := by
          unfold sliceBase
          rw [if_neg (by omega), Option.map_some, addk, Nat.zero_add, Nat.mul_one]
          refine tab_row hb10 _ _ fun j hj => ?_
          rw [strV_length, hGn] at hj
          refine ⟨by omega, ?_⟩
          rw [strV_get (by omega), hG j hj]; rfl
        ((conv => whnf); repeat (any_goals (first | ((refine BndH.nat (64 * b + 64) (by omega) (by omega) ?_); (conv => whnf)) | ((refine BndH.nat (64 * b) (by omega) (by omega) ?_); (conv => whnf)) | ((refine (sturn_any _ G (by omega) _ bt hst10 _ _ _ (by omega) hrowG (by omega)).mono ?_; rintro _ H11 ⟨rfl, hst11, hx11⟩); (conv => whnf)) | (refine Vc.sts ?_; (conv => whnf)))))
        refine ⟨b + 1, ⟨?_, trivial⟩, ⟨by omega, hb10.but hx11 (by omega), ?_, hz10.but hx11 (by omega), hx10.but hx11 hnew⟩, by omega⟩
        · show Value.int _ _ = Value.int _ _
          rw [show ((64 * b : Nat) : Int) + 64 = (64 * (b + 1) : Nat) by omega]
        · have := absorb_last rest (allL ps).length (by omega) (absorb q h0 (ints X)) G b (by rw [he]; exact hG) (by rw [he]; omega)
          rw [this]
          exact hst11
      · have hbe : b = e / 64 := by omega
        subst hbe
        clear hb9 hst9 hz9 hx9
        have hdone := sha_done X rest q hXq (by omega)
        rw [he, ← hC] at hdone
        rw [hdone] at hst10
        ((conv => whnf); repeat (any_goals (first | (refine Vc.sts ?_; (conv => whnf)))))
        refine SemH.alloc rfl rfl ?_
        intro H11 hs11 hb11 hx11
        ((conv => whnf); repeat (any_goals (first | (refine Vc.sts ?_; (conv => whnf)))))
        have hlt10 := hst10.lt
        refine LoopH.intro (fun (i : Nat) => [(107, .int .i64 i)]) (fun i H' => i ≤ 32 ∧ Blk H' H10.size (tab 32 (sumV (shaH (ints (allL ps))) i)) 60 ∧ Blk H' bt (stc (shaH (ints (allL ps)))) 198 ∧ Blk H' H.size (Array.replicate 32 (.int .u8 0)) 60 ∧ Ext H H') (fun i => 32 - i) 0 ⟨rfl, trivial⟩ ⟨by omega, by rw [sumV_zero]; exact hb11, hst10.ext hx11, hz10.ext hx11, hx10.trans hx11⟩ ?_
        intro i H12 ⟨hi, hb12, hst12, hz12, hx12⟩
        by_cases hi32 : i < 32
        · have hv := stc_lo0 (shaH (ints (allL ps))) (i / 4) (by omega)
          ((conv => whnf); repeat (any_goals (first | ((refine IdxH.nat (i / 4) (by omega) (by omega) ?_); (conv => whnf)) | ((refine IdxH.nat i rfl (by omega) ?_); (conv => whnf)) | (((with_reducible apply SemH.load_at hst12); (focus (rfl)); (focus (exact hv))); (conv => whnf)) | ((refine ArithH.u8m ?_); (conv => whnf)) | (refine Vc.sts ?_; (conv => whnf)))))
          refine DoH.store1 (o := 0 + i) hb12 rfl rfl rfl (by rw [tab_size]; omega) ?_
          intro H13 hs13 hb13 hx13
          ((conv => whnf); repeat (any_goals (first | (refine Vc.sts ?_; (conv => whnf)))))
          refine ⟨i + 1, ⟨rfl, trivial⟩, ⟨by omega, ?_, hst12.but hx13 (by omega), hz12.but hx13 (by omega), hx12.but hx13 (by omega)⟩, by omega⟩
          have e1 : shrB .u32 (shaH (ints (allL ps)) (i / 4)) (24 - 8 * ((i : Int) % 4)) % 256 = shaH (ints (allL ps)) (i / 4) / 2 ^ (24 - 8 * (i % 4)) % 256 := by
            rw [show (24 - 8 * ((i : Int) % 4)) = ((24 - 8 * (i % 4) : Nat) : Int) by omega, shr_nat _ (by omega)]
          rw [Nat.zero_add, e1, sumV_set] at hb13
          exact hb13
        · obtain rfl : i = 32 := by omega
          ((conv => whnf); repeat (any_goals (first | (refine Vc.sts ?_; (conv => whnf)))))
          refine SemH.load_blk hb12 rfl rfl (by rw [tab_size]; rfl) ?_
          ((conv => whnf); repeat (any_goals (first | (refine Vc.sts ?_; (conv => whnf)))))
          refine DoH.store_all hz12 rfl (by rw [tab_size]; rfl) (by rw [tab_size]; rfl) (sumV_plain _ _) ?_
          intro H13 hs13 hb13 hx13
          ((conv => whnf); repeat (any_goals (first | (refine Vc.sts ?_; (conv => whnf)))))
          refine SemH.load_blk hb13 rfl rfl (by rw [tab_size]; rfl) ?_
          ((conv => whnf); repeat (any_goals (first | (refine Vc.sts ?_; (conv => whnf)))))
          refine ⟨rfl, ?_⟩
          (conv => whnf)
          refine ⟨?_, hx12.but hx13 (by omega)⟩
          rw [sumV_done]; rfl
end Go.Proofs.YtlgcfcdmldlefaaDoor
