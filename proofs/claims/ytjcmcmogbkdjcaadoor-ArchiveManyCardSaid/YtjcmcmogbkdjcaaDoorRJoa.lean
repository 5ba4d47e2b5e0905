import Derived.Test.YtjcmcmogbkdjcaaDoorKm
import Derived.Test.YtjcmcmogbkdjcaaDoorKf
import Derived.Test.YtjcmcmogbkdjcaaDoorKe
set_option linter.unusedVariables false
set_option linter.unusedSimpArgs false
set_option maxRecDepth 100000
/- Law 13: ArchiveEscapes, the walk. -/
namespace Go.Arc
open Go.Scr Go.Pth Go.Tre
def oneE (j : Nat) : Fi := ([102, UInt8.ofNat (97 + j)], false, [120, 121, 122])
def onesE (k : Nat) : List Fi := (List.range k).map oneE
def escE (p : Nat) : Txt := ([[46, 46, 47, 120], [47, 120], [97, 47, 46, 46, 47, 46, 46, 47, 120], [46, 46], [97, 47, 46, 46, 47, 46, 46]] : List Txt).getD p []
def escL (k i p : Nat) : List Fi := (onesE k).set i (escE p, false, [120, 121, 122])
theorem onesE_len (k : Nat) : (onesE k).length = k := by simp [onesE]
theorem onesE_snoc (k : Nat) : onesE (k + 1) = onesE k ++ [oneE k] := by simp [onesE, List.range_succ]
theorem escL_len (k i p : Nat) : (escL k i p).length = k := by simp [escL, onesE_len]
theorem oneE_clean : ∀ j, j < 6 → (cleanF (oneE j).1).2 = 0 := by decide +kernel
theorem escE_out : ∀ p, p < 5 → (cleanF (escE p)).2 = 51 ∧ (escE p).length ≤ 20 := by decide +kernel
theorem escL_mem {k i p : Nat} (hp : p < 5) : ∀ f ∈ escL k i p, f.1.length ≤ 20 ∧ f.2.2.length = 3 := by
  intro f hf
  rcases List.mem_or_eq_of_mem_set hf with hf | rfl
  · obtain ⟨j, _, rfl⟩ := List.mem_map.1 hf
    exact ⟨by simp [oneE], by simp [oneE]⟩
  · exact ⟨(escE_out p hp).2, rfl⟩
theorem escL_open {k i p : Nat} (hk : k ≤ 6) (hi : i < k) (hp : p < 5) (hl : (packF (escL k i p)).length ≤ 262144) : openF (packF (escL k i p)) = ([], 51) := by
  refine open_escape (escL k i p) i (escE p, false, [120, 121, 122]) ?_ ?_ (by have := (escE_out p hp).2; dsimp only; omega) (by simp) (escE_out p hp).1 (by rw [escL_len]; omega) hl
  · unfold escL
    rw [List.getElem?_set_self (by rw [onesE_len]; exact hi)]
  · intro g hg
    unfold escL at hg
    rw [List.take_set_of_le (Nat.le_refl _)] at hg
    obtain ⟨j, hj, rfl⟩ := List.mem_map.1 (List.mem_of_mem_take hg)
    exact ⟨by simp [oneE], by simp [oneE], oneE_clean j (by have := List.mem_range.1 hj; omega)⟩
end Go.Arc
namespace Go.Proofs.YtjcmcmogbkdjcaaDoor
open Go Go.Vc Go.Scr Go.Pth Go.Tre Go.Arc Go.Sha
theorem escL_light {k i p : Nat} (hk : k ≤ 6) (hp : p < 5) : lightF (escL k i p) = true := (light_iff _).2 ⟨by rw [escL_len]; omega, fun f hf => by have := escL_mem hp f hf; omega⟩
theorem DoH.store_ownK {P : Program} {H : Heap} {t e : TypeId} {i : TypeInfo} {base g n cap size : Nat} {xs : List Value} {o : Nat} {v : Value} {K : Heap → Prop} (ho : Own H base e size (some ⟨g, 0, none⟩) n cap xs) (hi : P.info? t = some i) (hn : i.size = 1) (hp : plainV v = true) (hl : o < n * size)
    (hk : ∀ H', H'.size = H.size → Own H' base e size (some ⟨g, 0, none⟩) n cap (xs.set o v) → But g H H' → K H') : DoH P (Instr.storeAt t (.pointer (some ⟨g, o, none⟩)) v) H K := by
  rcases ho.out with ⟨ha, _⟩ | ⟨g', cur, ha, hb, hg, hnc, hmc, hcs, htake⟩
  · cases ha
  · cases ha
    have hns : n * size ≤ cap * size := Nat.mul_le_mul_right _ hnc
    refine DoH.store1 hg hi hn hp (by omega) fun H' h1 h2 h3 => hk H' h1 ⟨by simpa using ho.len, .inr ⟨_, _, rfl, hb, h2, hnc, hmc, by simpa using hcs, ?_⟩⟩ h3
    rw [← htake, Array.toList_setIfInBounds]
    apply List.ext_getElem?
    intro j
    simp only [List.getElem?_take, List.getElem?_set, List.length_take]
    have hsz : cur.toList.length = cap * size := by simpa using hcs
    by_cases hj : o = j
    · subst hj
      rw [if_pos hl, if_pos rfl, if_pos rfl, if_pos (by omega), if_pos (by omega)]
    · rw [if_neg hj, if_neg hj]
theorem own_type {H : Heap} {base n cap size : Nat} {e : TypeId} {a : Option Addr} {xs : List Value} (h : Own H base e size a n cap xs) (he : e ≠ 5) : ∀ b c, (∃ p, a = some p ∧ p.block = b) → ¬ Blk H b c 5 := by
  rintro b c ⟨p, hp, rfl⟩ k
  rcases h.out with ⟨h1, _⟩ | ⟨g, cur, h1, _, hb, _⟩
  · rw [h1] at hp; cases hp
  · rw [h1] at hp; cases hp
    exact he (blk_one hb k).1
theorem encF_set : ∀ (fs : List SF) (i : Nat) (f : SF) (p : Bs), fs[i]? = some f → (fs.flatMap encF).set (i * 3) (.string (mkS p)) = (fs.set i (p, f.2)).flatMap encF
  | [], i, f, p, h => by simp at h
  | g :: fs, 0, f, p, h => by
    simp only [List.getElem?_cons_zero, Option.some.injEq] at h
    subst h
    simp [encF]
  | g :: fs, i + 1, f, p, h => by
    have := encF_set fs i f p (by simpa using h)
    rw [List.set_cons_succ, List.flatMap_cons, List.flatMap_cons, ← this, List.set_append_right _ _ (by show (3 : Nat) ≤ (i + 1) * 3; omega), show (i + 1) * 3 - (encF g).length = i * 3 by show (i + 1) * 3 - 3 = _; omega]
theorem ToldL.setp {H : Heap} : ∀ {fs : List SF} {xs : Tr} {i : Nat} {f : SF} {x : Bs × Tre.Node} (p : Bs), ToldL H fs xs → fs[i]? = some f → xs[i]? = some x → ToldL H (fs.set i (p, f.2)) (xs.set i (p, x.2))
  | [], [], i, f, x, p, _, h, _ => by simp at h
  | g :: fs, y :: xs, 0, f, x, p, ⟨h1, h2⟩, hf, hx => by
    simp only [List.getElem?_cons_zero, Option.some.injEq] at hf hx
    subst hf; subst hx
    exact ⟨⟨rfl, h1.dir, h1.len, h1.own⟩, h2⟩
  | g :: fs, y :: xs, i + 1, f, x, p, ⟨h1, h2⟩, hf, hx => ⟨h1, ToldL.setp p h2 (by simpa using hf) (by simpa using hx)⟩
  | [], _ :: _, _, _, _, _, h, _, _ => h.elim
  | _ :: _, [], _, _, _, _, h, _, _ => h.elim
theorem fileB2 {K : Value → Prop} {o1 o2 : Operand} {s : ByteArray} {a : Option Addr} {n c : Nat} (h : K (.agg #[.string s, .bool false, .slice a n c])) : PureH Tryd.prog (Instr.build 26 ((List.map (fun x : Nat × Operand => x.1) (#[(0, o1), (2, o2)] : Array (Nat × Operand)).toList).zip [.string s, .slice a n c]).toArray) K := PureH.build _ (by kernel_rfl) h
structure EsS where
  i : Nat
  fs : List SF
  a : Option Addr
  cap : Nat
theorem own_head {H : Heap} {base n cap size : Nat} {e : TypeId} {a : Option Addr} {xs : List Value} (h : Own H base e size a n cap xs) (hn : 0 < n) : ∃ g, a = some ⟨g, 0, none⟩ ∧ base ≤ g := by
  rcases h.out with ⟨_, h0, _⟩ | ⟨g, _, ha, hb, _⟩
  · omega
  · exact ⟨g, ha, hb⟩
theorem IdxA.atK {g o n size : Nat} {i : Int} {K : Addr → Prop} (j : Nat) (hi : i = j) (hj : j < n) (hk : K ⟨g, o + j * size, none⟩) : IdxA (some ⟨g, o, none⟩) n size i K := by
  subst hi
  exact ⟨by omega, by omega, _, rfl, by rw [addk, Int.toNat_natCast]; exact hk⟩
end Go.Proofs.YtjcmcmogbkdjcaaDoor
/- Law 13: ArchiveMany, the walk. -/
namespace Go.Arc
open Go.Scr Go.Pth Go.Tre
def dirE (j : Nat) : Fi := ([UInt8.ofNat (97 + j % 26), UInt8.ofNat (97 + j / 26)], true, [])
def dirsE (k : Nat) : List Fi := (List.range k).map dirE
def goodB (x : Txt) : Bool := decide (x ≠ []) && decide (x ≠ [46]) && decide (x ≠ [46, 46]) && !badP x && decide ((47 : UInt8) ∉ x)
theorem good_of {x : Txt} (h : goodB x = true) : GoodP x := by
  unfold goodB at h
  simp only [Bool.and_eq_true, decide_eq_true_eq, Bool.not_eq_true'] at h
  exact ⟨h.1.1.1.1, h.1.1.1.2, h.1.1.2, h.1.2, h.2⟩
theorem dirE_good : ∀ j, j < 502 → goodB (dirE j).1 = true := by decide +kernel
theorem dirsE_len (k : Nat) : (dirsE k).length = k := by simp [dirsE]
theorem dirsE_snoc (k : Nat) : dirsE (k + 1) = dirsE k ++ [dirE k] := by simp [dirsE, List.range_succ]
theorem byte_inj {a b : Nat} (ha : a < 100) (hb : b < 100) (h : UInt8.ofNat (97 + a) = UInt8.ofNat (97 + b)) : a = b := by
  have := congrArg UInt8.toNat h
  rw [UInt8.toNat_ofNat', UInt8.toNat_ofNat'] at this
  omega
theorem dirsE_nodup {k : Nat} (hk : k ≤ 502) : ((dirsE k).map (·.1)).Nodup := by
  unfold dirsE
  rw [List.map_map]
  refine List.pairwise_iff_getElem.2 fun i j hi hj hij => ?_
  simp only [List.length_map, List.length_range] at hi hj
  simp only [List.getElem_map, List.getElem_range, Function.comp]
  intro e
  unfold dirE at e
  simp only [List.cons.injEq, and_true] at e
  have h1 := byte_inj (by omega) (by omega) e.1
  have h2 := byte_inj (by omega) (by omega) e.2
  omega
theorem dirsE_pack : ∀ k, (packF (dirsE k)).length = 5 * k + 5 := by
  have key : ∀ k, ((dirsE k).flatMap entB).length = 5 * k := by
    intro k
    induction k with
    | zero => rfl
    | succ k ih =>
      rw [dirsE_snoc, List.flatMap_append, List.length_append, ih]
      simp [entB, dirE, numB_len]; omega
  intro k
  rw [packF_eq, List.length_append, List.length_append, key]
  simp; omega
theorem dirsE_open {k : Nat} (hk : k ≤ 502) : ∃ B, openF (packF (dirsE k)) = (B, if k ≤ 500 then 0 else 64) ∧ (k ≤ 500 → B.length = k) := by
  have hz : ((dirsE k).map fun x => x.2.2.length).sum = 0 := by
    unfold dirsE
    rw [List.map_map]
    have : ((fun x : Fi => x.2.2.length) ∘ dirE) = fun _ => 0 := rfl
    rw [this]
    have e : ∀ l : List Nat, (l.map fun _ => 0).sum = 0 := fun l => by
      induction l with
      | nil => rfl
      | cons a l ih => rw [List.map_cons, List.sum_cons, ih]
    exact e _
  have := open_ones (dirsE k) (fun x hx => by
    obtain ⟨j, hj, rfl⟩ := List.mem_map.1 hx
    exact ⟨good_of (dirE_good j (by have := List.mem_range.1 hj; omega)), Nat.zero_le _, fun _ => rfl⟩) (dirsE_nodup hk) (by omega) (by rw [dirsE_pack]; omega)
  rwa [dirsE_len] at this
def bigE (m j : Nat) : Fi := ([98, UInt8.ofNat (97 + j)], false, List.replicate m 0)
def bigsE (k : Nat) : List Fi := (List.range k).map (bigE 65524)
theorem bigsE_len (k : Nat) : (bigsE k).length = k := by simp [bigsE]
theorem bigsE_snoc (k : Nat) : bigsE (k + 1) = bigsE k ++ [bigE 65524 k] := by simp [bigsE, List.range_succ]
def fourE (m : Nat) : List Fi := [bigE 65524 0, bigE 65524 1, bigE 65524 2, bigE m 3]
theorem bigE_ent (m j : Nat) : (entB (bigE m j)).length = 13 + m := by
  unfold entB bigE
  dsimp only
  rw [if_neg (by decide), if_neg (by decide)]
  simp only [List.length_append, List.length_singleton, numB_len, List.length_replicate, List.length_take]
  simp; omega
theorem fourE_pack (m : Nat) : (packF (fourE m)).length = 196629 + m := by
  rw [packF_eq, List.length_append, List.length_append]
  unfold fourE
  simp only [List.flatMap_cons, List.flatMap_nil, List.length_append, List.append_nil, bigE_ent]
  simp; omega
theorem bigE_good : ∀ j, j < 4 → goodB ([98, UInt8.ofNat (97 + j)] : Txt) = true := by decide +kernel
theorem bigE_one {m j : Nat} (hm : m ≤ 65536) (hj : j < 4) : One (bigE m j) := ⟨good_of (bigE_good j hj), by unfold bigE; simp only [List.length_replicate]; exact hm, fun h => by cases h⟩
theorem fourE_open {m : Nat} (hm : m ≤ 65536) : ((openF (packF (fourE m))).2 = 0) ↔ (packF (fourE m)).length ≤ 262144 := by
  by_cases h : (packF (fourE m)).length ≤ 262144
  · obtain ⟨B, e, _⟩ := open_ones (fourE m) (fun x hx => by
      unfold fourE at hx
      simp only [List.mem_cons, List.not_mem_nil, or_false] at hx
      rcases hx with rfl | rfl | rfl | rfl
      · exact bigE_one (by decide) (by decide)
      · exact bigE_one (by decide) (by decide)
      · exact bigE_one (by decide) (by decide)
      · exact bigE_one hm (by decide)) (show [[98, UInt8.ofNat (97 + 0)], [98, UInt8.ofNat (97 + 1)], [98, UInt8.ofNat (97 + 2)], ([98, UInt8.ofNat (97 + 3)] : Txt)].Nodup by decide) (by
      unfold fourE bigE
      simp only [List.map_cons, List.map_nil, List.length_replicate, List.sum_cons, List.sum_nil]; omega) h
    rw [e]
    exact ⟨fun _ => h, fun _ => rfl⟩
  · refine ⟨fun e => ?_, fun e => absurd e h⟩
    exfalso
    unfold openF at e
    rw [if_neg (fun hh => h hh.1)] at e
    cases e
end Go.Arc
/- Law 13: ArchiveMany, the walk. -/
namespace Go.Proofs.YtjcmcmogbkdjcaaDoor
open Go Go.Vc Go.Scr Go.Pth Go.Tre Go.Arc Go.Sha
theorem encF_setB : ∀ (fs : List SF) (i : Nat) (f : SF) (a : Option Addr) (n c : Nat), fs[i]? = some f → (fs.flatMap encF).set (i * 3 + 2) (.slice a n c) = (fs.set i (f.1, f.2.1, a, n, c)).flatMap encF
  | [], i, f, a, n, c, h => by simp at h
  | g :: fs, 0, f, a, n, c, h => by
    simp only [List.getElem?_cons_zero, Option.some.injEq] at h
    subst h
    simp [encF]
  | g :: fs, i + 1, f, a, n, c, h => by
    have := encF_setB fs i f a n c (by simpa using h)
    rw [List.set_cons_succ, List.flatMap_cons, List.flatMap_cons, ← this, List.set_append_right _ _ (by show (3 : Nat) ≤ (i + 1) * 3 + 2; omega), show (i + 1) * 3 + 2 - (encF g).length = i * 3 + 2 by show (i + 1) * 3 + 2 - 3 = _; omega]
theorem ToldL.setB {H : Heap} {b : Bs} {a : Option Addr} {n c : Nat} (hr : Row H a (strV b)) (hn : b.length = n) : ∀ {fs : List SF} {xs : Tr} {i : Nat} {f : SF} {x : Bs × Tre.Node}, ToldL H fs xs → fs[i]? = some f → xs[i]? = some x → FilesV H (xs.set i (x.1, x.2.1, b)) ((fs.set i (f.1, f.2.1, a, n, c)).flatMap encF)
  | [], [], i, f, x, _, h, _ => by simp at h
  | g :: fs, y :: xs, 0, f, x, ⟨h1, h2⟩, hf, hx => by
    simp only [List.getElem?_cons_zero, Option.some.injEq] at hf hx
    subst hf; subst hx; subst hn
    rw [List.set_cons_zero, List.set_cons_zero, List.flatMap_cons]
    have e : encF (g.1, g.2.1, a, b.length, c) = fileC (y.1, y.2.1, b) a c := by unfold encF fileC; rw [h1.path, h1.dir]
    rw [e]
    exact .cons hr h2.files
  | g :: fs, y :: xs, i + 1, f, x, ⟨h1, h2⟩, hf, hx => by
    rw [List.set_cons_succ, List.set_cons_succ, List.flatMap_cons]
    have e : encF g = fileC y g.2.2.1 g.2.2.2.2 := by unfold encF fileC; rw [h1.path, h1.dir, h1.len]
    rw [e]
    exact .cons h1.own.row (ToldL.setB hr hn h2 (by simpa using hf) (by simpa using hx))
  | [], _ :: _, _, _, _, h, _, _ => h.elim
  | _ :: _, [], _, _, _, h, _, _ => h.elim
set_option maxHeartbeats 2000000 in
theorem many_walk (n long : UInt8) (H : Heap) :
    CallH Tryd.prog 3 [.int .u8 n.toNat, .int .u8 long.toNat] H fun v H' => v = .bool true ∧ Ext H H' := by
  have hn8 := n.toNat_lt
  have hl8 := long.toNat_lt
  obtain ⟨k, hk⟩ : ∃ k, k = 498 + n.toNat % 5 := ⟨_, rfl⟩
  refine Vc.CallH.body Tryd.func3 Tryd.call3 rfl (by decide +kernel) rfl ?_
  ((conv => whnf); repeat (any_goals (first | ((refine (known13_any _).mono ?_; rintro _ H1 ⟨rfl, hx1⟩; have hz1 := hx1.size); (conv => whnf)) | ((first | (with_reducible refine Vc.DrawH.lin (id := 16) mixed ?_) | (with_reducible refine Vc.DrawL.split (es := []) 5 7 (by decide) (by decide) (by decide) ?_ ?_) | (with_reducible refine Vc.DrawL.held (es := [(5, 7)]) [0, 1, 2, 3, 4, 5, 6, 7, 8, 9, 10, 11] [] (by decide +kernel) ?_) | (with_reducible refine Vc.DrawL.split (es := [(7, 5)]) 4 7 (by decide) (by decide) (by decide) ?_ ?_) | (with_reducible refine Vc.DrawL.held (es := [(4, 7), (7, 5)]) [0, 1, 2, 3, 4, 7, 5, 6, 8, 9, 10, 11] [] (by decide +kernel) ?_) | (with_reducible refine Vc.DrawL.held (es := [(7, 4), (7, 5)]) [0, 1, 2, 3, 7, 4, 5, 6, 8, 9, 10, 11] [] (by decide +kernel) ?_)); (conv => whnf)) | (refine Vc.stp ?_; intros; (conv => whnf)))))
  refine LoopH.intro (fun (s : EsS) => [(7, .int .i64 s.i), (6, .slice s.a s.i s.cap)]) (fun s H' => s.i ≤ k ∧ Own H' H1.size 26 3 s.a s.i s.cap (s.fs.flatMap encF) ∧ ToldL H' s.fs (dirsE s.i) ∧ Ext H1 H') (fun s => k - s.i) ⟨0, [], none, 0⟩ ⟨rfl, rfl, trivial⟩ ⟨Nat.zero_le _, Own.nil _ _ _ _, trivial, Ext.refl _⟩ ?_
  rintro ⟨i, fs, sa, sc⟩ H2 ⟨hi, ho2, ht2, hx2⟩
  dsimp only at hi ho2 ht2 hx2 ⊢
  by_cases hlt : i < k
  · have hb1 : ((97 : Int) + (i : Int) % 26) % 256 = (((UInt8.ofNat (97 + i % 26)).toNat : Nat) : Int) := by rw [UInt8.toNat_ofNat']; omega
    have hb2 : ((97 : Int) + (i : Int) / 26) % 256 = (((UInt8.ofNat (97 + i / 26)).toNat : Nat) : Int) := by rw [UInt8.toNat_ofNat']; omega
    ((conv => whnf); repeat (any_goals (first | ((refine RemH.pos (by omega) ?_); (conv => whnf)) | ((refine QuoH.i64 (by omega) ?_); (conv => whnf)) | ((refine ArithH.u8m ?_; first | rw [hb1] | rw [hb2]); (conv => whnf)) | ((rename_i H3 z3 b3 x3; refine to_string' (l := [UInt8.ofNat (97 + i % 26), UInt8.ofNat (97 + i / 26)]) rfl rfl rfl (Blk.row (c := strV [UInt8.ofNat (97 + i % 26), UInt8.ofNat (97 + i / 26)]) b3) rfl ?_); (conv => whnf)) | (((with_reducible apply afileB1); (focus ((conv => whnf)))); (conv => whnf)) | ((rename_i Hm zm bm xm; have bm' : Blk Hm H3.size (encF ([UInt8.ofNat (97 + i % 26), UInt8.ofNat (97 + i / 26)], true, none, 0, 0)).toArray 26 := bm; have x2m : Ext H2 Hm := x3.trans xm; refine NextH.pushF bm' (ho2.ext x2m) (by have := hx2.size; have := x2m.size; omega) (by omega) ⟨_, rfl, fun _ h => by cases h⟩ ?_; intro a6 c6 H6 ho6 hz6 hw6); (conv => whnf)) | (refine Vc.stp ?_; intros; (conv => whnf)))))
    have hto : Told Hm ([UInt8.ofNat (97 + i % 26), UInt8.ofNat (97 + i / 26)], true, none, 0, 0) (dirE i) := ⟨rfl, rfl, rfl, Own.nil _ _ _ _⟩
    have ht6 : ToldL H6 (fs ++ [([UInt8.ofNat (97 + i % 26), UInt8.ofNat (97 + i / 26)], true, none, 0, 0)]) (dirsE (i + 1)) := by
      rw [dirsE_snoc]
      exact (ToldL.snoc hto (ht2.ext x2m)).keep hw6 (own_type (ho2.ext x2m) (by decide))
    exact ⟨⟨i + 1, _, a6, c6⟩, ⟨rfl, rfl, trivial⟩, ⟨by show i + 1 ≤ k; omega, ho6, ht6, (hx2.trans x2m).wr (ho2.ext x2m) (Nat.le_refl _) hw6⟩, by show k - (i + 1) < k - i; omega⟩
  · obtain rfl : i = k := by omega
    have hrf : RowF H2 sa (dirsE i) := ⟨_, ho2.row, ht2.files⟩
    have hpl := dirsE_pack i
    have hdl := dirsE_len i
    have hdb : ∀ f ∈ dirsE i, f.2.2.length ≤ 1000000 := fun f hf => by
      obtain ⟨j, _, rfl⟩ := List.mem_map.1 hf
      exact Nat.zero_le _
    obtain ⟨B, hB, hBl⟩ := dirsE_open (k := i) (by omega)
    obtain ⟨L, hL⟩ : ∃ L, dirsE i = L := ⟨_, rfl⟩
    rw [hL] at hrf hpl hdl hdb hB
    clear ho2 ht2
    obtain ⟨E, hE, hE0⟩ : ∃ E : Nat, (if i ≤ 500 then 0 else 64) = E ∧ (E = 0 ↔ i ≤ 500) := by
      by_cases h5 : i ≤ 500
      · exact ⟨0, if_pos h5, fun _ => h5, fun _ => rfl⟩
      · exact ⟨64, if_neg h5, fun h => (by cases h), fun h => absurd h h5⟩
    rw [hE] at hB
    have hc : (!((E : Int) == 0) == decide ((498 : Int) + (n.toNat : Int) % 5 ≤ 500)) = false := by
      by_cases h5 : i ≤ 500
      · rw [hE0.2 h5, decide_eq_true (by omega)]; rfl
      · rw [decide_eq_false (by omega)]
        have : ¬ E = 0 := fun h => h5 (hE0.1 h)
        have e : ((E : Int) == 0) = false := by rw [beq_eq_false_iff_ne]; omega
        rw [e]; rfl
    have key : ∀ {P : Prop}, (E = 0 → P) → (¬ E = 0 → P) → P := fun h1 h2 => (Classical.em (E = 0)).elim h1 h2
    ((conv => whnf); repeat (any_goals (first | ((refine (rpack_any L _ i sc _ hrf hdl (by omega) hdb).mono ?_; rintro _ Hv ⟨⟨av, cv, rfl, hov⟩, hxv⟩; have hzv := hxv.size); (conv => whnf)) | ((refine (openA_any (packF L) av _ cv _ hov.row rfl hov.cap_le (own_max hov) (by omega)).mono ?_; rintro _ Hw ⟨⟨aw, cw, rfl, _, _⟩, hxw⟩; have hzw := hxw.size; rw [hB]; dsimp only); (conv => whnf)) | (refine Vc.stp ?_; intros; (conv => whnf)))))
    refine key (fun h0 => ?_) (fun h0 => ?_)
    all_goals
      have hBi : E = 0 → (B.length : Int) = 498 + (n.toNat : Int) % 5 := fun h => by rw [hBl (hE0.1 h)]; omega
      try have hBi := hBi h0
      ((conv => whnf); repeat (any_goals (first | (refine Vc.stp ?_; intros; (conv => whnf)))))
    all_goals
      have hx1w : Ext H1 Hw := hx2.trans (hxv.trans hxw)
      clear hBi hc hB hov hpl hrf hdb hdl hL hBl hE hE0 h0 hxv hxw hx2
      refine LoopH.intro (fun (s : EsS) => [(11, .int .i64 s.i), (10, .slice s.a s.i s.cap)]) (fun s H' => s.i ≤ 4 ∧ Own H' Hw.size 26 3 s.a s.i s.cap (s.fs.flatMap encF) ∧ ToldL H' s.fs (bigsE s.i) ∧ Ext Hw H') (fun s => 4 - s.i) ⟨0, [], none, 0⟩ ⟨rfl, rfl, trivial⟩ ⟨Nat.zero_le _, Own.nil _ _ _ _, trivial, Ext.refl _⟩ ?_
      rintro ⟨j, gs, ga, gc⟩ H2' ⟨hj, ho2, ht2, hx2⟩
      dsimp only at hj ho2 ht2 hx2 ⊢
      by_cases hlt4 : j < 4
      · have hb : ((97 : Int) + (j : Int)) % 256 = (((UInt8.ofNat (97 + j)).toNat : Nat) : Int) := by rw [UInt8.toNat_ofNat']; omega
        ((conv => whnf); repeat (any_goals (first | ((refine ArithH.u8m ?_; rw [hb]); (conv => whnf)) | ((refine NeedH.mk ⟨(by (show 1 + 1 ≤ 9223372036854775807); decide), ?_⟩); (conv => whnf)) | (((with_reducible apply SemH.lit (vs := [.int .u8 (UInt8.ofNat (97 + j)).toNat])); (focus (rfl)); (focus (rfl)); (focus (rfl)); (focus (rfl)); (focus (rfl)); (focus (rfl)); (focus (rfl)); (focus ((intro H3 z3 b3 x3; (conv => whnf))))); (conv => whnf)) | ((refine to_string' (l := [UInt8.ofNat (97 + j)]) rfl rfl rfl (by first | exact Blk.row (c := strV [UInt8.ofNat (97 + j)]) b3 | exact (Blk.row (c := strV [UInt8.ofNat (97 + j)]) b3).ext hx4) rfl ?_); (conv => whnf)) | ((refine SemH.make (n := 65524) rfl rfl rfl (by decide) (by decide) ?_; intro H4 ho4 hx4; have hz4 := hx4.size); (conv => whnf)) | (((with_reducible apply fileB2); (focus ((conv => whnf)))); (conv => whnf)) | ((rename_i Hm zm bm xm; obtain ⟨ab, bm', hown⟩ : ∃ ab, Blk Hm _ (encF ([98] ++ [UInt8.ofNat (97 + j)], false, ab, 65524, 65524)).toArray 26 ∧ Own Hm 0 5 1 ab 65524 65524 (strV (List.replicate 65524 0)) := (by first | exact ⟨some ⟨H3.size, 0, none⟩, by unfold encF; rw [← mkS_app]; exact bm, by rw [← made_strV]; exact Go.Vc.Own.ext (Go.Vc.Own.base ho4 (Nat.zero_le _)) xm⟩ | exact ⟨some ⟨H2'.size, 0, none⟩, by unfold encF; rw [← mkS_app]; exact bm, by rw [← made_strV]; exact Go.Vc.Own.ext (Go.Vc.Own.ext (Go.Vc.Own.base ho4 (Nat.zero_le _)) x3) xm⟩); have x2m : Ext H2' Hm := (by (repeat (first | assumption | exact Vc.Ext.refl _ | ((with_reducible apply Vc.Ext.trans); (case k => assumption)) | ((with_reducible apply Vc.Ext.but); (case k => assumption); (case hb => omega))))); refine NextH.pushF bm' (ho2.ext x2m) (by have := hx2.size; have := x2m.size; omega) (by omega) ⟨_, rfl, fun _ h => by cases h⟩ ?_; intro a6 c6 H6 ho6 hz6 hw6); (conv => whnf)) | ((first | (with_reducible refine Vc.DrawH.lin (id := 16) mixed ?_) | (with_reducible refine Vc.DrawL.split (es := []) 5 7 (by decide) (by decide) (by decide) ?_ ?_) | (with_reducible refine Vc.DrawL.held (es := [(5, 7)]) [0, 1, 2, 3, 4, 5, 6, 7, 8, 9, 10, 11] [] (by decide +kernel) ?_) | (with_reducible refine Vc.DrawL.split (es := [(7, 5)]) 4 7 (by decide) (by decide) (by decide) ?_ ?_) | (with_reducible refine Vc.DrawL.held (es := [(4, 7), (7, 5)]) [0, 1, 2, 3, 4, 7, 5, 6, 8, 9, 10, 11] [] (by decide +kernel) ?_) | (with_reducible refine Vc.DrawL.held (es := [(7, 4), (7, 5)]) [0, 1, 2, 3, 7, 4, 5, 6, 8, 9, 10, 11] [] (by decide +kernel) ?_)); (conv => whnf)) | (refine Vc.stp ?_; intros; (conv => whnf)))))
        all_goals
          have hto : Told Hm ([98] ++ [UInt8.ofNat (97 + j)], false, ab, 65524, 65524) (bigE 65524 j) := ⟨rfl, rfl, by unfold bigE; rw [List.length_replicate], by unfold bigE; rw [List.length_replicate]; exact hown⟩
          have ht6 : ToldL H6 (gs ++ [([98] ++ [UInt8.ofNat (97 + j)], false, ab, 65524, 65524)]) (bigsE (j + 1)) := by
            rw [bigsE_snoc]
            exact (ToldL.snoc hto (ht2.ext x2m)).keep hw6 (own_type (ho2.ext x2m) (by decide))
          exact ⟨⟨j + 1, _, a6, c6⟩, ⟨rfl, rfl, trivial⟩, ⟨by show j + 1 ≤ 4; omega, ho6, ht6, (hx2.trans x2m).wr (ho2.ext x2m) (Nat.le_refl _) hw6⟩, by show 4 - (j + 1) < 4 - j; omega⟩
      · obtain rfl : j = 4 := by omega
        obtain ⟨g, rfl, hgb⟩ := own_head ho2 (by omega)
        have hgl : gs.length = 4 := by rw [ht2.len, bigsE_len]
        obtain ⟨f0, f1, f2, ⟨p3, d3, a3, n3, c3⟩, rfl⟩ : ∃ f0 f1 f2 f3, gs = [f0, f1, f2, f3] := by
          match gs, hgl with
          | [f0, f1, f2, f3], _ => exact ⟨f0, f1, f2, f3, rfl⟩
        have hb4 : bigsE 4 = [bigE 65524 0, bigE 65524 1, bigE 65524 2, bigE 65524 3] := rfl
        rw [hb4] at ht2
        have h3 : Told H2' (p3, d3, a3, n3, c3) (bigE 65524 3) := ht2.2.2.2.1
        have hn3 : n3 = 65524 := by have := h3.len; unfold bigE at this; rw [List.length_replicate] at this; exact this
        subst hn3
        have hcap := h3.own.cap_le
        unfold bigE at hcap
        rw [List.length_replicate] at hcap
        dsimp only at hcap
        have hc3 : hcell H2' ⟨g, 0 + 3 * 3 + 2, none⟩ = some (.slice a3 65524 c3) := by
          obtain ⟨b, o, ha, _, hc⟩ := ho2.row.at (by simp [encF])
          cases ha
          exact hc 11 _ rfl
        obtain ⟨M, hM⟩ : ∃ M, 65512 + long.toNat % 8 = M := ⟨_, rfl⟩
        have hMe : (65524 : Int) - 12 + (long.toNat : Int) % 8 = (M : Int) := by omega
        ((conv => whnf); repeat (any_goals (first | ((refine IdxA.atK 3 rfl (by decide) ?_); (conv => whnf)) | ((refine RemH.pos (by omega) ?_); (conv => whnf)) | ((refine BndH.nat M hMe (by omega) ?_); (conv => whnf)) | (((with_reducible apply SemH.load_old); (focus (rfl)); (focus ((exact hc3))); (focus ((exact Ext.refl _))); (focus ((conv => whnf)))); (conv => whnf)) | ((first | (with_reducible refine Vc.DrawH.lin (id := 16) mixed ?_) | (with_reducible refine Vc.DrawL.split (es := []) 5 7 (by decide) (by decide) (by decide) ?_ ?_) | (with_reducible refine Vc.DrawL.held (es := [(5, 7)]) [0, 1, 2, 3, 4, 5, 6, 7, 8, 9, 10, 11] [] (by decide +kernel) ?_) | (with_reducible refine Vc.DrawL.split (es := [(7, 5)]) 4 7 (by decide) (by decide) (by decide) ?_ ?_) | (with_reducible refine Vc.DrawL.held (es := [(4, 7), (7, 5)]) [0, 1, 2, 3, 4, 7, 5, 6, 8, 9, 10, 11] [] (by decide +kernel) ?_) | (with_reducible refine Vc.DrawL.held (es := [(7, 4), (7, 5)]) [0, 1, 2, 3, 7, 4, 5, 6, 8, 9, 10, 11] [] (by decide +kernel) ?_)); (conv => whnf)) | (refine Vc.stp ?_; intros; (conv => whnf)))))
        refine DoH.store_ownK (o := 0 + 3 * 3 + 2) ho2 rfl rfl rfl (by decide) ?_
        intro Hu zu hou hbu
        rw [show 0 + 3 * 3 + 2 = 3 * 3 + 2 from rfl, encF_setB _ 3 (p3, d3, a3, 65524, c3) a3 M c3 rfl] at hou
        have htu : ToldL Hu [f0, f1, f2, (p3, d3, a3, 65524, c3)] [bigE 65524 0, bigE 65524 1, bigE 65524 2, bigE 65524 3] := ht2.keep hbu fun b c e hb => own_type ho2 (by decide) b c ⟨_, rfl, e.symm⟩ hb
        have hrM : Row Hu a3 (strV (List.replicate M 0)) := by
          have hr3 := htu.2.2.2.1.own.row
          unfold bigE at hr3
          dsimp only at hr3
          have := hr3.take M
          rw [strV_take, List.take_replicate, Nat.min_eq_left (by omega)] at this
          exact this
        have hru : RowF Hu (some ⟨g, 0, none⟩) (fourE M) := ⟨_, hou.row, ToldL.setB (i := 3) (c := c3) hrM List.length_replicate htu (f := (p3, d3, a3, 65524, c3)) (x := bigE 65524 3) rfl rfl⟩
        have hx1u : Ext H1 Hu := (hx1w.trans hx2).but hbu (by have := hx1w.size; omega)
        have hpl := fourE_pack M
        have hop := fourE_open (m := M) (by omega)
        have hmem : ∀ f ∈ fourE M, f.2.2.length ≤ 1000000 := fun f hf => by
          unfold fourE at hf
          simp only [List.mem_cons, List.not_mem_nil, or_false] at hf
          rcases hf with rfl | rfl | rfl | rfl <;> (unfold bigE; dsimp only; rw [List.length_replicate]; omega)
        have hlen : (fourE M).length = 4 := rfl
        clear hou htu hrM hc3 ht2 ho2 h3 hcap
        obtain ⟨L4, hL4⟩ : ∃ L4, fourE M = L4 := ⟨_, rfl⟩
        rw [hL4] at hru hpl hop hmem hlen
        ((conv => whnf); repeat (any_goals (first | ((refine (rpack_any L4 _ 4 gc _ hru hlen (by decide) hmem).mono ?_; rintro _ Hp ⟨⟨ap, cp, rfl, hpo⟩, hxp⟩; have hzp := hxp.size); (conv => whnf)) | ((refine (openA_any (packF L4) ap _ cp _ hpo.row rfl hpo.cap_le (own_max hpo) (by omega)).mono ?_; rintro _ Hq ⟨⟨aq, cq, rfl, _, _⟩, hxq⟩); (conv => whnf)) | (refine Vc.stp ?_; intros; (conv => whnf)))))
        refine ⟨?_, hx1.trans (hx1u.trans (hxp.trans hxq))⟩
        show Value.bool _ = _
        congr 1
        by_cases h4 : (packF L4).length ≤ 262144
        · rw [hop.2 h4, decide_eq_true (by omega)]; rfl
        · rw [decide_eq_false (by omega)]
          have : ¬ (openF (packF L4)).2 = 0 := fun e => h4 (hop.1 e)
          have e : (((openF (packF L4)).2 : Int) == 0) = false := by rw [beq_eq_false_iff_ne]; omega
          rw [e]; rfl
end Go.Proofs.YtjcmcmogbkdjcaaDoor
