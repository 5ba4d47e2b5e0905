import Derived.Test.YtihopeogaeinhaaGreatDoorQi
import Derived.Test.YtihopeogaeinhaaGreatDoorQj
set_option linter.unusedVariables false
set_option linter.unusedSimpArgs false
set_option maxRecDepth 100000
/- Trees of files, the code: its files, in order; a clone. -/
namespace Go.Proofs.YtihopeogaeinhaaGreatDoor
open Go Go.Vc Go.Scr Go.Pth Go.Tre
theorem len64_any (H : Heap) : CallH Tryz.prog 116 [.int .u64 0] H fun v H' => (∃ l : Int, v = .int .i64 l) ∧ H = H' := by
  refine Vc.CallH.body Tryz.func116 Tryz.call116 rfl (by decide +kernel) rfl ?_
  ((conv => whnf); repeat (any_goals (first | ((refine IdxH.nat 0 rfl (by decide) ?_); (conv => whnf)) | (refine Vc.stp ?_; intros; (conv => whnf)) | (refine Vc.spl ?_ ?_ <;> (intro _; (conv => whnf))))))
  all_goals exact ⟨⟨_, rfl⟩, rfl⟩
theorem len_any (H : Heap) : CallH Tryz.prog 98 [.int .u64 0] H fun v H' => (∃ l : Int, v = .int .i64 l) ∧ H = H' := by
  refine Vc.CallH.body Tryz.func98 Tryz.call98 rfl (by decide +kernel) rfl ?_
  ((conv => whnf); repeat (any_goals (first | ((refine (len64_any _).mono ?_; rintro _ _ ⟨⟨l, rfl⟩, rfl⟩); (conv => whnf)) | (refine Vc.stp ?_; intros; (conv => whnf)) | (refine Vc.spl ?_ ?_ <;> (intro _; (conv => whnf))))))
  all_goals exact ⟨⟨_, rfl⟩, rfl⟩
theorem ins0_any (fv : Value) (H : Heap) : CallH Tryz.prog 107 [.slice none 0 0, .int .i64 0, .int .i64 0, fv] H fun v H' => v = .tuple #[] ∧ H = H' := by
  refine Vc.CallH.body Tryz.func107 Tryz.call107 rfl (by decide +kernel) rfl ?_
  ((conv => whnf); repeat (any_goals (first | (refine Vc.stp ?_; intros; (conv => whnf)) | (refine Vc.spl ?_ ?_ <;> (intro _; (conv => whnf))))))
  refine LoopH.intro (fun (_ : Nat) => [(8, .int .i64 1)]) (fun _ H' => H = H') (fun i => i) 0 ⟨rfl, trivial⟩ rfl ?_
  rintro _ _ rfl
  ((conv => whnf); repeat (any_goals (first | (refine Vc.stp ?_; intros; (conv => whnf)) | (refine Vc.spl ?_ ?_ <;> (intro _; (conv => whnf))))))
  exact ⟨rfl, rfl⟩
theorem pdq0_any (fv : Value) (l : Int) (H : Heap) : CallH Tryz.prog 97 [.slice none 0 0, .int .i64 0, .int .i64 0, .int .i64 l, fv] H fun v H' => v = .tuple #[] ∧ H = H' := by
  refine Vc.CallH.body Tryz.func97 Tryz.call97 rfl (by decide +kernel) rfl ?_
  ((conv => whnf); repeat (any_goals (first | (refine Vc.stp ?_; intros; (conv => whnf)) | (refine Vc.spl ?_ ?_ <;> (intro _; (conv => whnf))))))
  refine LoopH.intro (fun (_ : Nat) => [(1, .int .i64 0), (2, .int .i64 0)]) (fun _ H' => H = H') (fun i => i) 0 ⟨rfl, rfl, trivial⟩ rfl ?_
  rintro _ _ rfl
  ((conv => whnf); repeat (any_goals (first | ((refine (ins0_any fv _).mono ?_; rintro _ _ ⟨rfl, rfl⟩); (conv => whnf)) | (refine Vc.stp ?_; intros; (conv => whnf)) | (refine Vc.spl ?_ ?_ <;> (intro _; (conv => whnf))))))
  exact ⟨rfl, rfl⟩
theorem sortf0_any (fv : Value) (H : Heap) : CallH Tryz.prog 67 [.slice none 0 0, fv] H fun v H' => v = .tuple #[] ∧ H = H' := by
  refine Vc.CallH.body Tryz.func67 Tryz.call67 rfl (by decide +kernel) rfl ?_
  ((conv => whnf); repeat (any_goals (first | ((refine (len_any _).mono ?_; rintro _ _ ⟨⟨l, rfl⟩, rfl⟩); (conv => whnf)) | ((refine (pdq0_any fv l _).mono ?_; rintro _ _ ⟨rfl, rfl⟩); (conv => whnf)) | (refine Vc.stp ?_; intros; (conv => whnf)) | (refine Vc.spl ?_ ?_ <;> (intro _; (conv => whnf))))))
  exact ⟨rfl, rfl⟩
/-- a told file: what it is in a heap -/
structure Told (H : Heap) (f : SF) (x : Bs × Tre.Node) : Prop where
  path : f.1 = x.1
  dir : f.2.1 = x.2.1
  len : f.2.2.2.1 = x.2.2.length
  own : Own H 0 5 1 f.2.2.1 x.2.2.length f.2.2.2.2 (strV x.2.2)
def ToldL (H : Heap) : List SF → Tr → Prop
  | [], [] => True
  | f :: fs, x :: xs => Told H f x ∧ ToldL H fs xs
  | _, _ => False
theorem Told.keep {F : Nat → Prop} {H H' : Heap} {f : SF} {x : Bs × Tre.Node} (h : Told H f x) (k : Only F H H') (hF : ∀ b c, F b → ¬ Blk H b c 5) : Told H' f x := ⟨h.path, h.dir, h.len, h.own.keep k fun p hp hf => by
  rcases h.own.out with ⟨h1, _⟩ | ⟨g, cur, h1, _, hb, _⟩
  · rw [h1] at hp; cases hp
  · rw [h1] at hp; cases hp
    exact hF _ _ hf hb⟩
theorem ToldL.keep {F : Nat → Prop} {H H' : Heap} (k : Only F H H') (hF : ∀ b c, F b → ¬ Blk H b c 5) : ∀ {fs : List SF} {xs : Tr}, ToldL H fs xs → ToldL H' fs xs
  | [], [], h => h
  | f :: fs, x :: xs, ⟨h1, h2⟩ => ⟨h1.keep k hF, ToldL.keep k hF h2⟩
  | [], _ :: _, h => h.elim
  | _ :: _, [], h => h.elim
theorem ToldL.ext {H H' : Heap} {fs : List SF} {xs : Tr} (h : ToldL H fs xs) (k : Ext H H') : ToldL H' fs xs := h.keep k fun _ _ h => h.elim
theorem ToldL.snoc {H : Heap} {f : SF} {x : Bs × Tre.Node} (k : Told H f x) : ∀ {fs : List SF} {xs : Tr}, ToldL H fs xs → ToldL H (fs ++ [f]) (xs ++ [x])
  | [], [], _ => ⟨k, trivial⟩
  | g :: fs, y :: xs, ⟨h1, h2⟩ => ⟨h1, ToldL.snoc k h2⟩
  | [], _ :: _, h => h.elim
  | _ :: _, [], h => h.elim
theorem ToldL.len {H : Heap} : ∀ {fs : List SF} {xs : Tr}, ToldL H fs xs → fs.length = xs.length
  | [], [], _ => rfl
  | g :: fs, y :: xs, ⟨_, h2⟩ => by rw [List.length_cons, List.length_cons, ToldL.len h2]
  | [], _ :: _, h => h.elim
  | _ :: _, [], h => h.elim
theorem ToldL.files {H : Heap} : ∀ {fs : List SF} {xs : Tr}, ToldL H fs xs → FilesV H xs (fs.flatMap encF)
  | [], [], _ => .nil
  | f :: fs, x :: xs, ⟨h1, h2⟩ => by
    have e : encF f = fileC x f.2.2.1 f.2.2.2.2 := by unfold encF fileC; rw [h1.path, h1.dir, h1.len]
    rw [List.flatMap_cons, e]
    exact .cons h1.own.row (ToldL.files h2)
  | [], _ :: _, h => h.elim
  | _ :: _, [], h => h.elim
theorem ToldL.cons_inv {H : Heap} {f : SF} {fs : List SF} {xs : Tr} (h : ToldL H (f :: fs) xs) : ∃ x ys, xs = x :: ys ∧ Told H f x ∧ ToldL H fs ys := by
  cases xs with
  | nil => exact h.elim
  | cons x ys => exact ⟨x, ys, rfl, h.1, h.2⟩
theorem ToldL.perm {H : Heap} {fs fs' : List SF} (hp : fs'.Perm fs) : ∀ {xs : Tr}, ToldL H fs xs → ∃ xs', xs'.Perm xs ∧ ToldL H fs' xs' := by
  induction hp with
  | nil => intro xs h; exact ⟨xs, List.Perm.refl _, h⟩
  | cons f _ ih =>
    intro xs h
    obtain ⟨x, ys, rfl, h1, h2⟩ := h.cons_inv
    obtain ⟨ys', hp, h3⟩ := ih h2
    exact ⟨x :: ys', hp.cons x, h1, h3⟩
  | swap f g l =>
    intro xs h
    obtain ⟨x, ys, rfl, h1, h2⟩ := h.cons_inv
    obtain ⟨y, zs, rfl, h3, h4⟩ := h2.cons_inv
    exact ⟨y :: x :: zs, List.Perm.swap x y zs, h3, h1, h4⟩
  | trans _ _ ih1 ih2 =>
    intro xs h
    obtain ⟨ys, hp1, h1⟩ := ih2 h
    obtain ⟨zs, hp2, h2⟩ := ih1 h1
    exact ⟨zs, hp2.trans hp1, h2⟩
theorem ToldL.sorted {H : Heap} : ∀ {fs : List SF} {xs : Tr}, ToldL H fs xs → fs.Pairwise (fun x y => Op.bytesLess y.1 x.1 = false) → (xs.map (·.1)).Nodup → Sorted xs
  | [], [], _, _, _ => List.Pairwise.nil
  | f :: fs, x :: xs, ⟨h1, h2⟩, hp, hn => by
    rw [List.pairwise_cons] at hp
    rw [List.map_cons, List.nodup_cons] at hn
    refine List.pairwise_cons.2 ⟨fun y hy => ?_, ToldL.sorted h2 hp.2 hn.2⟩
    have : ∀ {fs : List SF} {xs : Tr}, ToldL H fs xs → ∀ y ∈ xs, ∃ g ∈ fs, g.1 = y.1 := by
      intro fs xs
      induction fs generalizing xs with
      | nil => intro h y hy; cases xs with | nil => cases hy | cons _ _ => exact h.elim
      | cons f fs ih =>
        intro h y hy
        obtain ⟨x, ys, rfl, h1, h2⟩ := h.cons_inv
        rcases List.mem_cons.1 hy with rfl | hy
        · exact ⟨f, by simp, h1.path⟩
        · obtain ⟨g, hg, e⟩ := ih h2 y hy; exact ⟨g, by simp [hg], e⟩
    obtain ⟨g, hg, e⟩ := this h2 y hy
    have := hp.1 g hg
    rw [e, h1.path] at this
    exact lt_tri this fun e => hn.1 (by rw [← e]; exact List.mem_map_of_mem hy)
  | [], _ :: _, h, _, _ => h.elim
  | _ :: _, [], h, _, _ => h.elim
/-- one file more -/
theorem NextH.pushF {H : Heap} {u ty : TypeId} {f : SF} {a : Option Addr} {n cap g base : Nat} {fs : List SF} {cb : Array Bool} {K : Value → Heap → Prop}
    (hlit : Blk H g (encF f).toArray 45) (hown : Own H base 45 3 a n cap (fs.flatMap encF)) (hx : base ≤ H.size) (hn : n ≤ 1000000000) (hu : ∃ d, Tryz.prog.underlying u = some d ∧ (∀ k, d ≠ .int k))
    (hk : ∀ a' cap' H', Own H' base 45 3 a' (n + 1) cap' ((fs ++ [f]).flatMap encF) → H.size ≤ H'.size → Wr a H H' → K (.slice a' (n + 1) cap') H') :
    NextH Tryz.prog (builtin .append #[22, u] ty cb #[.slice a n cap, .slice (some ⟨g, 0, none⟩) 1 1]) H K := by
  refine Go.Vc.NextH.append (i := Tryz.t45) (z := .agg #[.string ⟨#[]⟩, .bool false, .slice none 0 0]) (m := 1) (news := encF f) rfl hu rfl rfl rfl hown (Src.row (Blk.row (c := encF f) hlit) rfl (by simp [encF, plainV])) (by unfold maxLen; omega) ?_ hx fun a' cap' H' h1 h2 _ => hk a' cap' H' (by rw [List.flatMap_append, show [f].flatMap encF = encF f by simp]; exact h1) h2.size h2
  show (n + 1) * _ ≤ _
  refine Nat.le_trans (Nat.mul_le_mul_left (n + 1) (show _ ≤ 64 from by decide)) (by omega)
structure FiS where
  vis : List Bs
  fs : List SF
  a : Option Addr
  cap : Nat
theorem fileB {K : Value → Prop} {o1 o2 o3 : Operand} {s : ByteArray} {x : Bool} {a : Option Addr} {n c : Nat} (h : K (.agg #[.string s, .bool x, .slice a n c])) : PureH Tryz.prog (Instr.build 45 ((List.map (fun x : Nat × Operand => x.1) (#[(0, o1), (1, o2), (2, o3)] : Array (Nat × Operand)).toList).zip [.string s, .bool x, .slice a n c]).toArray) K := PureH.build _ (by kernel_rfl) h
set_option maxHeartbeats 4000000 in
theorem files_any {b mb : Nat} {A : Tr} {H : Heap} (h : TreeO H b mb A) (hA : Sorted A) (hAl : A.length ≤ 1000000) (hf : ∀ k n, mget A k = some n → n.2.length ≤ 1000000000) : CallH Tryz.prog 31 [.pointer (some ⟨b, 0, none⟩)] H fun v H' =>
    (∃ a cap, v = .slice a A.length cap ∧ A.length ≤ cap ∧ RowF H' a A ∧ ∀ p, a = some p → H.size ≤ p.block) ∧ Ext H H' := by
  have hb := h.blk
  obtain ⟨lm, hm, h2, h3⟩ := h.map.out
  have hkeys := maps_keys h2 h3
  have hlen := MapT.len hA.nodup hm h2 h3
  refine Vc.CallH.body Tryz.func31 Tryz.call31 rfl (by decide +kernel) rfl ?_
  ((conv => whnf); repeat (any_goals (first | (((with_reducible apply SemH.rangeMap hm); (focus (rfl)); (focus ((intro H1 z1 it1 x1; (conv => whnf))))); (conv => whnf)) | (refine Vc.stp ?_; intros; (conv => whnf)) | (refine Vc.spl ?_ ?_ <;> (intro _; (conv => whnf))))))
  refine LoopH.intro (fun (x : FiS) => [(3, .slice x.a x.vis.length x.cap)])
    (fun x H' => IterO H' H.size mb lm x.vis ∧ Own H' H1.size 45 3 x.a x.vis.length x.cap (x.fs.flatMap encF) ∧ ToldL H' x.fs (x.vis.map fun k => (k, nodeOf A k)) ∧ Ext H H') (fun x => lm.length - x.vis.length) ⟨[], [], none, 0⟩ ⟨rfl, trivial⟩ ⟨it1, Own.nil _ _ _ _, trivial, x1⟩ ?_
  rintro ⟨vis, fs, a, cap⟩ H2 ⟨hit, ho2, hto, hx2⟩
  dsimp only at hit ho2 hto ⊢
  have hz2 := hx2.size
  have hvl := nodup_len hit.nodup hit.sub
  rw [List.length_map] at hvl
  have hfl := hto.len
  rw [List.length_map] at hfl
  have hso : ∀ H', Own H' H1.size 45 3 a vis.length cap (fs.flatMap encF) → CallH Tryz.prog 67 [.slice a vis.length cap, .func (.func 68) #[] #[]] H' fun v H'' => v = .tuple #[] ∧ (∃ l' : List SF, l'.Perm fs ∧ l'.Pairwise (fun x y => Op.bytesLess y.1 x.1 = false) ∧ Own H'' H1.size 45 3 a vis.length cap (l'.flatMap encF)) ∧ Wr a H' H'' := fun H' ho => by
    rcases ho.out with ⟨rfl, h0, rfl⟩ | ⟨g, cur, rfl, _⟩
    · have e : fs = [] := List.eq_nil_of_length_eq_zero (by omega)
      subst e
      rw [h0]
      exact (sortf0_any _ H').mono fun v H'' ⟨h1, h2⟩ => ⟨h1, ⟨[], List.Perm.refl _, List.Pairwise.nil, Own.nil _ _ _ _⟩, by subst h2; exact Only.refl _ _⟩
    · exact sortf_any fs g vis.length cap H1.size H' ho hfl (by omega)
  ((conv => whnf); repeat (any_goals (first | (((with_reducible refine SemH.nextMap hit ?_ ?_); rotate_left; intro k v H5 hkv hkn z5 hit5 hcur hx5; (conv => whnf); rotate_left; intro hall; (conv => whnf)); (conv => whnf)) | ((refine (hso _ ho2).mono ?_; rintro _ H6 ⟨rfl, ⟨l', hp', hpw, ho6⟩, hx6⟩; have hz6 := hx6.size); (conv => whnf)) | (refine Vc.stp ?_; intros; (conv => whnf)))))
  · have hx26 : Ext H H6 := hx2.wr ho2 (by omega) hx6
    have hto6 : ToldL H6 fs (vis.map fun k => (k, nodeOf A k)) := hto.keep hx6 fun x c hxp hc => by
      rcases ho2.out with ⟨h1, _⟩ | ⟨g, cur, h1, _, hb, _⟩
      · rw [h1] at hxp; obtain ⟨p, hp, _⟩ := hxp; cases hp
      · rw [h1] at hxp; obtain ⟨p, hp, e⟩ := hxp; cases hp; subst e
        exact absurd (blk_one hb hc).1 (by decide)
    obtain ⟨xs', hxp, hto7⟩ := hto6.perm hp'
    have hvp : vis.Perm (A.map (·.1)) := (List.perm_ext_iff_of_nodup hit.nodup hA.nodup).2 fun k => ⟨fun hk => (hkeys k).1 (hit.sub k hk), fun hk => hall k ((hkeys k).2 hk)⟩
    have hvA : (vis.map fun k => (k, nodeOf A k)).Perm A := by
      refine (hvp.map fun k => (k, nodeOf A k)).trans (List.Perm.of_eq ?_)
      rw [List.map_map]
      refine (List.map_congr_left fun x hx => ?_).trans (List.map_id A)
      show (x.1, nodeOf A x.1) = x
      unfold nodeOf
      rw [mget_of_mem hA.nodup hx]; rfl
    have hxA := hxp.trans hvA
    have hxn : (xs'.map (·.1)).Nodup := (hxA.map _).nodup_iff.2 hA.nodup
    have hxs := hto7.sorted hpw hxn
    have e := sorted_perm hxs hA hxA
    rw [e] at hto7
    have el : vis.length = A.length := by have := hvp.length_eq; rwa [List.length_map] at this
    rw [el] at ho6
    refine ⟨⟨a, cap, by rw [← el]; rfl, ho6.cap_le, ⟨_, ho6.row, hto7.files⟩, fun p hp => by have := (ho6.block p hp).1; omega⟩, hx26⟩
  · have hkm : mget lm k = some v := mget_of_mem hm.nodup hkv
    obtain ⟨n, hg⟩ : ∃ n, mget A k = some n := by
      cases hg : mget A k with
      | none => rw [h2 k hg] at hkm; cases hkm
      | some n => exact ⟨n, rfl⟩
    obtain ⟨v', hv', hno⟩ := h3 k n hg
    rw [hkm] at hv'; cases hv'
    have hx05 : Ext H H5 := hx2.but hx5 (Nat.le_refl _)
    obtain ⟨g1, a1, c1, rfl, hb1, hr1⟩ := (hno.ext hx05).out
    have hnl := hf k n hg
    have hno : nodeOf A k = n := by unfold nodeOf; rw [hg]; rfl
    have ho5 := ho2.keep hx5 fun p hp e => ho2.low (b := H.size) (by omega) ⟨p, hp, e⟩
    have hto5 := hto.keep hx5 fun x c e hc => by subst e; exact hit.neB hc rfl
    ((conv => whnf); repeat (any_goals (first | (((with_reducible apply SemH.entryMap hcur); (focus ((conv => whnf)))); (conv => whnf)) | ((refine (clone_any n.2 a1 n.2.length c1 _ (hr1.ext (by (repeat (first | assumption | exact Vc.Ext.refl _ | ((with_reducible apply Vc.Ext.trans); (case k => assumption)) | ((with_reducible apply Vc.Ext.but); (case k => assumption); (case hb => omega)))))) rfl (by omega)).mono ?_; rintro _ H6 ⟨⟨a6, c6, rfl, ho6⟩, hx6⟩; have hz6 := hx6.size); (conv => whnf)) | (((with_reducible apply fileB); (focus ((conv => whnf)))); (conv => whnf)) | ((refine NextH.pushF (f := (k, n.1, a6, n.2.length, c6)) (fs := fs) (by assumption) (ho5.ext (by (repeat (first | assumption | exact Vc.Ext.refl _ | ((with_reducible apply Vc.Ext.trans); (case k => assumption)) | ((with_reducible apply Vc.Ext.but); (case k => assumption); (case hb => omega)))))) (by omega) (by omega) ⟨_, rfl, fun _ h => by cases h⟩ ?_; intro a8 c8 H8 ho8 hz8 hw8); (conv => whnf)) | (((with_reducible refine Vc.DrawH.held [0, 1, 2, 3, 4, 5, 6, 7, 8, 9, 10, 11, 12, 13, 14] [(10, [5])] mixed (by decide +kernel) ?_)); (conv => whnf)) | (refine Vc.stp ?_; intros; (conv => whnf)) | (refine Vc.spl ?_ ?_ <;> (intro _; (conv => whnf))))))
    rename_i H7 z7 b7 x7
    have ho7 := (ho5.ext hx6).ext x7
    have hx57 := hx6.trans x7
    have ht7 : ToldL H7 (fs ++ [(k, n.1, a6, n.2.length, c6)]) ((vis ++ [k]).map fun k => (k, nodeOf A k)) := by
      rw [List.map_append, List.map_singleton]
      refine (hto5.ext hx57).snoc ⟨rfl, by rw [hno], by rw [hno], ?_⟩
      rw [hno]
      exact (ho6.base (Nat.zero_le _)).ext x7
    have ht8 := ht7.keep hw8 fun x c hxp hc => by
      rcases ho7.out with ⟨h1, _⟩ | ⟨g, cur, h1, _, hb, _⟩
      · rw [h1] at hxp; obtain ⟨p, hp, _⟩ := hxp; cases hp
      · rw [h1] at hxp; obtain ⟨p, hp, e⟩ := hxp; cases hp; subst e
        exact absurd (blk_one hb hc).1 (by decide)
    have hvl5 : (vis ++ [k]).length = vis.length + 1 := by simp
    rw [← hvl5] at ho8
    have hvn := nodup_len hit5.nodup hit5.sub
    rw [List.length_map] at hvn
    exact ⟨⟨vis ++ [k], fs ++ [(k, n.1, a6, n.2.length, c6)], a8, c8⟩, ⟨by dsimp only; rw [hvl5]; rfl, trivial⟩, ⟨(hit5.ext hx57).wr ho7 hw8, ho8, ht8, (hx05.trans hx57).wr ho7 (by omega) hw8⟩, by show lm.length - (vis ++ [k]).length < lm.length - vis.length; omega⟩
theorem MapT.congr {H : Heap} {mb : Nat} {A B : Tr} (h : MapT H mb A) (e : ∀ k, mget A k = mget B k) : MapT H mb B := by
  obtain ⟨l, h1, h2, h3⟩ := h.out
  exact ⟨l, h1, fun k hk => h2 k (by rw [e]; exact hk), fun k n hk => h3 k n (by rw [e]; exact hk)⟩
def partT (A : Tr) (vis : List Bs) : Tr := A.filter fun x => vis.any fun k => k == x.1
theorem mget_partT (A : Tr) (vis : List Bs) (k : Bs) : mget (partT A vis) k = if k ∈ vis then mget A k else none := by
  unfold partT
  rw [mget_filter (fun x => vis.any fun k => k == x)]
  by_cases h : k ∈ vis
  · rw [if_pos h, if_pos]
    simp; exact h
  · rw [if_neg h, if_neg]
    intro hh
    rw [List.any_eq_true] at hh
    obtain ⟨x, hx, e⟩ := hh
    rw [beq_iff_eq] at e; subst e
    exact h hx
set_option maxHeartbeats 4000000 in
theorem tclone_any {b mb : Nat} {A : Tr} {H : Heap} (h : TreeO H b mb A) (hA : (A.map (·.1)).Nodup) : CallH Tryz.prog 39 [.pointer (some ⟨b, 0, none⟩)] H fun v H' => (∃ b' mb', v = .pointer (some ⟨b', 0, none⟩) ∧ TreeO H' b' mb' A ∧ H.size ≤ b' ∧ H.size ≤ mb') ∧ Ext H H' := by
  have hb := h.blk
  have hbl := hb.lt
  obtain ⟨lm, hm, h2, h3⟩ := h.map.out
  have hml0 := hm.lt
  have hkeys := maps_keys h2 h3
  refine Vc.CallH.body Tryz.func39 Tryz.call39 rfl (by decide +kernel) rfl ?_
  ((conv => whnf); repeat (any_goals (first | ((refine (new_any _).mono ?_; rintro _ H1 ⟨⟨b', mb', rfl, ht1, hb1, hm1⟩, hx1⟩; have hz1 := hx1.size; have htb1 := ht1.blk; have hbl1 := htb1.lt; have hml1 := ht1.map.lt; have hne1 := ht1.map.ne htb1); (conv => whnf)) | (((with_reducible apply SemH.rangeMap ((hm.ext hx1).but (by assumption) (by omega))); (focus (rfl)); (focus ((intro H3 z3 it3 x3; (conv => whnf))))); (conv => whnf)) | (refine Vc.stp ?_; intros; (conv => whnf)) | (refine Vc.spl ?_ ?_ <;> (intro _; (conv => whnf))))))
  rename_i H2 z2 b2 x2
  have b2 : Blk H2 b' #[.map (some mb'), .int .i64 (sizeT A)] 100 := b2
  have hx02 : Ext H H2 := hx1.but x2 hb1
  have mt2 : MapT H2 mb' [] := ht1.map.keep x2 hne1 fun x e _ => by subst e; exact ht1.oth
  refine LoopH.intro (fun (_ : List Bs) => []) (fun vis H' => IterO H' H2.size mb lm vis ∧ MapT H' mb' (partT A vis) ∧ Blk H' b' #[.map (some mb'), .int .i64 (sizeT A)] 100 ∧ Ext H H') (fun vis => lm.length - vis.length) [] trivial ⟨it3, (mt2.ext x3).congr fun k => by rw [mget_partT]; rfl, b2.ext x3, hx02.trans x3⟩ ?_
  rintro vis H4 ⟨hit, mt4, tb4, hx4⟩
  have hz4 := hx4.size
  have hvl := nodup_len hit.nodup hit.sub
  rw [List.length_map] at hvl
  have hrl := hit.lt
  have hne2 := mt4.ne tb4
  ((conv => whnf); repeat (any_goals (first | (((with_reducible refine SemH.nextMap hit ?_ ?_); rotate_left; intro k v H5 hkv hkn z5 hit5 hcur hx5; (conv => whnf); rotate_left; intro hall; (conv => whnf)); (conv => whnf)) | (refine Vc.stp ?_; intros; (conv => whnf)))))
  · refine ⟨⟨b', mb', rfl, ⟨mt4.congr fun k => ?_, tb4⟩, hb1, hm1⟩, hx4⟩
    rw [mget_partT]
    by_cases hk : k ∈ vis
    · rw [if_pos hk]
    · rw [if_neg hk]
      exact (mget_none.2 fun hh => hk (hall k ((hkeys k).2 hh))).symm
  · have hkm : mget lm k = some v := mget_of_mem hm.nodup hkv
    obtain ⟨n, hg⟩ : ∃ n, mget A k = some n := by
      cases hg : mget A k with
      | none => rw [h2 k hg] at hkm; cases hkm
      | some n => exact ⟨n, rfl⟩
    obtain ⟨v', hv', hno⟩ := h3 k n hg
    rw [hkm] at hv'; cases hv'
    have hx05 : Ext H H5 := hx4.but hx5 (by omega)
    obtain ⟨g1, a1, c1, rfl, hb1', hr1⟩ := (hno.ext hx05).out
    have oi : ∀ x, x = H2.size → x < H4.size → Oth H4 x := fun x e _ => by subst e; exact .iter hit
    have mt5 := mt4.keep hx5 (fun e => by subst e; exact hit.ne.symm (by have := mt4.out; obtain ⟨l, hl, _⟩ := this; exact absurd rfl (hit.neM hl))) oi
    have tb5 := tb4.but hx5 (fun e => by subst e; exact hit.neB tb4 rfl)
    ((conv => whnf); repeat (any_goals (first | (((with_reducible apply SemH.entryMap hcur); (focus ((conv => whnf)))); (conv => whnf)) | (((with_reducible apply treePut (n := n)); (focus ((exact mt5.ext (by (repeat (first | assumption | exact Vc.Ext.refl _ | ((with_reducible apply Vc.Ext.trans); (case k => assumption)) | ((with_reducible apply Vc.Ext.but); (case k => assumption); (case hb => omega)))))))); (focus ((exact ⟨_, a1, c1, rfl, by assumption, hr1.ext (by (repeat (first | assumption | exact Vc.Ext.refl _ | ((with_reducible apply Vc.Ext.trans); (case k => assumption)) | ((with_reducible apply Vc.Ext.but); (case k => assumption); (case hb => omega)))))⟩))); (focus (rfl)); (focus (rfl)); (focus ((intro H8 z8 m8 x8; (conv => whnf))))); (conv => whnf)) | (refine Vc.stp ?_; intros; (conv => whnf)) | (refine Vc.spl ?_ ?_ <;> (intro _; (conv => whnf))))))
    rename_i H6 z6 b6 x6 H7 z7 b7 x7
    have hx57 : Ext H5 H7 := by (repeat (first | assumption | exact Vc.Ext.refl _ | ((with_reducible apply Vc.Ext.trans); (case k => assumption)) | ((with_reducible apply Vc.Ext.but); (case k => assumption); (case hb => omega))))
    have hne3 : mb' ≠ H2.size := fun e => by obtain ⟨l, hl, _⟩ := mt4.out; exact hit.neM hl e.symm
    have hvn := nodup_len hit5.nodup hit5.sub
    rw [List.length_map, List.length_append, List.length_singleton] at hvn
    refine ⟨vis ++ [k], trivial, ⟨(hit5.ext hx57).keep x8 (fun e => hne3 e.symm) (fun e => by omega), m8.congr fun k' => ?_, (tb5.ext hx57).but x8 hne2.symm, (hx05.trans hx57).but x8 (by omega)⟩, by rw [List.length_append, List.length_singleton]; omega⟩
    rw [mget_putF, mget_partT, mget_partT]
    by_cases hk : k' = k
    · rw [if_pos hk, if_pos (by simp [hk]), hk, hg]
    · rw [if_neg hk]
      by_cases hk2 : k' ∈ vis
      · rw [if_pos hk2, if_pos (by simp [hk2])]
      · rw [if_neg hk2, if_neg (by simp [hk2, hk])]
end Go.Proofs.YtihopeogaeinhaaGreatDoor
