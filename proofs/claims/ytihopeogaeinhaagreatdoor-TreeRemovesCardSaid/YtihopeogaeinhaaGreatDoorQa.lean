import Derived.Test.YtihopeogaeinhaaGreatDoorPj
import Derived.Test.YtihopeogaeinhaaGreatDoorMp
import Derived.Test.YtihopeogaeinhaaGreatDoorPf
set_option linter.unusedVariables false
set_option linter.unusedSimpArgs false
set_option maxRecDepth 100000
/- Trees of files, the code: what a tree is in a heap. -/
namespace Go.Vc
variable {P : Program} {H H' : Heap}
def dumbV : Value → Bool
  | .int .u8 _ => false
  | .string _ => false
  | _ => true
/-- a block of neither bytes nor texts -/
structure Dumb (H : Heap) (b : Nat) : Prop where
  out : ∀ o v, hcell H ⟨b, o, none⟩ = some v → dumbV v = true
theorem Dumb.map {b : Nat} {l : List (Bs × Value)} (h : MapO H b l) : Dumb H b := ⟨fun o v hv => by
  obtain ⟨_, _, h1, _⟩ := h.out
  unfold hcell at hv; rw [h1] at hv; cases hv⟩
theorem Dumb.iter {r b : Nat} {l : List (Bs × Value)} {vis : List Bs} (h : IterO H r b l vis) : Dumb H r := ⟨fun o v hv => by
  obtain ⟨_, _, _, _, _, h1, _⟩ := h.out
  unfold hcell at hv; rw [h1] at hv; cases hv⟩
theorem Dumb.blk {b : Nat} {c : Array Value} {t : TypeId} (h : Blk H b c t) (hc : ∀ v ∈ c.toList, dumbV v = true) : Dumb H b := ⟨fun o v hv => by
  rw [h.cell] at hv
  exact hc v (by rw [← Array.getElem?_toList] at hv; exact List.mem_of_getElem? hv)⟩
theorem Dumb.keep {F : Nat → Prop} {b : Nat} (h : Dumb H b) (hb : b < H.size) (k : Only F H H') (hF : ¬ F b) : Dumb H' b := ⟨fun o v hv => by
  refine h.out o v ?_
  unfold hcell at hv ⊢
  rw [k.same b hb hF] at hv; exact hv⟩
theorem Row.bytes {F : Nat → Prop} {a : Option Addr} {l : List UInt8} (h : Row H a (strV l)) (k : Only F H H') (hF : ∀ b, F b → b < H.size → Dumb H b) : Row H' a (strV l) := h.keep' k fun hne p hp hf => by
  have hpos : 0 < (strV l).length := List.length_pos_iff.2 hne
  obtain ⟨b, o, ha, hlt, hc⟩ := h.at hpos
  rw [ha] at hp; cases hp
  rw [strV_length] at hpos
  have h0 := hc 0 _ (strV_get hpos)
  have := (hF _ hf hlt).out _ _ h0
  cases this
theorem Row.texts {F : Nat → Prop} {a : Option Addr} {l : List Bs} (h : Row H a (strs l)) (k : Only F H H') (hF : ∀ b, F b → b < H.size → Dumb H b) : Row H' a (strs l) := h.keep' k fun hne p hp hf => by
  have hpos : 0 < (strs l).length := List.length_pos_iff.2 hne
  obtain ⟨b, o, ha, hlt, hc⟩ := h.at hpos
  rw [ha] at hp; cases hp
  cases l with
  | nil => exact hne rfl
  | cons x l =>
    have h0 := hc 0 (.string (mkS x)) rfl
    have := (hF _ hf hlt).out _ _ h0
    cases this
end Go.Vc
namespace Go.Proofs.YtihopeogaeinhaaGreatDoor
open Go Go.Vc Go.Scr Go.Pth Go.Tre
/-- a block that is neither bytes nor a node -/
structure Oth (H : Heap) (b : Nat) : Prop where
  dumb : Dumb H b
  nn : ∀ c, ¬ Blk H b c 104
theorem Oth.map {H : Heap} {b : Nat} {l : List (Bs × Value)} (h : MapO H b l) : Oth H b := ⟨.map h, fun _ k => h.ne k rfl⟩
theorem Oth.iter {H : Heap} {r b : Nat} {l : List (Bs × Value)} {vis : List Bs} (h : IterO H r b l vis) : Oth H r := ⟨.iter h, fun _ k => h.neB k rfl⟩
theorem blk_one {H : Heap} {b : Nat} {c d : Array Value} {t u : TypeId} (h : Blk H b c t) (k : Blk H b d u) : t = u ∧ c = d := by
  obtain ⟨_, h1, _⟩ := h.out
  obtain ⟨_, h2, _⟩ := k.out
  rw [h1] at h2; simp only [Option.some.injEq, Obj.cells.injEq] at h2
  exact ⟨h2.2.1, h2.1⟩
theorem Oth.blk {H : Heap} {b : Nat} {c : Array Value} {t : TypeId} (h : Blk H b c t) (hc : ∀ v ∈ c.toList, dumbV v = true) (ht : t ≠ 104) : Oth H b := ⟨.blk h hc, fun _ k => ht (blk_one h k).1⟩
theorem Oth.keep {F : Nat → Prop} {H H' : Heap} {b : Nat} (h : Oth H b) (hb : b < H.size) (k : Only F H H') (hF : ¬ F b) : Oth H' b := ⟨h.dumb.keep hb k hF, fun c hc => h.nn c ⟨by
  obtain ⟨fr, h1, h2⟩ := hc.out
  exact ⟨fr, by rw [← k.same b hb hF]; exact h1, h2⟩⟩⟩
/-- a pointer to a node -/
structure NodeO (H : Heap) (v : Value) (n : Tre.Node) : Prop where
  out : ∃ g a cap, v = .pointer (some ⟨g, 0, none⟩) ∧ Blk H g #[.bool n.1, .slice a n.2.length cap] 104 ∧ Row H a (strV n.2)
theorem NodeO.keep {F : Nat → Prop} {H H' : Heap} {v : Value} {n : Tre.Node} (h : NodeO H v n) (k : Only F H H') (hF : ∀ b, F b → b < H.size → Oth H b) : NodeO H' v n := by
  obtain ⟨g, a, cap, h1, h2, h3⟩ := h.out
  exact ⟨g, a, cap, h1, h2.keep k fun hf => (hF _ hf h2.lt).nn _ h2, h3.bytes k fun b hb hl => (hF b hb hl).dumb⟩
theorem NodeO.ext {H H' : Heap} {v : Value} {n : Tre.Node} (h : NodeO H v n) (k : Ext H H') : NodeO H' v n := h.keep k fun _ h => h.elim
/-- the map of a tree -/
structure MapT (H : Heap) (mb : Nat) (A : Tr) : Prop where
  out : ∃ l, MapO H mb l ∧ (∀ k, mget A k = none → mget l k = none) ∧ ∀ k n, mget A k = some n → ∃ v, mget l k = some v ∧ NodeO H v n
structure TreeO (H : Heap) (b mb : Nat) (A : Tr) : Prop where
  map : MapT H mb A
  blk : Blk H b #[.map (some mb), .int .i64 (sizeT A)] 100
theorem MapT.oth {H : Heap} {mb : Nat} {A : Tr} (h : MapT H mb A) : Oth H mb := let ⟨_, h, _⟩ := h.out; .map h
theorem MapT.lt {H : Heap} {mb : Nat} {A : Tr} (h : MapT H mb A) : mb < H.size := let ⟨_, h, _⟩ := h.out; h.lt
theorem MapT.ne {H : Heap} {mb g : Nat} {A : Tr} {c : Array Value} {t : TypeId} (h : MapT H mb A) (k : Blk H g c t) : mb ≠ g := let ⟨_, h, _⟩ := h.out; h.ne k
theorem MapT.keep {F : Nat → Prop} {H H' : Heap} {mb : Nat} {A : Tr} (h : MapT H mb A) (k : Only F H H') (hm : ¬ F mb) (hF : ∀ b, F b → b < H.size → Oth H b) : MapT H' mb A := by
  obtain ⟨l, h1, h2, h3⟩ := h.out
  exact ⟨l, h1.keep k hm, h2, fun k' n hk => let ⟨v, g1, g2⟩ := h3 k' n hk; ⟨v, g1, g2.keep k hF⟩⟩
theorem MapT.ext {H H' : Heap} {mb : Nat} {A : Tr} (h : MapT H mb A) (k : Ext H H') : MapT H' mb A := h.keep k id fun _ h => h.elim
theorem tree_dumb (mb : Nat) (s : Int) : ∀ v ∈ (#[.map (some mb), .int .i64 s] : Array Value).toList, dumbV v = true := by simp [dumbV]
theorem oth_tree {H : Heap} {b mb : Nat} {s : Int} (h : Blk H b #[.map (some mb), .int .i64 s] 100) : Oth H b := .blk h (tree_dumb _ _) (by decide)
theorem TreeO.oth {H : Heap} {b mb : Nat} {A : Tr} (h : TreeO H b mb A) : Oth H b := oth_tree h.blk
theorem TreeO.keep {F : Nat → Prop} {H H' : Heap} {b mb : Nat} {A : Tr} (h : TreeO H b mb A) (k : Only F H H') (hb : ¬ F b) (hm : ¬ F mb) (hF : ∀ b, F b → b < H.size → Oth H b) : TreeO H' b mb A := ⟨h.map.keep k hm hF, h.blk.keep k hb⟩
theorem TreeO.ext {H H' : Heap} {b mb : Nat} {A : Tr} (h : TreeO H b mb A) (k : Ext H H') : TreeO H' b mb A := h.keep k id id fun _ h => h.elim
/-- only this tree has been written -/
abbrev ButT (b mb : Nat) (H H' : Heap) : Prop := Only (fun x => x = b ∨ x = mb) H H'
theorem TreeO.other {H H' : Heap} {b mb b' mb' : Nat} {A A' : Tr} (h : TreeO H b mb A) (h' : TreeO H b' mb' A') (hb : b ≠ b') (hm : mb ≠ mb') (k : ButT b' mb' H H') : TreeO H' b mb A :=
  h.keep k (fun e => e.elim hb fun e => h'.map.ne h.blk e.symm) (fun e => e.elim (fun e => h.map.ne h'.blk e) hm) fun x e _ => by
    rcases e with rfl | rfl
    · exact h'.oth
    · exact h'.map.oth
theorem MapT.put {H H' : Heap} {mb : Nat} {A : Tr} {l : List (Bs × Value)} {k : Bs} {v : Value} {n : Tre.Node} (h1 : MapO H mb l) (h2 : ∀ k, mget A k = none → mget l k = none) (h3 : ∀ k n, mget A k = some n → ∃ v, mget l k = some v ∧ NodeO H v n) (hv : NodeO H v n) (h4 : MapO H' mb (mput l k v)) (hx : But mb H H') : MapT H' mb (putF A k n) := by
  have ho : ∀ b, b = mb → b < H.size → Oth H b := fun b e _ => by subst e; exact .map h1
  refine ⟨_, h4, fun k' hk' => ?_, fun k' m hk' => ?_⟩
  · rw [mget_putF] at hk'; rw [mget_put]
    split at hk'
    · cases hk'
    · rename_i hne; rw [if_neg hne]; exact h2 _ hk'
  · rw [mget_putF] at hk'; rw [mget_put]
    split at hk'
    · rename_i e; rw [if_pos e]; cases hk'; exact ⟨v, rfl, hv.keep hx ho⟩
    · rename_i hne; rw [if_neg hne]
      obtain ⟨u, g1, g2⟩ := h3 _ _ hk'
      exact ⟨u, g1, g2.keep hx ho⟩
theorem treeGet0 {P : Program} {H : Heap} {t kt et : TypeId} {i : TypeInfo} {z : Value} {mb : Nat} {A : Tr} {k : Bs} {K : Value → Heap → Prop} (hm : MapT H mb A) (hA : mget A k = none) (ht : P.underlying t = some (.map kt et)) (hk : P.underlying kt = some .string)
    (hi : P.info? et = some i) (hz : i.zero = some z) (h : K z H) : SemH P (Instr.lookup t (.map (some mb)) (.string (mkS k)) false) H K := by
  obtain ⟨l, h1, h2, h3⟩ := hm.out
  refine SemH.lookupS h1 ht hk hi hz ?_
  rw [h2 k hA]; exact h
theorem treeGet1 {P : Program} {H : Heap} {t kt et : TypeId} {i : TypeInfo} {z : Value} {mb : Nat} {A : Tr} {k : Bs} {n : Tre.Node} {K : Value → Heap → Prop} (hm : MapT H mb A) (hA : mget A k = some n) (ht : P.underlying t = some (.map kt et)) (hk : P.underlying kt = some .string)
    (hi : P.info? et = some i) (hz : i.zero = some z) (h : ∀ g a cap, Blk H g #[.bool n.1, .slice a n.2.length cap] 104 → Row H a (strV n.2) → K (.pointer (some ⟨g, 0, none⟩)) H) : SemH P (Instr.lookup t (.map (some mb)) (.string (mkS k)) false) H K := by
  obtain ⟨l, h1, h2, h3⟩ := hm.out
  refine SemH.lookupS h1 ht hk hi hz ?_
  obtain ⟨v, g1, g2⟩ := h3 k n hA
  obtain ⟨g, a, cap, rfl, g3, g4⟩ := g2.out
  rw [g1]; exact h g a cap g3 g4
theorem treePut {P : Program} {H : Heap} {t kt et : TypeId} {mb : Nat} {A : Tr} {k : Bs} {v : Value} {n : Tre.Node} {K : Heap → Prop} (hm : MapT H mb A) (hv : NodeO H v n) (ht : P.underlying t = some (.map kt et)) (hk : P.underlying kt = some .string)
    (h : ∀ H', H'.size = H.size → MapT H' mb (putF A k n) → But mb H H' → K H') : DoH P (Instr.mapUpdate t (.map (some mb)) (.string (mkS k)) v) H K := by
  obtain ⟨l, h1, h2, h3⟩ := hm.out
  exact DoH.mapPut h1 ht hk fun H' hz h4 hx => h H' hz (MapT.put h1 h2 h3 hv h4 hx) hx
/-- a path less -/
def delT (A : Tr) (k : Txt) : Tr := A.filter fun x => !(x.1 == k)
theorem mget_delT (A : Tr) (k k' : Txt) : mget (delT A k) k' = if k' = k then none else mget A k' := by
  unfold delT
  rw [mget_filter (fun x => !(x == k))]
  by_cases h : k' = k <;> simp [h]
theorem treeDel {P : Program} {H : Heap} {t u kt et ty : TypeId} {cb : Array Bool} {mb : Nat} {A : Tr} {k : Bs} {K : Value → Heap → Prop} (hm : MapT H mb A) (ht : P.underlying t = some (.map kt et)) (hk : P.underlying kt = some .string)
    (h : ∀ H', H'.size = H.size → MapT H' mb (delT A k) → But mb H H' → K (.tuple #[]) H') : NextH P (builtin .delete #[t, u] ty cb #[.map (some mb), .string (mkS k)]) H K := by
  obtain ⟨l, h1, h2, h3⟩ := hm.out
  refine NextH.mapDelete h1 ht hk fun H' hz h4 hx => h H' hz ⟨_, h4, fun k' hk' => ?_, fun k' m hk' => ?_⟩ hx
  · rw [mget_delT] at hk'; rw [mget_del h1.nodup]
    split at hk'
    · rename_i e; rw [if_pos e]
    · rename_i hne; rw [if_neg hne]; exact h2 _ hk'
  · rw [mget_delT] at hk'; rw [mget_del h1.nodup]
    split at hk'
    · cases hk'
    · rename_i hne; rw [if_neg hne]
      obtain ⟨w, g1, g2⟩ := h3 _ _ hk'
      exact ⟨w, g1, g2.keep hx fun b e _ => by subst e; exact .map h1⟩
theorem MapT.len {H : Heap} {mb : Nat} {A : Tr} {l : List (Bs × Value)} (hA : (A.map (·.1)).Nodup) (h1 : MapO H mb l) (h2 : ∀ k, mget A k = none → mget l k = none) (h3 : ∀ k n, mget A k = some n → ∃ v, mget l k = some v ∧ NodeO H v n) : A.length = l.length :=
  keys_len hA h1.nodup fun k => ⟨h2 k, fun h => by
    cases hg : mget A k with
    | none => rfl
    | some n => obtain ⟨v, g, _⟩ := h3 k n hg; rw [h] at g; cases g⟩
theorem treeLen {P : Program} {H : Heap} {t kt et ty : TypeId} {ts : Array TypeId} {mb : Nat} {A : Tr} {K : Value → Heap → Prop} (hm : MapT H mb A) (hA : Sorted A) (h0 : ts[0]? = some t) (ht : P.underlying t = some (.map kt et))
    (h : K (.int .i64 A.length) H) : SemH P (Builtin.len_ ts ty #[.map (some mb)]) H K := by
  obtain ⟨l, h1, h2, h3⟩ := hm.out
  refine SemH.mapLen h1 h0 ht ?_
  rw [← MapT.len hA.nodup h1 h2 h3]; exact h
/-- an answer to what stands at a path -/
def AtV (H : Heap) (v : Value) : Option Tre.Node → Prop
  | none => v = .pointer none
  | some n => NodeO H v n
def nodeAt (A : Tr) (p : Txt) : Option Tre.Node := if p = [] then some (true, []) else mget A p
end Go.Proofs.YtihopeogaeinhaaGreatDoor
