import Derived.Test.YtlgcfcdmldlefaaDoorVq
set_option linter.unusedVariables false
set_option linter.unusedSimpArgs false
set_option maxRecDepth 100000
/- Errors, joined: what the laws lean on. -/
namespace Go.Vc
/-- one element more, of one cell; what else is written -/
theorem NextH.push1w {P : Program} {H0 H : Heap} {t u e ty : TypeId} {i : TypeInfo} {z v : Value} {a : Option Addr} {n cap g : Nat} {xs : List Value} {cb : Array Bool} {K : Value → Heap → Prop}
    (hlit : Blk H g #[v] e) (hown : Own H H0.size e 1 a n cap xs) (hx : Ext H0 H) (hn : n ≤ 4000000000000) (ht : P.underlying t = some (.slice e)) (hu : ∃ d, P.underlying u = some d ∧ (∀ k, d ≠ .int k)) (hi : P.info? e = some i) (hz : i.zero = some z) (hzs : z.cells.size = i.size) (h1 : i.size = 1)
    (hby : Nat.ble i.bytes 16 = true) (h0 : Nat.ble 1 i.bytes = true) (hp : plainV v = true)
    (hk : ∀ a' cap' H', Own H' H0.size e 1 a' (n + 1) cap' (xs ++ [v]) → Ext H0 H' → Wr a H H' → K (.slice a' (n + 1) cap') H') :
    NextH P (builtin .append #[t, u] ty cb #[.slice a n cap, .slice (some ⟨g, 0, none⟩) 1 1]) H K := by
  have hby := Nat.le_of_ble_eq_true hby
  have h0 := Nat.le_of_ble_eq_true h0
  have hown : Own H H0.size e i.size a n cap xs := by rw [h1]; exact hown
  have hk : ∀ a' cap' H', Own H' H0.size e i.size a' (n + 1) cap' (xs ++ [v]) → Ext H0 H' → Wr a H H' → K (.slice a' (n + 1) cap') H' := fun a' c' H' h => hk a' c' H' (by rw [h1] at h; exact h)
  refine NextH.append (m := 1) (news := [v]) ht hu hi hz hzs hown (Src.row (Blk.row (c := [v]) hlit) (by rw [h1]; rfl) (by simpa using hp)) (by unfold maxLen; omega) ?_ hx.size fun a' cap' H' h1 h2 _ => hk a' cap' H' h1 (hx.wr hown (Nat.le_refl _) h2) h2
  calc (n + 1) * i.bytes ≤ (n + 1) * 16 := Nat.mul_le_mul_left _ hby
    _ ≤ _ := by omega
/-- a block of another kind stays -/
theorem Blk.wr {H H' : Heap} {b base n cap : Nat} {c : Array Value} {t e : TypeId} {a : Option Addr} {size : Nat} {xs : List Value} (h : Blk H b c t) (ho : Own H base e size a n cap xs) (ht : t ≠ e) (k : Wr a H H') : Blk H' b c t := by
  refine h.keep k ?_
  rintro ⟨p, ha, hp⟩
  rcases ho.out with ⟨h1, _⟩ | ⟨g, cur, h1, _, hb, _⟩
  · rw [h1] at ha; cases ha
  · rw [h1] at ha; cases ha
    dsimp only at hp
    subst hp
    obtain ⟨f1, g1, _⟩ := h.out
    obtain ⟨f2, g2, _⟩ := hb.out
    rw [g1] at g2
    simp only [Option.some.injEq, Obj.cells.injEq] at g2
    exact ht g2.2.1
end Go.Vc
namespace Go.Proofs.YtlgcfcdmldlefaaDoor
open Go Go.Vc Go.RowKit Go.Sort
theorem WrV.wr {H H' : Heap} {a : Option Addr} {base n cap : Nat} {xs : List Value} {m : Int} (ho : Own H base 27 1 a n cap xs) (k : Wr a H H') : ∀ (ws : Chain) (v : Value), WrV H ws (NumV m) v → WrV H' ws (NumV m) v
  | [], v, h => h
  | x :: ws, v, ⟨g, v', h1, h2, h3⟩ => ⟨g, v', h1, h2.wr ho (by decide) k, WrV.wr ho k ws v' h3⟩
theorem InV.wr {H H' : Heap} {a : Option Addr} {base n cap : Nat} {xs : List Value} {o : Option (Chain × Int)} {v : Value} (h : InV H o v) (ho : Own H base 27 1 a n cap xs) (k : Wr a H H') : InV H' o v := by
  cases o with
  | none => exact h
  | some c => exact ⟨WrV.wr ho k _ _ h.1, h.2⟩
/-- an error of several, or the one -/
def jCh : List (Chain × Int) → Chain
  | [c] => c.1
  | _ => []
def jB : List (Chain × Int) → Bas
  | [c] => .num c.2
  | cs => .join cs
theorem joinV_err {H : Heap} : ∀ {cs : List (Chain × Int)} {u : Value}, JoinV H cs u → cs ≠ [] → ErV H (jCh cs) (jB cs) u
  | [], _, _, h => absurd rfl h
  | [c], _, h, _ => h
  | _ :: _ :: _, _, h, _ => h
def textJ (cs : List (Chain × Int)) : Bs := Lib.join (cs.map chS) [10]
def firstJ (cs : List (Chain × Int)) : Int := (cs.headD ([], 0)).2
theorem j_text : ∀ {cs : List (Chain × Int)}, cs ≠ [] → wrS (jCh cs) (basT (jB cs)) = textJ cs
  | [], h => absurd rfl h
  | [c], _ => by show chS c = _; simp [textJ, Lib.join]
  | _ :: _ :: _, _ => rfl
theorem j_code : ∀ {cs : List (Chain × Int)}, cs ≠ [] → codeB (jB cs) = firstJ cs
  | [], h => absurd rfl h
  | [c], _ => rfl
  | _ :: _ :: _, _ => rfl
theorem j_is {m : Int} : ∀ {cs : List (Chain × Int)}, cs ≠ [] → isB m (jB cs) = cs.any fun c => c.2 == m
  | [], h => absurd rfl h
  | [c], _ => by show (c.2 == m) = _; simp
  | _ :: _ :: _, _ => rfl
theorem j_ops : ∀ {cs : List (Chain × Int)}, cs ≠ [] → (jCh cs).map (·.1) ++ opsB (jB cs) = (cs.headD ([], 0)).1.map (·.1)
  | [], h => absurd rfl h
  | [c], _ => by show c.1.map (·.1) ++ [] = _; simp
  | _ :: _ :: _, _ => rfl
theorem j_ok : ∀ {cs : List (Chain × Int)}, cs ≠ [] → cs.length ≤ 20 → (∀ c ∈ cs, Small c.1 ∧ I64 c.2) → Small (jCh cs) ∧ BasOk (jB cs)
  | [], h, _, _ => absurd rfl h
  | [c], _, _, h => ⟨(h c (by simp)).1, (h c (by simp)).2⟩
  | c :: d :: cs, _, h20, h => ⟨⟨Nat.zero_le _, fun x hx => by cases hx⟩, by simp, h20, h⟩
theorem join_snoc : ∀ (ws : List Bs) (w : Bs), ws ≠ [] → Lib.join (ws ++ [w]) [10] = Lib.join ws [10] ++ (10 :: w)
  | [], _, h => absurd rfl h
  | [u], w, _ => by simp [Lib.join, List.intercalate]
  | u :: v :: ws, w, _ => by
    have := join_snoc (v :: ws) w (by simp)
    simp [Lib.join, List.intercalate] at this ⊢
    exact this
theorem textJ_nil : textJ [] = [] := rfl
theorem textJ_snoc (cs : List (Chain × Int)) (c : Chain × Int) : textJ (cs ++ [c]) = textJ cs ++ ((if cs = [] then [] else [10]) ++ chS c) := by
  by_cases h : cs = []
  · subst h; simp [textJ, Lib.join]
  · unfold textJ
    rw [List.map_append, List.map_singleton, join_snoc _ _ (by simpa using h), if_neg h]; simp
theorem textJ_len (cs : List (Chain × Int)) (h : cs.length ≤ 20) (hs : ∀ c ∈ cs, Small c.1 ∧ I64 c.2) : (textJ cs).length ≤ 200000 := by
  have := join_len (cs.map chS) 7000 (fun w hw => by obtain ⟨c, hc, rfl⟩ := List.mem_map.1 hw; exact chS_len c (hs c hc).1 (hs c hc).2)
  rw [List.length_map] at this
  unfold textJ
  have h2 : 7001 * cs.length ≤ 7001 * 20 := Nat.mul_le_mul_left _ h
  omega
end Go.Proofs.YtlgcfcdmldlefaaDoor
