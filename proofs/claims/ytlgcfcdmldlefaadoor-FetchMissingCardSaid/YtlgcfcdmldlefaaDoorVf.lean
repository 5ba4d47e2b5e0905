import Derived.Test.YtlgcfcdmldlefaaDoorVd
set_option linter.unusedVariables false
set_option linter.unusedSimpArgs false
set_option maxRecDepth 100000
/- Errors: what they wrap; errors.Is. -/
namespace Go.Proofs.YtlgcfcdmldlefaaDoor
open Go Go.Vc Go.RowKit Go.Sort
theorem unwrapF_any {H : Heap} {g : Nat} {op nm : ByteArray} {v : Value} (hb : Blk H g #[.string op, .string nm, v] 43) : CallH Tryd.prog 24 [.pointer (some ⟨g, 0, none⟩)] H fun u H' => u = v ∧ H = H' := by
  refine Vc.CallH.body Tryd.func24 Tryd.call24 rfl (by decide +kernel) rfl ?_
  ((conv => whnf); repeat (any_goals (first | (refine Vc.stp ?_; intros; (conv => whnf)) | (refine Vc.spl ?_ ?_ <;> (intro _; (conv => whnf))))))
  exact ⟨rfl, rfl⟩
theorem plain_wr {H : Heap} {ws : Chain} {n : Int} {v : Value} (h : WrV H ws (NumV n) v) : plainV v = true ∧ ∃ t x, v = .iface t x := by
  cases ws with
  | nil => have h : v = _ := h; subst h; exact ⟨rfl, _, _, rfl⟩
  | cons x ws => obtain ⟨g, v', rfl, _⟩ := h; exact ⟨rfl, _, _, rfl⟩
theorem clone_any {H : Heap} {a : Option Addr} {n cap : Nat} {vs : List Value} (hr : Row H a vs) (hn : vs.length = n) (h0 : 0 < n) (hm : n ≤ 1000) (hp : ∀ v ∈ vs, plainV v = true) : CallH Tryd.prog 174 [.slice a n cap] H fun u H' => (∃ a' cap', u = .slice a' n cap' ∧ Row H' a' vs) ∧ Ext H H' := by
  obtain ⟨b, o, ha, _⟩ := hr.at (by omega)
  refine Vc.CallH.body Tryd.func174 Tryd.call174 rfl (by decide +kernel) rfl ?_
  subst ha
  ((conv => whnf); repeat (any_goals (first | ((refine CondH.neg rfl ?_); (conv => whnf)) | (((with_reducible apply SemH.lit (vs := [])); (focus (rfl)); (focus (rfl)); (focus (rfl)); (focus (rfl)); (focus (rfl)); (focus (rfl)); (focus (rfl)); (focus ((intro _ _ _ _; (conv => whnf))))); (conv => whnf)) | (refine Vc.stp ?_; intros; (conv => whnf)))))
  rename_i H1 hs1 hb1 hx1
  have ho1 : Own H1 H.size 27 1 (some ⟨H.size, 0, none⟩) 0 0 [] := own_lit (xs := []) hb1 (Nat.le_refl _) rfl (Nat.zero_le _)
  refine NextH.append (i := Tryd.t27) (z := .nilIface) (base := H.size) rfl ⟨_, rfl, fun _ h => by cases h⟩ rfl rfl rfl ho1 (Src.row (hr.ext hx1) (by rw [hn]; exact (Nat.mul_one n).symm) hp) (by unfold maxLen; omega) (by show (0 + n) * 16 ≤ _; omega) hx1.size ?_
  intro a2 c2 H2 ho2 hw2 _
  ((conv => whnf); repeat (any_goals (first | (refine Vc.stp ?_; intros; (conv => whnf)))))
  refine ⟨⟨a2, c2, by rw [Nat.zero_add]; rfl, ?_⟩, hx1.wr ho1 (Nat.le_refl _) hw2⟩
  have := ho2.row
  rwa [List.nil_append] at this
/-- an element of a row of values of one cell -/
theorem IdxA.val {H : Heap} {a : Option Addr} {vs : List Value} {n : Nat} {i : Int} {K : Addr → Prop} (h : Row H a vs) (hn : vs.length = n) (j : Nat) (v : Value) (hi : i = j) (hv : vs[j]? = some v)
    (hk : ∀ b o, hcell H ⟨b, o + j, none⟩ = some v → K ⟨b, o + j, none⟩) : IdxA a n 1 i K := by
  have hj := (List.getElem?_eq_some_iff.1 hv).1
  refine (Go.Vc.IdxA.row (size := 1) h (by rw [hn, Nat.mul_one]) (by decide) j hi (by omega) fun b o h1 h2 h3 => ?_)
  have h3 := h3 0 v (by rw [Nat.mul_one, Nat.add_zero]; exact hv)
  rw [Nat.mul_one]
  rw [Nat.mul_one] at h3
  exact hk b o (by simpa using h3)
theorem is_num {m : Int} : ∀ (ws : Chain) (n : Int) (H : Heap) (v : Value), WrV H ws (NumV n) v → CallH Tryd.prog 72 [v, .iface 25 (.int .i64 m), .bool true] H fun u H' => u = .bool (n == m) ∧ H = H' := by
  intro ws n H v h
  refine Vc.CallH.body Tryd.func72 Tryd.call72 rfl (by decide +kernel) rfl ?_
  ((conv => whnf); repeat (any_goals (first | (refine Vc.sts ?_; (conv => whnf)))))
  refine LoopH.intro (fun (x : Chain × Value) => [(0, x.2)]) (fun x H' => H = H' ∧ WrV H x.1 (NumV n) x.2) (fun x => x.1.length) (ws, v) ⟨rfl, trivial⟩ ⟨rfl, h⟩ ?_
  rintro ⟨ws, v⟩ _ ⟨rfl, h⟩
  dsimp only at h ⊢
  cases ws with
  | nil =>
    have h : v = _ := h
    subst h
    by_cases hnm : n = m
    · have e : (n == m) = true := by rw [beq_iff_eq]; exact hnm
      rw [e]
      ((conv => whnf); repeat (any_goals (first | ((with_reducible apply eq_ee); (conv => whnf)) | ((with_reducible apply ta_e_f); (conv => whnf)) | ((with_reducible apply ta_e_e); (conv => whnf)) | ((with_reducible apply ta_e_j); (conv => whnf)) | ((with_reducible apply ta_e_i); (conv => whnf)) | ((with_reducible apply ta_e_u); (conv => whnf)) | ((with_reducible apply ta_e_w); (conv => whnf)) | ((with_reducible apply ta_e_a); (conv => whnf)) | ((with_reducible apply ta_f_f); (conv => whnf)) | ((with_reducible apply ta_f_e); (conv => whnf)) | ((with_reducible apply ta_f_j); (conv => whnf)) | ((with_reducible apply ta_f_i); (conv => whnf)) | ((with_reducible apply ta_f_u); (conv => whnf)) | ((with_reducible apply ta_f_w); (conv => whnf)) | ((with_reducible apply ta_f_a); (conv => whnf)) | ((with_reducible apply ta_j_f); (conv => whnf)) | ((with_reducible apply ta_j_e); (conv => whnf)) | ((with_reducible apply ta_j_j); (conv => whnf)) | ((with_reducible apply ta_j_i); (conv => whnf)) | ((with_reducible apply ta_j_u); (conv => whnf)) | ((with_reducible apply ta_j_w); (conv => whnf)) | ((with_reducible apply ta_j_a); (conv => whnf)) | ((with_reducible apply eq_ee); (conv => whnf)) | ((with_reducible apply eq_fe); (conv => whnf)) | ((with_reducible apply eq_je); (conv => whnf)) | (refine Vc.stp ?_; intros; (conv => whnf)) | (refine Vc.spl ?_ ?_ <;> (intro _; (conv => whnf))))))
      exact ⟨rfl, rfl⟩
    · have e : (n == m) = false := by rw [beq_eq_false_iff_ne]; exact hnm
      rw [e]
      ((conv => whnf); repeat (any_goals (first | ((with_reducible apply eq_ee); (conv => whnf)) | ((with_reducible apply ta_e_f); (conv => whnf)) | ((with_reducible apply ta_e_e); (conv => whnf)) | ((with_reducible apply ta_e_j); (conv => whnf)) | ((with_reducible apply ta_e_i); (conv => whnf)) | ((with_reducible apply ta_e_u); (conv => whnf)) | ((with_reducible apply ta_e_w); (conv => whnf)) | ((with_reducible apply ta_e_a); (conv => whnf)) | ((with_reducible apply ta_f_f); (conv => whnf)) | ((with_reducible apply ta_f_e); (conv => whnf)) | ((with_reducible apply ta_f_j); (conv => whnf)) | ((with_reducible apply ta_f_i); (conv => whnf)) | ((with_reducible apply ta_f_u); (conv => whnf)) | ((with_reducible apply ta_f_w); (conv => whnf)) | ((with_reducible apply ta_f_a); (conv => whnf)) | ((with_reducible apply ta_j_f); (conv => whnf)) | ((with_reducible apply ta_j_e); (conv => whnf)) | ((with_reducible apply ta_j_j); (conv => whnf)) | ((with_reducible apply ta_j_i); (conv => whnf)) | ((with_reducible apply ta_j_u); (conv => whnf)) | ((with_reducible apply ta_j_w); (conv => whnf)) | ((with_reducible apply ta_j_a); (conv => whnf)) | ((with_reducible apply eq_ee); (conv => whnf)) | ((with_reducible apply eq_fe); (conv => whnf)) | ((with_reducible apply eq_je); (conv => whnf)) | (refine Vc.stp ?_; intros; (conv => whnf)) | (refine Vc.spl ?_ ?_ <;> (intro _; (conv => whnf))))))
      exact ⟨rfl, rfl⟩
  | cons x ws =>
    obtain ⟨g, v', rfl, hb, hw⟩ := h
    obtain ⟨_, ty, pl, rfl⟩ := plain_wr hw
    ((conv => whnf); repeat (any_goals (first | ((with_reducible apply ta_e_f); (conv => whnf)) | ((with_reducible apply ta_e_e); (conv => whnf)) | ((with_reducible apply ta_e_j); (conv => whnf)) | ((with_reducible apply ta_e_i); (conv => whnf)) | ((with_reducible apply ta_e_u); (conv => whnf)) | ((with_reducible apply ta_e_w); (conv => whnf)) | ((with_reducible apply ta_e_a); (conv => whnf)) | ((with_reducible apply ta_f_f); (conv => whnf)) | ((with_reducible apply ta_f_e); (conv => whnf)) | ((with_reducible apply ta_f_j); (conv => whnf)) | ((with_reducible apply ta_f_i); (conv => whnf)) | ((with_reducible apply ta_f_u); (conv => whnf)) | ((with_reducible apply ta_f_w); (conv => whnf)) | ((with_reducible apply ta_f_a); (conv => whnf)) | ((with_reducible apply ta_j_f); (conv => whnf)) | ((with_reducible apply ta_j_e); (conv => whnf)) | ((with_reducible apply ta_j_j); (conv => whnf)) | ((with_reducible apply ta_j_i); (conv => whnf)) | ((with_reducible apply ta_j_u); (conv => whnf)) | ((with_reducible apply ta_j_w); (conv => whnf)) | ((with_reducible apply ta_j_a); (conv => whnf)) | ((with_reducible apply eq_ee); (conv => whnf)) | ((with_reducible apply eq_fe); (conv => whnf)) | ((with_reducible apply eq_je); (conv => whnf)) | ((refine NextH.method (unwrap_f _) ?_; refine (unwrapF_any hb).mono ?_; rintro _ _ ⟨rfl, rfl⟩); (conv => whnf)) | (refine Vc.stp ?_; intros; (conv => whnf)) | (refine Vc.spl ?_ ?_ <;> (intro _; (conv => whnf))))))
    exact ⟨(ws, .iface ty pl), ⟨rfl, trivial⟩, ⟨rfl, hw⟩, by show ws.length < ws.length + 1; omega⟩
theorem unwrapJ_any {H : Heap} {g : Nat} {a : Option Addr} {n cap : Nat} {vs : List Value} (hb : Blk H g #[.slice a n cap] 101) (hr : Row H a vs) (hn : vs.length = n) (h0 : 0 < n) (hm : n ≤ 1000) (hp : ∀ v ∈ vs, plainV v = true) : CallH Tryd.prog 173 [.pointer (some ⟨g, 0, none⟩)] H fun u H' => (∃ a' cap', u = .slice a' n cap' ∧ Row H' a' vs) ∧ Ext H H' := by
  refine Vc.CallH.body Tryd.func173 Tryd.call173 rfl (by decide +kernel) rfl ?_
  ((conv => whnf); repeat (any_goals (first | ((refine (clone_any hr hn h0 hm hp).mono ?_; rintro _ H1 ⟨⟨a1, c1, rfl, hr1⟩, hx1⟩); (conv => whnf)) | (refine Vc.stp ?_; intros; (conv => whnf)) | (refine Vc.spl ?_ ?_ <;> (intro _; (conv => whnf))))))
  exact ⟨⟨a1, c1, rfl, hr1⟩, hx1⟩
/-- is the number among them -/
def isB (m : Int) : Bas → Bool
  | .num n => n == m
  | .join l => l.any fun c => c.2 == m
/-- what is joined is something, not too much -/
def BasOk : Bas → Prop
  | .num n => I64 n
  | .join l => 0 < l.length ∧ l.length ≤ 20 ∧ ∀ c ∈ l, Small c.1 ∧ I64 c.2
theorem bas_iface {H : Heap} {b : Bas} {v : Value} (h : BasV H b v) : ∃ t x, v = .iface t x := by
  cases b with
  | num n => exact ⟨_, _, h⟩
  | join l => obtain ⟨g, a, cap, vs, rfl, _⟩ := h; exact ⟨_, _, rfl⟩
theorem join_plain {H : Heap} {l : List (Chain × Int)} {vs : List Value} (hl : vs.length = l.length) (h : ∀ (i : Nat) c v, l[i]? = some c → vs[i]? = some v → WrV H c.1 (NumV c.2) v) : ∀ v ∈ vs, plainV v = true := by
  intro v hv
  obtain ⟨i, hi⟩ := List.getElem?_of_mem hv
  have hil : i < l.length := by have := (List.getElem?_eq_some_iff.1 hi).1; omega
  exact (plain_wr (h i _ v (List.getElem?_eq_getElem hil) hi)).1
set_option maxHeartbeats 1000000 in
theorem is_any {m : Int} : ∀ (ws : Chain) (b : Bas) (H : Heap) (v : Value), BasOk b → ErV H ws b v → CallH Tryd.prog 72 [v, .iface 25 (.int .i64 m), .bool true] H fun u H' => u = .bool (isB m b) ∧ Ext H H' := by
  intro ws b H v hok h
  refine Vc.CallH.body Tryd.func72 Tryd.call72 rfl (by decide +kernel) rfl ?_
  ((conv => whnf); repeat (any_goals (first | (refine Vc.sts ?_; (conv => whnf)))))
  refine LoopH.intro (fun (x : Chain × Value) => [(0, x.2)]) (fun x H' => H = H' ∧ ErV H x.1 b x.2) (fun x => x.1.length) (ws, v) ⟨rfl, trivial⟩ ⟨rfl, h⟩ ?_
  rintro ⟨ws, v⟩ _ ⟨rfl, h⟩
  dsimp only at h ⊢
  cases ws with
  | nil =>
    cases b with
    | num n =>
      have h : v = _ := h
      subst h
      cases e : (n == m)
      · have e2 : isB m (.num n) = false := e
        rw [e2]
        ((conv => whnf); repeat (any_goals (first | ((with_reducible apply eq_ee); (conv => whnf)) | ((with_reducible apply ta_e_f); (conv => whnf)) | ((with_reducible apply ta_e_e); (conv => whnf)) | ((with_reducible apply ta_e_j); (conv => whnf)) | ((with_reducible apply ta_e_i); (conv => whnf)) | ((with_reducible apply ta_e_u); (conv => whnf)) | ((with_reducible apply ta_e_w); (conv => whnf)) | ((with_reducible apply ta_e_a); (conv => whnf)) | ((with_reducible apply ta_f_f); (conv => whnf)) | ((with_reducible apply ta_f_e); (conv => whnf)) | ((with_reducible apply ta_f_j); (conv => whnf)) | ((with_reducible apply ta_f_i); (conv => whnf)) | ((with_reducible apply ta_f_u); (conv => whnf)) | ((with_reducible apply ta_f_w); (conv => whnf)) | ((with_reducible apply ta_f_a); (conv => whnf)) | ((with_reducible apply ta_j_f); (conv => whnf)) | ((with_reducible apply ta_j_e); (conv => whnf)) | ((with_reducible apply ta_j_j); (conv => whnf)) | ((with_reducible apply ta_j_i); (conv => whnf)) | ((with_reducible apply ta_j_u); (conv => whnf)) | ((with_reducible apply ta_j_w); (conv => whnf)) | ((with_reducible apply ta_j_a); (conv => whnf)) | ((with_reducible apply eq_ee); (conv => whnf)) | ((with_reducible apply eq_fe); (conv => whnf)) | ((with_reducible apply eq_je); (conv => whnf)) | (refine Vc.stp ?_; intros; (conv => whnf)) | (refine Vc.spl ?_ ?_ <;> (intro _; (conv => whnf))))))
        exact ⟨rfl, Ext.refl _⟩
      · have e2 : isB m (.num n) = true := e
        rw [e2]
        ((conv => whnf); repeat (any_goals (first | ((with_reducible apply eq_ee); (conv => whnf)) | ((with_reducible apply ta_e_f); (conv => whnf)) | ((with_reducible apply ta_e_e); (conv => whnf)) | ((with_reducible apply ta_e_j); (conv => whnf)) | ((with_reducible apply ta_e_i); (conv => whnf)) | ((with_reducible apply ta_e_u); (conv => whnf)) | ((with_reducible apply ta_e_w); (conv => whnf)) | ((with_reducible apply ta_e_a); (conv => whnf)) | ((with_reducible apply ta_f_f); (conv => whnf)) | ((with_reducible apply ta_f_e); (conv => whnf)) | ((with_reducible apply ta_f_j); (conv => whnf)) | ((with_reducible apply ta_f_i); (conv => whnf)) | ((with_reducible apply ta_f_u); (conv => whnf)) | ((with_reducible apply ta_f_w); (conv => whnf)) | ((with_reducible apply ta_f_a); (conv => whnf)) | ((with_reducible apply ta_j_f); (conv => whnf)) | ((with_reducible apply ta_j_e); (conv => whnf)) | ((with_reducible apply ta_j_j); (conv => whnf)) | ((with_reducible apply ta_j_i); (conv => whnf)) | ((with_reducible apply ta_j_u); (conv => whnf)) | ((with_reducible apply ta_j_w); (conv => whnf)) | ((with_reducible apply ta_j_a); (conv => whnf)) | ((with_reducible apply eq_ee); (conv => whnf)) | ((with_reducible apply eq_fe); (conv => whnf)) | ((with_reducible apply eq_je); (conv => whnf)) | (refine Vc.stp ?_; intros; (conv => whnf)) | (refine Vc.spl ?_ ?_ <;> (intro _; (conv => whnf))))))
        exact ⟨rfl, Ext.refl _⟩
    | join l =>
      obtain ⟨g, a, cap, vs, rfl, hb, hc, hr, hvl, hall⟩ := h
      obtain ⟨h0, h20, hsm⟩ := hok
      have hpl := join_plain hvl hall
      have hU := unwrapJ_any hb hr hvl h0 (by omega) hpl
      obtain ⟨B, hB⟩ : ∃ B, isB m (.join l) = B := ⟨_, rfl⟩
      rw [hB]
      ((conv => whnf); repeat (any_goals (first | ((with_reducible apply ta_e_f); (conv => whnf)) | ((with_reducible apply ta_e_e); (conv => whnf)) | ((with_reducible apply ta_e_j); (conv => whnf)) | ((with_reducible apply ta_e_i); (conv => whnf)) | ((with_reducible apply ta_e_u); (conv => whnf)) | ((with_reducible apply ta_e_w); (conv => whnf)) | ((with_reducible apply ta_e_a); (conv => whnf)) | ((with_reducible apply ta_f_f); (conv => whnf)) | ((with_reducible apply ta_f_e); (conv => whnf)) | ((with_reducible apply ta_f_j); (conv => whnf)) | ((with_reducible apply ta_f_i); (conv => whnf)) | ((with_reducible apply ta_f_u); (conv => whnf)) | ((with_reducible apply ta_f_w); (conv => whnf)) | ((with_reducible apply ta_f_a); (conv => whnf)) | ((with_reducible apply ta_j_f); (conv => whnf)) | ((with_reducible apply ta_j_e); (conv => whnf)) | ((with_reducible apply ta_j_j); (conv => whnf)) | ((with_reducible apply ta_j_i); (conv => whnf)) | ((with_reducible apply ta_j_u); (conv => whnf)) | ((with_reducible apply ta_j_w); (conv => whnf)) | ((with_reducible apply ta_j_a); (conv => whnf)) | ((with_reducible apply eq_ee); (conv => whnf)) | ((with_reducible apply eq_fe); (conv => whnf)) | ((with_reducible apply eq_je); (conv => whnf)) | ((refine NextH.method (unwrap_j _) ?_; refine hU.mono ?_; rintro _ H1 ⟨⟨a1, c1, rfl, hr1⟩, hx1⟩; have hz1 := hx1.size); (conv => whnf)) | (refine Vc.stp ?_; intros; (conv => whnf)) | (refine Vc.spl ?_ ?_ <;> (intro _; (conv => whnf))))))
      refine LoopH.intro (fun (i : Nat) => [(45, .int .i64 i)]) (fun i H' => H1 = H' ∧ i ≤ l.length ∧ B = (l.drop i).any fun c => c.2 == m) (fun i => l.length - i) 0 ⟨rfl, trivial⟩ ⟨rfl, Nat.zero_le _, hB.symm⟩ ?_
      rintro i _ ⟨rfl, hi, hinv⟩
      by_cases hlt : i < l.length
      · obtain ⟨c, hc⟩ : ∃ c, l[i]? = some c := ⟨_, List.getElem?_eq_getElem hlt⟩
        obtain ⟨e, he⟩ : ∃ e, vs[i]? = some e := ⟨_, List.getElem?_eq_getElem (by omega)⟩
        have hdr : l.drop i = c :: l.drop (i + 1) := by
          rw [List.drop_eq_getElem_cons hlt]; congr 1; rw [List.getElem?_eq_getElem hlt] at hc; exact Option.some.inj hc
        rw [hdr, List.any_cons] at hinv
        have hce := WrV.mono hx1 (fun _ h => h) _ _ (hall i c e hc he)
        have hrec := fun H' (k : Ext H1 H') => is_num (m := m) c.1 c.2 H' e (WrV.mono k (fun _ h => h) _ _ hce)
        cases hcm : (c.2 == m)
        · rw [hcm, Bool.false_or] at hinv
          rw [hcm] at hrec
          ((conv => whnf); repeat (any_goals (first | ((refine IdxA.val hr1 hvl i e rfl he ?_; intro _ _ _); (conv => whnf)) | ((refine (hrec _ (by (repeat (first | assumption | exact Vc.Ext.refl _ | ((with_reducible apply Vc.Ext.trans); (case k => assumption)) | ((with_reducible apply Vc.Ext.but); (case k => assumption); (case hb => omega)))))).mono ?_; rintro _ _ ⟨rfl, rfl⟩); (conv => whnf)) | (refine Vc.stp ?_; intros; (conv => whnf)) | (refine Vc.spl ?_ ?_ <;> (intro _; (conv => whnf))))))
          exact ⟨i + 1, ⟨rfl, trivial⟩, ⟨rfl, by omega, hinv⟩, by omega⟩
        · rw [hcm, Bool.true_or] at hinv
          rw [hcm] at hrec
          ((conv => whnf); repeat (any_goals (first | ((refine IdxA.val hr1 hvl i e rfl he ?_; intro _ _ _); (conv => whnf)) | ((refine (hrec _ (by (repeat (first | assumption | exact Vc.Ext.refl _ | ((with_reducible apply Vc.Ext.trans); (case k => assumption)) | ((with_reducible apply Vc.Ext.but); (case k => assumption); (case hb => omega)))))).mono ?_; rintro _ _ ⟨rfl, rfl⟩); (conv => whnf)) | (refine Vc.stp ?_; intros; (conv => whnf)) | (refine Vc.spl ?_ ?_ <;> (intro _; (conv => whnf))))))
          rw [hinv]
          exact ⟨rfl, hx1⟩
      · rw [List.drop_of_length_le (by omega)] at hinv
        ((conv => whnf); repeat (any_goals (first | (refine Vc.stp ?_; intros; (conv => whnf)) | (refine Vc.spl ?_ ?_ <;> (intro _; (conv => whnf))))))
        rw [hinv]
        exact ⟨rfl, hx1⟩
  | cons x ws =>
    obtain ⟨g, v', rfl, hb, hw⟩ := h
    obtain ⟨ty, pl, rfl⟩ := ErV.iface hw
    ((conv => whnf); repeat (any_goals (first | ((with_reducible apply ta_e_f); (conv => whnf)) | ((with_reducible apply ta_e_e); (conv => whnf)) | ((with_reducible apply ta_e_j); (conv => whnf)) | ((with_reducible apply ta_e_i); (conv => whnf)) | ((with_reducible apply ta_e_u); (conv => whnf)) | ((with_reducible apply ta_e_w); (conv => whnf)) | ((with_reducible apply ta_e_a); (conv => whnf)) | ((with_reducible apply ta_f_f); (conv => whnf)) | ((with_reducible apply ta_f_e); (conv => whnf)) | ((with_reducible apply ta_f_j); (conv => whnf)) | ((with_reducible apply ta_f_i); (conv => whnf)) | ((with_reducible apply ta_f_u); (conv => whnf)) | ((with_reducible apply ta_f_w); (conv => whnf)) | ((with_reducible apply ta_f_a); (conv => whnf)) | ((with_reducible apply ta_j_f); (conv => whnf)) | ((with_reducible apply ta_j_e); (conv => whnf)) | ((with_reducible apply ta_j_j); (conv => whnf)) | ((with_reducible apply ta_j_i); (conv => whnf)) | ((with_reducible apply ta_j_u); (conv => whnf)) | ((with_reducible apply ta_j_w); (conv => whnf)) | ((with_reducible apply ta_j_a); (conv => whnf)) | ((with_reducible apply eq_ee); (conv => whnf)) | ((with_reducible apply eq_fe); (conv => whnf)) | ((with_reducible apply eq_je); (conv => whnf)) | ((refine NextH.method (unwrap_f _) ?_; refine (unwrapF_any hb).mono ?_; rintro _ _ ⟨rfl, rfl⟩); (conv => whnf)) | (refine Vc.stp ?_; intros; (conv => whnf)) | (refine Vc.spl ?_ ?_ <;> (intro _; (conv => whnf))))))
    exact ⟨(ws, .iface ty pl), ⟨rfl, trivial⟩, ⟨rfl, hw⟩, by show ws.length < ws.length + 1; omega⟩
end Go.Proofs.YtlgcfcdmldlefaaDoor
