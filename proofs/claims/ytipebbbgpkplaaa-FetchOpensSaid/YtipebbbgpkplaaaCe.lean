import Derived.Test.YtipebbbgpkplaaaCd
set_option linter.unusedVariables false
set_option maxRecDepth 100000
/- What a call under try comes to: its panic is caught. -/
namespace Go.Proofs.Ytipebbbgpkplaaa
open Go Go.Vc

theorem agrees_nil (a : Act) : Agrees [] a := fun i v h => by cases h
/-- a piece of code by the engine, in the model's own words -/
theorem wp_of_vc {P : Program} {n : Nat} {c : Code} {env : Env} {Q : Post} {a : Act} {w : World} (hf : fitsC n c = true) (ha : Agrees env a) (hn : a.tmps.size = n) (h : vcCode P n c env w.heap Q) : c.wp P (LiftQ w n a (mods c) Q) a w :=
  (vcCode_sound c env w.heap Q hf h).out w a w ha rfl hn (Same.refl w) rfl

theorem wpOpsS_recover {P : Program} {ops : Array Oper} {Q : Exit → Act → List Frame → World → Prop} {i : Nat} {rest : List Nat} {a : Act} {cs cs' : List Frame} {w : World} {o : Oper} {d : Nat} {v : Value} (ho : ops[i]? = some o) (hop : o.op = .call { callee := .builtin .recover, args := #[], argTypes := #[] }) (hg : o.guard = none) (hd : o.dst = some d)
    (hr : (recoverD cs = some (v, cs')) ∨ (recoverD cs = none ∧ v = .nilIface ∧ cs' = cs)) (h : wpOpsS P ops Q rest (a.put (some d) v) cs' w) : wpOpsS P ops Q (i :: rest) a cs w := by
  unfold wpOpsS
  have he : (execOp a.eval o).run P w = .ok .recover w := by unfold execOp; rw [hop]; rfl
  have hw : Region.wanted o (yielded ops a.tmps) = true := by unfold Region.wanted; rw [hg]
  rw [ho]
  dsimp only
  rw [if_pos hw, he]
  dsimp only
  rcases hr with hr | ⟨hr, rfl, rfl⟩
  · rw [hr, hd]; exact h
  · rw [hr, hd]; exact h
theorem wpOpsS_assign {P : Program} {ops : Array Oper} {Q : Exit → Act → List Frame → World → Prop} {i : Nat} {rest : List Nat} {a : Act} {cs : List Frame} {w : World} {o : Oper} {d : Nat} {x : Operand} {v : Value} (ho : ops[i]? = some o) (hop : o.op = .assign x) (hg : o.guard = none) (hd : o.dst = some d) (hv : a.eval x = v)
    (h : wpOpsS P ops Q rest (a.put (some d) v) cs w) : wpOpsS P ops Q (i :: rest) a cs w := by
  unfold wpOpsS
  have he : (execOp a.eval o).run P w = .ok (.value v) w := by unfold execOp; rw [hop, ← hv]; rfl
  have hw : Region.wanted o (yielded ops a.tmps) = true := by unfold Region.wanted; rw [hg]
  rw [ho]
  dsimp only
  rw [if_pos hw, he]
  dsimp only [Oper.upon]
  rw [hd]; exact h
/-- x := recover() -/
theorem wpS_rec {P : Program} {id : Nat} {o0 o1 : Oper} {Q : Exit → Act → List Frame → World → Prop} {a : Act} {cs cs' : List Frame} {w : World} {d0 d1 : Nat} {v : Value} (h0 : o0.op = .call { callee := .builtin .recover, args := #[], argTypes := #[] }) (g0 : o0.guard = none) (e0 : o0.dst = some d0)
    (h1 : o1.op = .assign (.tmp d0)) (g1 : o1.guard = none) (e1 : o1.dst = some d1) (hd : d0 < a.tmps.size) (hr : (recoverD cs = some (v, cs')) ∨ (recoverD cs = none ∧ v = .nilIface ∧ cs' = cs)) (h : Q .normal ((a.put (some d0) v).put (some d1) v) cs' w) : (Code.region id #[o0, o1] false).wpS P Q a cs w := by
  refine wpS_region ?_
  show wpOpsS P #[o0, o1] Q [0, 1] a cs w
  refine wpOpsS_recover (o := o0) rfl h0 g0 e0 hr (wpOpsS_assign (o := o1) rfl h1 g1 e1 ?_ h)
  simp [Act.eval, Act.put, Array.getD_eq_getD_getElem?, hd]
def recC : List PanicEntry := [{ v := stopV, recovered := true }]
set_option maxHeartbeats 2000000 in
/-- behind a panic: the reader has failed, the answer is false -/
theorem back_panic (g b0 b1 : Nat) (sl : Value) (o : Value) (w : World) (h0 : Blk w.heap b0 #[.pointer (some ⟨g, 0, none⟩)] 77) (hr : Blk w.heap g #[sl, .bool false] 98) (h1 : Blk w.heap b1 #[o] 4) (hg : g ≠ b1) :
    CallsD Try.prog 61 #[.pointer (some ⟨b0, 0, none⟩), .pointer (some ⟨b1, 0, none⟩)] (.panicking stopC) w fun e u' w' => (∃ v, e = .returned v) ∧ settle u' = .returning ∧ Same w w' ∧ Blk w'.heap g #[sl, .bool true] 98 ∧ Blk w'.heap b1 #[.bool false] 4 ∧ Only (fun x => x = g ∨ x = b1) w.heap w'.heap := by
  refine callsD_of_wpS Try.func61 rfl ?_
  intro c₀ cs hu
  obtain ⟨fn, tm, todo, df, md, kd, ro⟩ := c₀
  dsimp only at hu
  subst hu
  refine wpS_seq (wpS_rec (v := stopV) (cs' := { fn := fn, tmps := tm, todo := todo, defers := df, mode := .panicking recC, kind := kd, roundOf := ro } :: cs) rfl rfl rfl rfl rfl rfl (by simp) (.inl rfl) ?_)
  unfold Exit.thenS
  refine wpS_of_wp ?_
  refine wp_mono (wp_of_vc (n := 19) (env := [(2, stopV), (0, .pointer (some ⟨b0, 0, none⟩)), (1, .pointer (some ⟨b1, 0, none⟩))]) (Q := fun e env H' => e = .normal ∧ Blk H' g #[sl, .bool true] 98 ∧ Blk H' b1 #[.bool false] 4 ∧ Only (fun x => x = g ∨ x = b1) w.heap H') rfl ?_ (by simp [Act.put]) ?_) ?_
  · exact (((agrees_nil _).drop (by simp [Act.put])).drop (by simp [Act.put])).drop (by simp [Act.put])
  · unfold stopV
    ((conv => whnf); repeat (any_goals (first | ((refine CondH.pos rfl ?_); (conv => whnf)) | ((with_reducible first | refine Vc.SeqH.go ?_ | refine Vc.StillsH.nil ?_ | refine Vc.CallX.of ?_ | refine Vc.NextX.of ?_ | refine Vc.DrawH.text mixed (by decide +kernel) ?_ | refine Vc.ArithH.i64 (by omega) ?_ | refine Vc.ArithH.u8 (by omega) ?_ | refine Vc.ArithH.u64 (by omega) ?_ | refine Vc.ArithH.u32 (by omega) ?_ | refine Vc.NeedH.mk ⟨by omega, ?_⟩ | refine Vc.QuoH.i64 (by omega) ?_ | refine Vc.RemH.pos (by omega) ?_ | refine Vc.CondH.bnot ?_ | refine Vc.CondH.lit_t ?_ | refine Vc.CondH.lit_f ?_ | refine Vc.SplitH.lit_t ?_ | refine Vc.SplitH.lit_f ?_ | refine Vc.CondH.pos (by first | (rw [decide_eq_true_eq]; omega) | (rw [beq_iff_eq]; omega) | (rw [bne_iff_ne]; omega)) ?_ | refine Vc.CondH.neg (by first | (rw [decide_eq_false_iff_not]; omega) | (rw [beq_eq_false_iff_ne]; omega) | (rw [bne_eq_false_iff_eq]; omega)) ?_); (conv => whnf)))))
    refine ⟨⟨.tuple #[.agg #[], .bool true], fun w => by kernel_rfl, ?_⟩⟩
    ((conv => whnf); repeat (any_goals (first | ((with_reducible first | refine Vc.SeqH.go ?_ | refine Vc.StillsH.nil ?_ | refine Vc.CallX.of ?_ | refine Vc.NextX.of ?_ | refine Vc.DrawH.text mixed (by decide +kernel) ?_ | refine Vc.ArithH.i64 (by omega) ?_ | refine Vc.ArithH.u8 (by omega) ?_ | refine Vc.ArithH.u64 (by omega) ?_ | refine Vc.ArithH.u32 (by omega) ?_ | refine Vc.NeedH.mk ⟨by omega, ?_⟩ | refine Vc.QuoH.i64 (by omega) ?_ | refine Vc.RemH.pos (by omega) ?_ | refine Vc.CondH.bnot ?_ | refine Vc.CondH.lit_t ?_ | refine Vc.CondH.lit_f ?_ | refine Vc.SplitH.lit_t ?_ | refine Vc.SplitH.lit_f ?_ | refine Vc.CondH.pos (by first | (rw [decide_eq_true_eq]; omega) | (rw [beq_iff_eq]; omega) | (rw [bne_iff_ne]; omega)) ?_ | refine Vc.CondH.neg (by first | (rw [decide_eq_false_iff_not]; omega) | (rw [beq_eq_false_iff_ne]; omega) | (rw [bne_eq_false_iff_eq]; omega)) ?_); (conv => whnf)))))
    refine SemH.alloc rfl rfl ?_
    intro H1 hs1 hb1 hx1
    ((conv => whnf); repeat (any_goals (first | ((with_reducible first | refine Vc.SeqH.go ?_ | refine Vc.StillsH.nil ?_ | refine Vc.CallX.of ?_ | refine Vc.NextX.of ?_ | refine Vc.DrawH.text mixed (by decide +kernel) ?_ | refine Vc.ArithH.i64 (by omega) ?_ | refine Vc.ArithH.u8 (by omega) ?_ | refine Vc.ArithH.u64 (by omega) ?_ | refine Vc.ArithH.u32 (by omega) ?_ | refine Vc.NeedH.mk ⟨by omega, ?_⟩ | refine Vc.QuoH.i64 (by omega) ?_ | refine Vc.RemH.pos (by omega) ?_ | refine Vc.CondH.bnot ?_ | refine Vc.CondH.lit_t ?_ | refine Vc.CondH.lit_f ?_ | refine Vc.SplitH.lit_t ?_ | refine Vc.SplitH.lit_f ?_ | refine Vc.CondH.pos (by first | (rw [decide_eq_true_eq]; omega) | (rw [beq_iff_eq]; omega) | (rw [bne_iff_ne]; omega)) ?_ | refine Vc.CondH.neg (by first | (rw [decide_eq_false_iff_not]; omega) | (rw [beq_eq_false_iff_ne]; omega) | (rw [bne_eq_false_iff_eq]; omega)) ?_); (conv => whnf)))))
    refine DoH.put_all hb1 rfl rfl rfl rfl ?_
    intro H2 hs2 hb2 hx2
    have e2 : Ext w.heap H2 := hx1.but hx2 (Nat.le_refl _)
    have h02 := h0.ext e2
    ((conv => whnf); repeat (any_goals (first | (((with_reducible apply SemH.load_at h02); (focus (rfl)); (focus (rfl))); (conv => whnf)) | ((with_reducible first | refine Vc.SeqH.go ?_ | refine Vc.StillsH.nil ?_ | refine Vc.CallX.of ?_ | refine Vc.NextX.of ?_ | refine Vc.DrawH.text mixed (by decide +kernel) ?_ | refine Vc.ArithH.i64 (by omega) ?_ | refine Vc.ArithH.u8 (by omega) ?_ | refine Vc.ArithH.u64 (by omega) ?_ | refine Vc.ArithH.u32 (by omega) ?_ | refine Vc.NeedH.mk ⟨by omega, ?_⟩ | refine Vc.QuoH.i64 (by omega) ?_ | refine Vc.RemH.pos (by omega) ?_ | refine Vc.CondH.bnot ?_ | refine Vc.CondH.lit_t ?_ | refine Vc.CondH.lit_f ?_ | refine Vc.SplitH.lit_t ?_ | refine Vc.SplitH.lit_f ?_ | refine Vc.CondH.pos (by first | (rw [decide_eq_true_eq]; omega) | (rw [beq_iff_eq]; omega) | (rw [bne_iff_ne]; omega)) ?_ | refine Vc.CondH.neg (by first | (rw [decide_eq_false_iff_not]; omega) | (rw [beq_eq_false_iff_ne]; omega) | (rw [bne_eq_false_iff_eq]; omega)) ?_); (conv => whnf)))))
    refine DoH.store1 (o := 0 + 1) (hr.ext e2) rfl rfl rfl (by show 0 + 1 < 2; omega) ?_
    intro H3 hs3 hb3 hx3
    ((conv => whnf); repeat (any_goals (first | ((with_reducible first | refine Vc.SeqH.go ?_ | refine Vc.StillsH.nil ?_ | refine Vc.CallX.of ?_ | refine Vc.NextX.of ?_ | refine Vc.DrawH.text mixed (by decide +kernel) ?_ | refine Vc.ArithH.i64 (by omega) ?_ | refine Vc.ArithH.u8 (by omega) ?_ | refine Vc.ArithH.u64 (by omega) ?_ | refine Vc.ArithH.u32 (by omega) ?_ | refine Vc.NeedH.mk ⟨by omega, ?_⟩ | refine Vc.QuoH.i64 (by omega) ?_ | refine Vc.RemH.pos (by omega) ?_ | refine Vc.CondH.bnot ?_ | refine Vc.CondH.lit_t ?_ | refine Vc.CondH.lit_f ?_ | refine Vc.SplitH.lit_t ?_ | refine Vc.SplitH.lit_f ?_ | refine Vc.CondH.pos (by first | (rw [decide_eq_true_eq]; omega) | (rw [beq_iff_eq]; omega) | (rw [bne_iff_ne]; omega)) ?_ | refine Vc.CondH.neg (by first | (rw [decide_eq_false_iff_not]; omega) | (rw [beq_eq_false_iff_ne]; omega) | (rw [bne_eq_false_iff_eq]; omega)) ?_); (conv => whnf)))))
    refine DoH.store1 (o := 0) ((h1.ext e2).but hx3 hg.symm) rfl rfl rfl (by show 0 < 1; omega) ?_
    intro H4 hs4 hb4 hx4
    ((conv => whnf); repeat (any_goals (first | ((with_reducible first | refine Vc.SeqH.go ?_ | refine Vc.StillsH.nil ?_ | refine Vc.CallX.of ?_ | refine Vc.NextX.of ?_ | refine Vc.DrawH.text mixed (by decide +kernel) ?_ | refine Vc.ArithH.i64 (by omega) ?_ | refine Vc.ArithH.u8 (by omega) ?_ | refine Vc.ArithH.u64 (by omega) ?_ | refine Vc.ArithH.u32 (by omega) ?_ | refine Vc.NeedH.mk ⟨by omega, ?_⟩ | refine Vc.QuoH.i64 (by omega) ?_ | refine Vc.RemH.pos (by omega) ?_ | refine Vc.CondH.bnot ?_ | refine Vc.CondH.lit_t ?_ | refine Vc.CondH.lit_f ?_ | refine Vc.SplitH.lit_t ?_ | refine Vc.SplitH.lit_f ?_ | refine Vc.CondH.pos (by first | (rw [decide_eq_true_eq]; omega) | (rw [beq_iff_eq]; omega) | (rw [bne_iff_ne]; omega)) ?_ | refine Vc.CondH.neg (by first | (rw [decide_eq_false_iff_not]; omega) | (rw [beq_eq_false_iff_ne]; omega) | (rw [bne_eq_false_iff_eq]; omega)) ?_); (conv => whnf)))))
    exact ⟨rfl, hb3.but hx4 hg, hb4, ((e2.only (F := fun x => x = g ∨ x = b1)).trans hx3 fun _ _ e => .inl e).trans hx4 fun _ _ e => .inr e⟩
  · rintro e a' w' ⟨hd, hn, hs, hfr, env, hA, he, k1, k2, k3⟩
    subst he
    exact ⟨hd, _, rfl, .tuple #[], by kernel_rfl, ⟨_, rfl⟩, rfl, hs, k1, k2, k3⟩

/-- behind a return: nothing -/
theorem back_ret (b0 b1 : Nat) (w : World) : CallsD Try.prog 61 #[.pointer (some ⟨b0, 0, none⟩), .pointer (some ⟨b1, 0, none⟩)] .returning w fun e u' w' => (∃ v, e = .returned v) ∧ settle u' = .returning ∧ Same w w' ∧ w'.heap = w.heap := by
  refine callsD_of_wpS Try.func61 rfl ?_
  intro c₀ cs hu
  obtain ⟨fn, tm, todo, df, md, kd, ro⟩ := c₀
  dsimp only at hu
  subst hu
  refine wpS_seq (wpS_rec (v := .nilIface) (cs' := { fn := fn, tmps := tm, todo := todo, defers := df, mode := .returning, kind := kd, roundOf := ro } :: cs) rfl rfl rfl rfl rfl rfl (by simp) (.inr ⟨rfl, rfl, rfl⟩) ?_)
  unfold Exit.thenS
  refine wpS_of_wp ?_
  refine wp_mono (wp_of_vc (n := 19) (env := [(2, .nilIface), (0, .pointer (some ⟨b0, 0, none⟩)), (1, .pointer (some ⟨b1, 0, none⟩))]) (Q := fun e env H' => e = .normal ∧ H' = w.heap) rfl ?_ (by simp [Act.put]) ?_) ?_
  · exact (((agrees_nil _).drop (by simp [Act.put])).drop (by simp [Act.put])).drop (by simp [Act.put])
  · ((conv => whnf); repeat (any_goals (first | ((refine CondH.neg rfl ?_); (conv => whnf)) | ((with_reducible first | refine Vc.SeqH.go ?_ | refine Vc.StillsH.nil ?_ | refine Vc.CallX.of ?_ | refine Vc.NextX.of ?_ | refine Vc.DrawH.text mixed (by decide +kernel) ?_ | refine Vc.ArithH.i64 (by omega) ?_ | refine Vc.ArithH.u8 (by omega) ?_ | refine Vc.ArithH.u64 (by omega) ?_ | refine Vc.ArithH.u32 (by omega) ?_ | refine Vc.NeedH.mk ⟨by omega, ?_⟩ | refine Vc.QuoH.i64 (by omega) ?_ | refine Vc.RemH.pos (by omega) ?_ | refine Vc.CondH.bnot ?_ | refine Vc.CondH.lit_t ?_ | refine Vc.CondH.lit_f ?_ | refine Vc.SplitH.lit_t ?_ | refine Vc.SplitH.lit_f ?_ | refine Vc.CondH.pos (by first | (rw [decide_eq_true_eq]; omega) | (rw [beq_iff_eq]; omega) | (rw [bne_iff_ne]; omega)) ?_ | refine Vc.CondH.neg (by first | (rw [decide_eq_false_iff_not]; omega) | (rw [beq_eq_false_iff_ne]; omega) | (rw [bne_eq_false_iff_eq]; omega)) ?_); (conv => whnf)))))
    exact ⟨rfl, rfl⟩
  · rintro e a' w' ⟨hd, hn, hs, hfr, env, hA, he, k1⟩
    subst he
    exact ⟨hd, _, rfl, .tuple #[], by kernel_rfl, ⟨_, rfl⟩, rfl, hs, k1⟩

theorem results_of {P : Program} {fn : Func} {env : Env} {a : Act} {w : World} {v : Value} (ha : Agrees env a) (h : vcRes P env w.heap fn.results.toList fun vs => one vs = v) : (results fn a.tmps).run P w = .ok v w := by
  obtain ⟨vs, hr, hv⟩ := vcRes_sound ha _ _ h
  rw [results_eq, Array.mapM_eq_mapM_toList]
  simp only [bind_assoc, map_eq_pure_bind, pure_bind, Sem.run_bind]
  rw [hr, ← hv]
  simp only [Result.andThen_ok, Sem.run_pure]
  rcases vs with _ | ⟨x, _ | ⟨y, l⟩⟩ <;> simp [one]
theorem wpOps_value {P : Program} {ops : Array Oper} {Q : Exit → Act → World → Prop} {i : Nat} {rest : List Nat} {a : Act} {w : World} {o : Oper} {v : Value} (ho : ops[i]? = some o) (hg : o.guard = none) (he : (execOp a.eval o).run P w = .ok (.value v) w) (h : wpOps P ops Q rest (a.put o.dst v) w) : wpOps P ops Q (i :: rest) a w := by
  unfold wpOps
  have hw : Region.wanted o (yielded ops a.tmps) = true := by unfold Region.wanted; rw [hg]
  rw [ho]
  dsimp only
  rw [if_pos hw]
  refine .inl ?_
  unfold Oper.wp
  rw [he]
  exact h
theorem wpOps_defer {P : Program} {ops : Array Oper} {Q : Exit → Act → World → Prop} {i : Nat} {rest : List Nat} {a : Act} {w : World} {o : Oper} {d : Deferred} (ho : ops[i]? = some o) (hg : o.guard = none) (he : (execOp a.eval o).run P w = .ok (.defer d) w) (h : wpOps P ops Q rest ({ a with defers := d :: a.defers }.put o.dst undef) w) : wpOps P ops Q (i :: rest) a w := by
  unfold wpOps
  have hw : Region.wanted o (yielded ops a.tmps) = true := by unfold Region.wanted; rw [hg]
  rw [ho]
  dsimp only
  rw [if_pos hw]
  refine .inl ?_
  unfold Oper.wp
  rw [he]
  exact h
/-- defer func() {..}() -/
theorem wp_defer {P : Program} {id : Nat} {o0 o1 : Oper} {Q : Exit → Act → World → Prop} {a : Act} {w : World} {d0 : Nat} {f : FuncId} {x y : Operand} (h0 : o0.op = .makeFunc (.func f) #[] #[x, y]) (g0 : o0.guard = none) (e0 : o0.dst = some d0)
    (h1 : o1.op = .defer { callee := .value (.tmp d0), args := #[], argTypes := #[] }) (g1 : o1.guard = none) (e1 : o1.dst = none) (hd : d0 < a.tmps.size)
    (h : Q .normal { tmps := (a.put (some d0) (.func (.func f) #[] #[a.eval x, a.eval y])).tmps, defers := { target := .fn (.func f) #[a.eval x, a.eval y], args := #[] } :: a.defers } w) : (Code.region id #[o0, o1] false).wp P Q a w := by
  refine wp_region ?_
  show wpOps P #[o0, o1] Q [0, 1] a w
  refine wpOps_value (o := o0) (v := .func (.func f) #[] #[a.eval x, a.eval y]) rfl g0 (by simp [execOp, h0, Instr.makeFunc]) ?_
  have hv : (a.put o0.dst (.func (.func f) #[] #[a.eval x, a.eval y])).eval (.tmp d0) = .func (.func f) #[] #[a.eval x, a.eval y] := by
    rw [e0]; simp [Act.eval, Act.put, Array.getD_eq_getD_getElem?, hd]
  refine wpOps_defer (o := o1) (d := { target := .fn (.func f) #[a.eval x, a.eval y], args := #[] }) rfl g1 (by simp [execOp, h1, resolve, hv, Deferred.ofValue]) ?_
  rw [e1, e0]
  exact h

/-- what a call under try comes to -/
def TryR (H : Heap) (g rb : Nat) (fl : Bool) (F : Nat → Prop) (Q1 X1 : Heap → Prop) (v : Value) (H' : Heap) : Prop :=
  (fl = true ∧ v = .bool false ∧ Ext H H') ∨
  (fl = false ∧ v = .bool true ∧ (∃ H1, Q1 H1 ∧ H.size + 2 ≤ H1.size ∧ Only (fun x => x = H.size + 1) H1 H') ∧ Only F H H') ∨
  (fl = false ∧ v = .bool false ∧ (∃ t a cap, Rd H' g rb t true a cap) ∧ (∃ H1, X1 H1 ∧ H.size + 2 ≤ H1.size ∧ Only (fun x => x = g ∨ x = H.size + 1) H1 H') ∧ Only (fun x => F x ∨ x = g) H H')
set_option maxHeartbeats 2000000 in
theorem try_any {g rb : Nat} {l : List UInt8} {a : Option Addr} {cap : Nat} {fl : Bool} {f : FuncId} {c0 c1 : Value} {F : Nat → Prop} {Q1 X1 : Heap → Prop} {H : Heap} (hr : Rd H g rb l fl a cap) (hrb : rb < H.size) (hF : ∀ x, F x → x < H.size)
    (hf : fl = false → ∀ H0, Ext H H0 → CallX Try.prog f [c0, c1] H0 (fun _ H' => Q1 H' ∧ Only F H0 H') (fun c H' => c = stopC ∧ X1 H' ∧ (∃ t a cap, Rd H' g rb t false a cap) ∧ Only F H0 H')) :
    CallH Try.prog 48 [.pointer (some ⟨g, 0, none⟩), .func (.func f) #[] #[c0, c1]] H (TryR H g rb fl F Q1 X1) := by
  have hg := hr.blk.lt
  refine ⟨fun w hw => ?_⟩
  rw [Try.call48]
  refine ⟨Same.refl w, ?_⟩
  refine calls_of_wp_defers Try.func48 rfl ?_
  subst hw
  refine wp_seq (wp_mono (wp_of_vc (n := 12) (env := [(0, .pointer (some ⟨g, 0, none⟩)), (1, .func (.func f) #[] #[c0, c1])])
    (Q := fun e env H' => e = .normal ∧ get env 2 = some (.pointer (some ⟨w.heap.size, 0, none⟩)) ∧ get env 4 = some (.pointer (some ⟨w.heap.size + 1, 0, none⟩)) ∧ Blk H' w.heap.size #[.pointer (some ⟨g, 0, none⟩)] 77 ∧ Blk H' (w.heap.size + 1) #[.bool false] 4 ∧ Ext w.heap H' ∧ H'.size = w.heap.size + 2) rfl ?_ (by simp) ?_) ?_)
  · exact ((agrees_nil _).drop (by simp)).drop (by simp)
  · ((conv => whnf); repeat (any_goals (first | ((with_reducible first | refine Vc.SeqH.go ?_ | refine Vc.StillsH.nil ?_ | refine Vc.CallX.of ?_ | refine Vc.NextX.of ?_ | refine Vc.DrawH.text mixed (by decide +kernel) ?_ | refine Vc.ArithH.i64 (by omega) ?_ | refine Vc.ArithH.u8 (by omega) ?_ | refine Vc.ArithH.u64 (by omega) ?_ | refine Vc.ArithH.u32 (by omega) ?_ | refine Vc.NeedH.mk ⟨by omega, ?_⟩ | refine Vc.QuoH.i64 (by omega) ?_ | refine Vc.RemH.pos (by omega) ?_ | refine Vc.CondH.bnot ?_ | refine Vc.CondH.lit_t ?_ | refine Vc.CondH.lit_f ?_ | refine Vc.SplitH.lit_t ?_ | refine Vc.SplitH.lit_f ?_ | refine Vc.CondH.pos (by first | (rw [decide_eq_true_eq]; omega) | (rw [beq_iff_eq]; omega) | (rw [bne_iff_ne]; omega)) ?_ | refine Vc.CondH.neg (by first | (rw [decide_eq_false_iff_not]; omega) | (rw [beq_eq_false_iff_ne]; omega) | (rw [bne_eq_false_iff_eq]; omega)) ?_); (conv => whnf)))))
    refine SemH.box ?_
    intro H1 hs1 hb1 hx1
    ((conv => whnf); repeat (any_goals (first | ((with_reducible first | refine Vc.SeqH.go ?_ | refine Vc.StillsH.nil ?_ | refine Vc.CallX.of ?_ | refine Vc.NextX.of ?_ | refine Vc.DrawH.text mixed (by decide +kernel) ?_ | refine Vc.ArithH.i64 (by omega) ?_ | refine Vc.ArithH.u8 (by omega) ?_ | refine Vc.ArithH.u64 (by omega) ?_ | refine Vc.ArithH.u32 (by omega) ?_ | refine Vc.NeedH.mk ⟨by omega, ?_⟩ | refine Vc.QuoH.i64 (by omega) ?_ | refine Vc.RemH.pos (by omega) ?_ | refine Vc.CondH.bnot ?_ | refine Vc.CondH.lit_t ?_ | refine Vc.CondH.lit_f ?_ | refine Vc.SplitH.lit_t ?_ | refine Vc.SplitH.lit_f ?_ | refine Vc.CondH.pos (by first | (rw [decide_eq_true_eq]; omega) | (rw [beq_iff_eq]; omega) | (rw [bne_iff_ne]; omega)) ?_ | refine Vc.CondH.neg (by first | (rw [decide_eq_false_iff_not]; omega) | (rw [beq_eq_false_iff_ne]; omega) | (rw [bne_eq_false_iff_eq]; omega)) ?_); (conv => whnf)))))
    refine SemH.alloc rfl rfl ?_
    intro H2 hs2 hb2 hx2
    ((conv => whnf); repeat (any_goals (first | ((with_reducible first | refine Vc.SeqH.go ?_ | refine Vc.StillsH.nil ?_ | refine Vc.CallX.of ?_ | refine Vc.NextX.of ?_ | refine Vc.DrawH.text mixed (by decide +kernel) ?_ | refine Vc.ArithH.i64 (by omega) ?_ | refine Vc.ArithH.u8 (by omega) ?_ | refine Vc.ArithH.u64 (by omega) ?_ | refine Vc.ArithH.u32 (by omega) ?_ | refine Vc.NeedH.mk ⟨by omega, ?_⟩ | refine Vc.QuoH.i64 (by omega) ?_ | refine Vc.RemH.pos (by omega) ?_ | refine Vc.CondH.bnot ?_ | refine Vc.CondH.lit_t ?_ | refine Vc.CondH.lit_f ?_ | refine Vc.SplitH.lit_t ?_ | refine Vc.SplitH.lit_f ?_ | refine Vc.CondH.pos (by first | (rw [decide_eq_true_eq]; omega) | (rw [beq_iff_eq]; omega) | (rw [bne_iff_ne]; omega)) ?_ | refine Vc.CondH.neg (by first | (rw [decide_eq_false_iff_not]; omega) | (rw [beq_eq_false_iff_ne]; omega) | (rw [bne_eq_false_iff_eq]; omega)) ?_); (conv => whnf)))))
    rw [hs1] at hb2 ⊢
    exact ⟨rfl, rfl, rfl, hb1.ext hx2, hb2, hx1.trans hx2, by omega⟩
  rintro e a1 w1 ⟨hd1, hn1, hs1, hfr1, env1, hA1, he, h2, h4, k0, k1, kx, ksz⟩
  subst he
  have t1 : a1.tmps[1]? = some (.func (.func f) #[] #[c0, c1]) := by rw [hfr1 1 (by decide)]; simp
  have t2 := hA1 _ _ h2
  have t4 := hA1 _ _ h4
  have hr1 := hr.ext kx
  have hb1 := hr1.blk
  show Code.wp _ _ _ a1 w1
  refine wp_seq (wp_mono (wp_of_vc (n := 12) (env := [(2, .pointer (some ⟨w.heap.size, 0, none⟩)), (4, .pointer (some ⟨w.heap.size + 1, 0, none⟩))])
    (Q := fun e env H' => (fl = true ∧ e = .ret ∧ Blk H' (w.heap.size + 1) #[.bool false] 4 ∧ But (w.heap.size + 1) w1.heap H') ∨ (fl = false ∧ e = .normal ∧ H' = w1.heap)) rfl ?_ hn1 ?_) ?_)
  · exact ((agrees_nil _).drop t4).drop t2
  · cases fl
    · ((conv => whnf); repeat (any_goals (first | (((with_reducible apply SemH.load_at k0); (focus (rfl)); (focus (rfl))); (conv => whnf)) | (((with_reducible apply SemH.load_at hb1); (focus (rfl)); (focus (rfl))); (conv => whnf)) | ((with_reducible first | refine Vc.SeqH.go ?_ | refine Vc.StillsH.nil ?_ | refine Vc.CallX.of ?_ | refine Vc.NextX.of ?_ | refine Vc.DrawH.text mixed (by decide +kernel) ?_ | refine Vc.ArithH.i64 (by omega) ?_ | refine Vc.ArithH.u8 (by omega) ?_ | refine Vc.ArithH.u64 (by omega) ?_ | refine Vc.ArithH.u32 (by omega) ?_ | refine Vc.NeedH.mk ⟨by omega, ?_⟩ | refine Vc.QuoH.i64 (by omega) ?_ | refine Vc.RemH.pos (by omega) ?_ | refine Vc.CondH.bnot ?_ | refine Vc.CondH.lit_t ?_ | refine Vc.CondH.lit_f ?_ | refine Vc.SplitH.lit_t ?_ | refine Vc.SplitH.lit_f ?_ | refine Vc.CondH.pos (by first | (rw [decide_eq_true_eq]; omega) | (rw [beq_iff_eq]; omega) | (rw [bne_iff_ne]; omega)) ?_ | refine Vc.CondH.neg (by first | (rw [decide_eq_false_iff_not]; omega) | (rw [beq_eq_false_iff_ne]; omega) | (rw [bne_eq_false_iff_eq]; omega)) ?_); (conv => whnf)))))
      exact .inr ⟨rfl, rfl, rfl⟩
    · ((conv => whnf); repeat (any_goals (first | (((with_reducible apply SemH.load_at k0); (focus (rfl)); (focus (rfl))); (conv => whnf)) | (((with_reducible apply SemH.load_at hb1); (focus (rfl)); (focus (rfl))); (conv => whnf)) | ((with_reducible first | refine Vc.SeqH.go ?_ | refine Vc.StillsH.nil ?_ | refine Vc.CallX.of ?_ | refine Vc.NextX.of ?_ | refine Vc.DrawH.text mixed (by decide +kernel) ?_ | refine Vc.ArithH.i64 (by omega) ?_ | refine Vc.ArithH.u8 (by omega) ?_ | refine Vc.ArithH.u64 (by omega) ?_ | refine Vc.ArithH.u32 (by omega) ?_ | refine Vc.NeedH.mk ⟨by omega, ?_⟩ | refine Vc.QuoH.i64 (by omega) ?_ | refine Vc.RemH.pos (by omega) ?_ | refine Vc.CondH.bnot ?_ | refine Vc.CondH.lit_t ?_ | refine Vc.CondH.lit_f ?_ | refine Vc.SplitH.lit_t ?_ | refine Vc.SplitH.lit_f ?_ | refine Vc.CondH.pos (by first | (rw [decide_eq_true_eq]; omega) | (rw [beq_iff_eq]; omega) | (rw [bne_iff_ne]; omega)) ?_ | refine Vc.CondH.neg (by first | (rw [decide_eq_false_iff_not]; omega) | (rw [beq_eq_false_iff_ne]; omega) | (rw [bne_eq_false_iff_eq]; omega)) ?_); (conv => whnf)))))
      refine DoH.store1 (o := 0) k1 rfl rfl rfl (by show 0 < 1; omega) ?_
      intro H3 hs3 hb3 hx3
      ((conv => whnf); repeat (any_goals (first | ((with_reducible first | refine Vc.SeqH.go ?_ | refine Vc.StillsH.nil ?_ | refine Vc.CallX.of ?_ | refine Vc.NextX.of ?_ | refine Vc.DrawH.text mixed (by decide +kernel) ?_ | refine Vc.ArithH.i64 (by omega) ?_ | refine Vc.ArithH.u8 (by omega) ?_ | refine Vc.ArithH.u64 (by omega) ?_ | refine Vc.ArithH.u32 (by omega) ?_ | refine Vc.NeedH.mk ⟨by omega, ?_⟩ | refine Vc.QuoH.i64 (by omega) ?_ | refine Vc.RemH.pos (by omega) ?_ | refine Vc.CondH.bnot ?_ | refine Vc.CondH.lit_t ?_ | refine Vc.CondH.lit_f ?_ | refine Vc.SplitH.lit_t ?_ | refine Vc.SplitH.lit_f ?_ | refine Vc.CondH.pos (by first | (rw [decide_eq_true_eq]; omega) | (rw [beq_iff_eq]; omega) | (rw [bne_iff_ne]; omega)) ?_ | refine Vc.CondH.neg (by first | (rw [decide_eq_false_iff_not]; omega) | (rw [beq_eq_false_iff_ne]; omega) | (rw [bne_eq_false_iff_eq]; omega)) ?_); (conv => whnf)))))
      exact .inl ⟨rfl, rfl, hb3, hx3⟩
  rintro e a2 w2 ⟨hd2, hn2, hs2, hfr2, env2, hA2, hcase⟩
  have t4' : a2.tmps[4]? = some (.pointer (some ⟨w.heap.size + 1, 0, none⟩)) := by rw [hfr2 4 (by decide)]; exact t4
  have t2' : a2.tmps[2]? = some (.pointer (some ⟨w.heap.size, 0, none⟩)) := by rw [hfr2 2 (by decide)]; exact t2
  have t1' : a2.tmps[1]? = some (.func (.func f) #[] #[c0, c1]) := by rw [hfr2 1 (by decide)]; exact t1
  have hd2' : a2.defers = [] := hd2.trans hd1
  /- what the results are -/
  have res : ∀ (a' : Act) (w' : World) (b : Bool), a'.tmps[4]? = some (.pointer (some ⟨w.heap.size + 1, 0, none⟩)) → Blk w'.heap (w.heap.size + 1) #[.bool b] 4 → (results Try.f48 a'.tmps).run Try.prog w' = .ok (.bool b) w' := by
    intro a' w' b h4' hb'
    refine results_of (env := [(4, .pointer (some ⟨w.heap.size + 1, 0, none⟩))]) ((agrees_nil _).drop h4') ?_
    refine SemH.load_at hb' rfl rfl ?_
    exact ⟨rfl, rfl⟩
  rcases hcase with ⟨hfl, he, hb2, hx2⟩ | ⟨hfl, he, hh⟩
  · subst he
    show Leaves _ _ _ _ a2.defers .returning w2
    rw [hd2']
    exact ⟨_, res a2 w2 false t4' hb2, hs1.trans hs2, _, rfl, .inl ⟨hfl, rfl, kx.but hx2 (by omega)⟩⟩
  · subst he
    show Code.wp _ _ _ a2 w2
    refine wp_seq (wp_defer rfl rfl rfl rfl rfl rfl (by omega) ?_)
    have ev2 : a2.eval (.tmp 2) = .pointer (some ⟨w.heap.size, 0, none⟩) := by simp [Act.eval, t2', Array.getD_eq_getD_getElem?]
    have ev4 : a2.eval (.tmp 4) = .pointer (some ⟨w.heap.size + 1, 0, none⟩) := by simp [Act.eval, t4', Array.getD_eq_getD_getElem?]
    rw [ev2, ev4, hd2']
    obtain ⟨tm, htm⟩ : ∃ tm, tm = (a2.put (some 9) (.func (.func 61) #[] #[.pointer (some ⟨w.heap.size, 0, none⟩), .pointer (some ⟨w.heap.size + 1, 0, none⟩)])).tmps := ⟨_, rfl⟩
    rw [← htm]
    have p1 : tm[1]? = some (.func (.func f) #[] #[c0, c1]) := by rw [htm, put_other (by simp)]; exact t1'
    have p4 : tm[4]? = some (.pointer (some ⟨w.heap.size + 1, 0, none⟩)) := by rw [htm, put_other (by simp)]; exact t4'
    have pn : tm.size = 12 := by rw [htm, put_size]; exact hn2
    have ke2 : Ext w.heap w2.heap := by rw [hh]; exact kx
    have k12 : Blk w2.heap (w.heap.size + 1) #[.bool false] 4 := by rw [hh]; exact k1
    have k02 : Blk w2.heap w.heap.size #[.pointer (some ⟨g, 0, none⟩)] 77 := by rw [hh]; exact k0
    have ks2 : w2.heap.size = w.heap.size + 2 := by rw [hh]; exact ksz
    have hs02 := hs1.trans hs2
    refine wp_mono (wp_of_vc (n := 12) (env := [(1, .func (.func f) #[] #[c0, c1]), (4, .pointer (some ⟨w.heap.size + 1, 0, none⟩))])
      (Q := fun e env H' => (e = .ret ∧ Blk H' (w.heap.size + 1) #[.bool true] 4 ∧ ∃ H1, Q1 H1 ∧ w.heap.size + 2 ≤ H1.size ∧ Only F w2.heap H1 ∧ But (w.heap.size + 1) H1 H') ∨ (e = .panic stopC ∧ X1 H' ∧ (∃ t a cap, Rd H' g rb t false a cap) ∧ Only F w2.heap H')) rfl ?_ pn ?_) ?_
    · exact ((agrees_nil _).drop p4).drop p1
    · have hcall := hf hfl w2.heap ke2
      ((conv => whnf); repeat (any_goals (first | ((refine hcall.mono ?_ ?_); (conv => whnf)) | ((with_reducible first | refine Vc.SeqH.go ?_ | refine Vc.StillsH.nil ?_ | refine Vc.CallX.of ?_ | refine Vc.NextX.of ?_ | refine Vc.DrawH.text mixed (by decide +kernel) ?_ | refine Vc.ArithH.i64 (by omega) ?_ | refine Vc.ArithH.u8 (by omega) ?_ | refine Vc.ArithH.u64 (by omega) ?_ | refine Vc.ArithH.u32 (by omega) ?_ | refine Vc.NeedH.mk ⟨by omega, ?_⟩ | refine Vc.QuoH.i64 (by omega) ?_ | refine Vc.RemH.pos (by omega) ?_ | refine Vc.CondH.bnot ?_ | refine Vc.CondH.lit_t ?_ | refine Vc.CondH.lit_f ?_ | refine Vc.SplitH.lit_t ?_ | refine Vc.SplitH.lit_f ?_ | refine Vc.CondH.pos (by first | (rw [decide_eq_true_eq]; omega) | (rw [beq_iff_eq]; omega) | (rw [bne_iff_ne]; omega)) ?_ | refine Vc.CondH.neg (by first | (rw [decide_eq_false_iff_not]; omega) | (rw [beq_eq_false_iff_ne]; omega) | (rw [bne_eq_false_iff_eq]; omega)) ?_); (conv => whnf)))))
      · rintro v H1 ⟨hq, hx⟩
        ((conv => whnf); repeat (any_goals (first | ((with_reducible first | refine Vc.SeqH.go ?_ | refine Vc.StillsH.nil ?_ | refine Vc.CallX.of ?_ | refine Vc.NextX.of ?_ | refine Vc.DrawH.text mixed (by decide +kernel) ?_ | refine Vc.ArithH.i64 (by omega) ?_ | refine Vc.ArithH.u8 (by omega) ?_ | refine Vc.ArithH.u64 (by omega) ?_ | refine Vc.ArithH.u32 (by omega) ?_ | refine Vc.NeedH.mk ⟨by omega, ?_⟩ | refine Vc.QuoH.i64 (by omega) ?_ | refine Vc.RemH.pos (by omega) ?_ | refine Vc.CondH.bnot ?_ | refine Vc.CondH.lit_t ?_ | refine Vc.CondH.lit_f ?_ | refine Vc.SplitH.lit_t ?_ | refine Vc.SplitH.lit_f ?_ | refine Vc.CondH.pos (by first | (rw [decide_eq_true_eq]; omega) | (rw [beq_iff_eq]; omega) | (rw [bne_iff_ne]; omega)) ?_ | refine Vc.CondH.neg (by first | (rw [decide_eq_false_iff_not]; omega) | (rw [beq_eq_false_iff_ne]; omega) | (rw [bne_eq_false_iff_eq]; omega)) ?_); (conv => whnf)))))
        refine DoH.store1 (o := 0) (k12.keep hx fun h => by have := hF _ h; omega) rfl rfl rfl (by show 0 < 1; omega) ?_
        intro H3 hs3 hb3 hx3
        ((conv => whnf); repeat (any_goals (first | ((with_reducible first | refine Vc.SeqH.go ?_ | refine Vc.StillsH.nil ?_ | refine Vc.CallX.of ?_ | refine Vc.NextX.of ?_ | refine Vc.DrawH.text mixed (by decide +kernel) ?_ | refine Vc.ArithH.i64 (by omega) ?_ | refine Vc.ArithH.u8 (by omega) ?_ | refine Vc.ArithH.u64 (by omega) ?_ | refine Vc.ArithH.u32 (by omega) ?_ | refine Vc.NeedH.mk ⟨by omega, ?_⟩ | refine Vc.QuoH.i64 (by omega) ?_ | refine Vc.RemH.pos (by omega) ?_ | refine Vc.CondH.bnot ?_ | refine Vc.CondH.lit_t ?_ | refine Vc.CondH.lit_f ?_ | refine Vc.SplitH.lit_t ?_ | refine Vc.SplitH.lit_f ?_ | refine Vc.CondH.pos (by first | (rw [decide_eq_true_eq]; omega) | (rw [beq_iff_eq]; omega) | (rw [bne_iff_ne]; omega)) ?_ | refine Vc.CondH.neg (by first | (rw [decide_eq_false_iff_not]; omega) | (rw [beq_eq_false_iff_ne]; omega) | (rw [bne_eq_false_iff_eq]; omega)) ?_); (conv => whnf)))))
        exact .inl ⟨rfl, hb3, H1, hq, by have := hx.size; omega, hx, hx3⟩
      · rintro c H1 ⟨rfl, hq, hrd, hx⟩
        exact .inr ⟨rfl, hq, hrd, hx⟩
    rintro e a4 w4 ⟨hd4, hn4, hs4, hfr4, env4, hA4, hcase⟩
    have q4 : a4.tmps[4]? = some (.pointer (some ⟨w.heap.size + 1, 0, none⟩)) := by rw [hfr4 4 (by decide)]; exact p4
    have hd4' : a4.defers = [{ target := .fn (.func 61) #[.pointer (some ⟨w.heap.size, 0, none⟩), .pointer (some ⟨w.heap.size + 1, 0, none⟩)], args := #[] }] := hd4
    have hinv : ∀ w', (invoke (.fn (.func 61) #[.pointer (some ⟨w.heap.size, 0, none⟩), .pointer (some ⟨w.heap.size + 1, 0, none⟩)]) #[]).run Try.prog w' = .ok (.enter 61 #[.pointer (some ⟨w.heap.size, 0, none⟩), .pointer (some ⟨w.heap.size + 1, 0, none⟩)]) w' := fun w' => Try.call61 _ w'
    have hs04 := hs02.trans hs4
    rcases hcase with ⟨he, hb4, H1, hq, hsz, hx, hx3⟩ | ⟨he, hq, ⟨t, a', cap', hrd⟩, hx⟩
    · subst he
      show Leaves _ _ _ _ a4.defers .returning w4
      rw [hd4']
      refine leaves_cons (by simp) (hinv w4) (CallsD.mono (back_ret _ _ w4) ?_)
      rintro e u' w' ⟨⟨v, rfl⟩, hset, hs5, hh5⟩
      show Leaves _ _ _ _ [] (settle u') w'
      rw [hset]
      have hxF : Only F w.heap w'.heap := by
        rw [hh5]
        exact Only.trans ((ke2.only (F := F)).trans hx fun _ _ => id) hx3 fun b hb e => by omega
      exact ⟨_, res a4 w' true q4 (by rw [hh5]; exact hb4), hs04.trans hs5, _, rfl, .inr (.inl ⟨hfl, rfl, ⟨H1, hq, hsz, by rw [hh5]; exact hx3⟩, hxF⟩)⟩
    · subst he
      show Leaves _ _ _ _ a4.defers (.panicking stopC) w4
      rw [hd4']
      have hb0 : Blk w4.heap w.heap.size #[.pointer (some ⟨g, 0, none⟩)] 77 := k02.keep hx fun h => by have := hF _ h; omega
      have hb1 : Blk w4.heap (w.heap.size + 1) #[.bool false] 4 := k12.keep hx fun h => by have := hF _ h; omega
      refine leaves_cons (by simp) (hinv w4) (CallsD.mono (back_panic g _ _ _ _ w4 hb0 hrd.blk hb1 (by omega)) ?_)
      rintro e u' w' ⟨⟨v, rfl⟩, hset, hs5, hg5, hb5, hx5⟩
      show Leaves _ _ _ _ [] (settle u') w'
      rw [hset]
      have hxF : Only (fun x => F x ∨ x = g) w.heap w'.heap := Only.trans ((ke2.only (F := fun x => F x ∨ x = g)).trans hx fun _ _ => .inl) hx5 fun b hb e => e.elim .inr fun e => by omega
      have hrd' : Rd w'.heap g rb t true a' cap' := ⟨hg5, hrd.row.keep hx5 (fun p hp h => by have := hrd.inb p hp; have := hrd.ne; rcases h with h | h <;> omega), hrd.hcap, hrd.hmax, hrd.inb, hrd.ne⟩
      exact ⟨_, res a4 w' false q4 hb5, hs04.trans hs5, _, rfl, .inr (.inr ⟨hfl, rfl, ⟨_, _, _, hrd'⟩, ⟨_, hq, by have := hx.size; omega, hx5⟩, hxF⟩)⟩
end Go.Proofs.Ytipebbbgpkplaaa
