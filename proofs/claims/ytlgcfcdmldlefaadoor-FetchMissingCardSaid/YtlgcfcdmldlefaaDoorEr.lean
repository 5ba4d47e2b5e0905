import Derived.Test.YtlgcfcdmldlefaaDoorSa
import Derived.Test.YtlgcfcdmldlefaaDoorHr
set_option linter.unusedVariables false
set_option linter.unusedSimpArgs false
set_option maxRecDepth 100000
/- Errors: numbers, and what wraps them. -/
namespace Go.Proofs.YtlgcfcdmldlefaaDoor
open Go Go.Vc

theorem none_numE (n : Int) (H : Heap) : CallH Tryd.prog 42 [.iface 25 (.int .i64 n)] H fun v H' => v = .bool (n == 0) ∧ H = H' := by
  refine Vc.CallH.body Tryd.func42 Tryd.call42 rfl (by decide +kernel) rfl ?_
  ((conv => whnf); repeat (any_goals (first | ((refine CondH.neg rfl ?_); (conv => whnf)) | (refine Vc.sts ?_; (conv => whnf)))))
  refine ⟨⟨.tuple #[.int .i64 n, .bool true], fun w => by kernel_rfl, ?_⟩⟩
  ((conv => whnf); repeat (any_goals (first | (refine Vc.sts ?_; (conv => whnf)))))
  exact ⟨rfl, rfl⟩
theorem wrap_num (op nm : ByteArray) (n : Int) (hn : n ≠ 0) (H : Heap) : CallH Tryd.prog 16 [.string op, .string nm, .iface 25 (.int .i64 n)] H fun v H' =>
    v = .iface 39 (.pointer (some ⟨H.size, 0, none⟩)) ∧ Blk H' H.size #[.string op, .string nm, .iface 25 (.int .i64 n)] 43 ∧ Ext H H' := by
  refine Vc.CallH.body Tryd.func16 Tryd.call16 rfl (by decide +kernel) rfl ?_
  ((conv => whnf); repeat (any_goals (first | ((refine (none_numE _ _).mono ?_; rintro _ _ ⟨rfl, rfl⟩); (conv => whnf)) | ((refine CondH.neg (by rw [beq_eq_false_iff_ne]; exact hn) ?_); (conv => whnf)) | (refine Vc.sts ?_; (conv => whnf)))))
  refine PureH.build #[.string op, .string nm, .iface 25 (.int .i64 n)] (by kernel_rfl) ?_
  ((conv => whnf); repeat (any_goals (first | (refine Vc.sts ?_; (conv => whnf)))))
  refine SemH.box ?_
  intro H1 hs1 hb1 hx1
  ((conv => whnf); repeat (any_goals (first | (refine Vc.sts ?_; (conv => whnf)))))
  exact ⟨rfl, hb1, hx1⟩
end Go.Proofs.YtlgcfcdmldlefaaDoor
