import Derived.Test.YtihopeogaeinhaaGreatDoorLo
import Derived.Laws.Externs
set_option linter.unusedVariables false
set_option linter.unusedSimpArgs false
set_option maxRecDepth 100000
/- Calls of the model's own entries. -/
namespace Go.Vc
/-- a call of one of the model's own entries -/
theorem CallH.extern {P : Program} {f : FuncId} {fn : Func} {e : Array Value → Sem Value} {args : List Value} {H : Heap} {R : Value → Heap → Prop} (hf : P.funcs[f]? = some fn) (hname : (fn.name == "runtime.NumGoroutine") = false)
    (hb : fn.body.isNone = true) (hn : Extern.findNext fn = none) (he : Extern.find fn = some e) (h : SemH P (e args.toArray) H R) : CallH P f args H R := by
  refine ⟨fun w hw => ?_⟩
  obtain ⟨v, w', hr, hs, hk⟩ := h.out w hw
  rw [run_callFunc_extern hf hname hb hn he, hr]
  exact ⟨hs, hk⟩
end Go.Vc
