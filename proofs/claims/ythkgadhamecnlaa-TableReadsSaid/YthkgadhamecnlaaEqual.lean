
/-
  Bytes compared.
-/
import Derived.Test.YthkgadhamecnlaaCut
import Derived.Test.YthkgadhamecnlaaProg
set_option linter.unusedVariables false
set_option linter.unusedSimpArgs false
set_option maxRecDepth 20000
namespace Go.Proofs.Ythkgadhamecnlaa
open Go
theorem bytesEqual_fn {w : World} {v u : Value} {l m : Bs} (hl : tBytes.rep All w v l) (hm : tBytes.rep All w u m) : Fn Try.prog 72 [v, u] w (fun r w2 => r = .bool (decide (l = m)) ∧ Ext (fun _ => False) w w2) := by
  refine Fn.enter (fun w => Try.call72 _ w) Try.func72 rfl ?_
  refine .seq (.region ?_)
  refine .p rfl rfl (.as rfl) ?_
  refine .nil (.code (.seq (.keep [(0, _), (1, _)] ⟨rfl, rfl, trivial⟩ (.region ?_))))
  refine .p rfl rfl (.mv rfl) ?_
  refine .p rfl rfl (.bytesStr rfl hl rfl rfl rfl) ?_
  refine .p rfl rfl (.mv rfl) ?_
  refine .p rfl rfl (.bytesStr rfl hm rfl rfl rfl) ?_
  refine .p rfl rfl (.eqS rfl rfl) ?_
  refine .p rfl rfl (.as rfl) ?_
  refine .nil (.code ?_)
  refine .ret _ rfl ?_
  exact ⟨rfl, .refl w⟩
end Go.Proofs.Ythkgadhamecnlaa
