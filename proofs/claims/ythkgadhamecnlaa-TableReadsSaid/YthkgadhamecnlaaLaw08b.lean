
/-
  PageMakes: walked.
-/
import Derived.Test.YthkgadhamecnlaaRef08
set_option linter.unusedVariables false
set_option linter.unusedSimpArgs false
set_option maxRecDepth 20000
namespace Go.Proofs.Ythkgadhamecnlaa
open Go page
theorem RefSameT_fn {w : World} {v u : Value} {l : List Entry} (hl : (Sl tEntry).rep All w v l) (hm : (Sl tEntry).rep All w u l) : Fn Try.prog 14 [v, u] w (fun r w2 => r = .bool true ∧ Ext (fun _ => False) w w2) :=
  (RefSame_fn hl hm).mono fun r w2 ⟨h1, h2⟩ => ⟨h1.trans (by rw [decide_eq_true rfl]), h2⟩
theorem tEntry.any {P P' : Nat → Prop} {w : World} {v : Value} {x : Entry} (h : tEntry.rep P w v x) : tEntry.rep P' w v x := by
  obtain ⟨rfl, h1, h2, h3⟩ := tEntry.val h
  exact tEntry.mk h1 h2 h3
end Go.Proofs.Ythkgadhamecnlaa
