
/-
  DiskReads, DiskDoes: walked.
-/
import Derived.Test.YtapdacjpmmjlhaaLaw02
set_option linter.unusedVariables false
set_option linter.unusedSimpArgs false
set_option maxRecDepth 20000
namespace Go.Proofs.Ytapdacjpmmjlhaa
open Go disk
theorem own_below {w : World} {v : Value} {l : Bs} {b : Nat} (h : Own tByte (fun _ => False) 5 w v l b) : tBytes.rep (fun k => k < w.heap.size) w v l := by
  have h' := h
  obtain ⟨hl, ⟨rfl, rfl⟩ | ⟨cap, us, sp, rfl, hc, he, hB, hn⟩⟩ := h'
  · exact Sl.nil
  · exact h.rep hB.lt (fun _ h _ => h.elim)
theorem own_all {w : World} {v : Value} {l : Bs} {b : Nat} (h : Own tByte (fun _ => False) 5 w v l b) : tBytes.rep All w v l := h.rep trivial (fun _ h _ => h.elim)
theorem refSameT_fn {w : World} {v u : Value} {a : Disk} (ha : tDisk.rep All w v a) (hb : tDisk.rep All w u a) : Fn Try.prog 29 [v, u] w (fun r w2 => r = .bool true ∧ Ext (fun _ => False) w w2) :=
  (refSame_fn ha hb).mono fun r w2 ⟨h1, h2⟩ => ⟨h1.trans (by rw [decide_eq_true rfl]), h2⟩
theorem tDisk.shape {P : Nat → Prop} {w : World} {v : Value} {d : Disk} (h : tDisk.rep P w v d) : ∃ a1 c1 a2 c2, v = .agg #[i64 d.count, .slice a1 d.data.length c1, .slice a2 d.waits.length c2] := by
  obtain ⟨u, u', rfl, hd, hw, _⟩ := tDisk.val h
  obtain ⟨a, cap, rfl, _⟩ := Sl.val hd
  obtain ⟨aw, capw, rfl, _⟩ := Sl.val hw
  exact ⟨_, _, _, _, rfl⟩
end Go.Proofs.Ytapdacjpmmjlhaa
