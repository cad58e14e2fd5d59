/-
  What the statements on losses of power share.
-/
import Derived.Test.YtpfehnopghffjaaGreatDoorQ28
set_option linter.unusedVariables false
set_option linter.unusedSimpArgs false
set_option maxRecDepth 20000
namespace Go.Proofs.YtpfehnopghffjaaGreatDoor
open Go
open room files
theorem files.crash_0 {x : Disk} (h : disk.checkF x = 0) (ks : List Bool) : disk.crashF x ks = (disk.settleD x (fun i => ks.getD i false), 0) := by
  unfold disk.crashF
  rw [if_neg (fun k => k h)]
theorem DoFE_fn {w : World} {v vl : Value} {d : Disk} {l : List disk.Act} (h : disk.tDisk.rep All w v d) (hl : (Sl disk.tAct).rep All w vl l) : Fn Tryz.prog 36 [v, vl] w (fun r w2 => ∃ v' x e, disk.doF d l = (x, e) ∧ r = .tuple #[v', i64 e] ∧ disk.tDisk.rep (fun k => w.heap.size ≤ k ∧ k < w2.heap.size) w2 v' x ∧ Ext (fun _ => False) w w2) :=
  (Do_fn h hl).mono fun r w2 ⟨v, h1, h2, h3⟩ => ⟨v, _, _, rfl, h1, disk.tDisk.mono h2.rep (fun k h1 h => ⟨h1, h⟩), h3⟩
theorem files.map2_nil (d : Disk) : map2F d [] = viewF d := rfl
theorem files.turned_ok {d : Disk} {l : List Change} (h : (turnedF d l).2 = 0) : (turnF d l).2 = 0 := Decidable.byContradiction fun k => by
  unfold turnedF at h
  rw [if_pos k] at h
  exact k h
end Go.Proofs.YtpfehnopghffjaaGreatDoor
