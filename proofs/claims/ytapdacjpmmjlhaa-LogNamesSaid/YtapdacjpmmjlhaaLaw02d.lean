
/-
  DiskLast, DiskKeeps: walked.
-/
import Derived.Test.YtapdacjpmmjlhaaLaw02c
set_option linter.unusedVariables false
set_option linter.unusedSimpArgs false
set_option maxRecDepth 20000
namespace Go.Proofs.Ytapdacjpmmjlhaa
open Go disk
theorem DoE_fn {w : World} {v vl : Value} {d : Disk} {l : List disk.Act} (h : tDisk.rep All w v d) (hl : (Sl tAct).rep All w vl l) : Fn Try.prog 33 [v, vl] w (fun r w2 => ∃ v' x e, doF d l = (x, e) ∧ r = .tuple #[v', i64 e] ∧ tDisk.rep (fun k => w.heap.size ≤ k ∧ k < w2.heap.size) w2 v' x ∧ Ext (fun _ => False) w w2) :=
  (Do_fn h hl).mono fun r w2 ⟨v, h1, h2, h3⟩ => ⟨v, _, _, rfl, h1, tDisk.mono h2.rep (fun k h1 h => ⟨h1, h⟩), h3⟩
theorem Crash0_fn {w : World} {v vk : Value} {d : Disk} {ks : List Bool} (h : tDisk.rep All w v d) (hk : (Sl tBool).rep All w vk ks) (hc : checkF d = 0) : Fn Try.prog 35 [v, vk] w (fun r w2 => ∃ v', r = .tuple #[v', i64 0] ∧ tDisk.rep All w2 v' (settleD d (fun i => ks.getD i false)) ∧ Ext (fun _ => False) w w2) :=
  (Crash_fn h hk).mono fun r w2 ⟨v, h1, h2, h3⟩ => by
    have e : crashF d ks = (settleD d (fun i => ks.getD i false), 0) := by unfold crashF; rw [if_neg (by simp [hc])]
    rw [e] at h1 h2
    exact ⟨v, h1, allOf h2.rep, h3⟩
theorem Read0_fn {w : World} {v : Value} {d : Disk} {n : Int} (h : tDisk.rep All w v d) (hA : askedF d n = 0) : Fn Try.prog 63 [v, i64 n] w (fun r w2 => ∃ s, r = .tuple #[s, i64 0] ∧ tBytes.rep All w2 s (readF d n) ∧ Ext (fun _ => False) w w2) :=
  (Read_fn (n := n) h).mono fun r w2 ⟨s, b, h1, h2, _, h3⟩ => ⟨s, by rw [h1, hA], by rw [if_pos hA] at h2; exact own_all h2, h3⟩
theorem ReadA_fn {w : World} {v : Value} {d : Disk} {n : Int} (h : tDisk.rep All w v d) : Fn Try.prog 63 [v, i64 n] w (fun r w2 => ∃ s, r = .tuple #[s, i64 (askedF d n)] ∧ tBytes.rep All w2 s (if askedF d n = 0 then readF d n else []) ∧ Ext (fun _ => False) w w2) :=
  (Read_fn (n := n) h).mono fun r w2 ⟨s, b, h1, h2, _, h3⟩ => ⟨s, h1, own_all h2, h3⟩
theorem Sure0_fn {w : World} {v : Value} {d : Disk} {n : Int} (h : tDisk.rep All w v d) (hA : askedF d n = 0) : Fn Try.prog 68 [v, i64 n] w (fun r w2 => ∃ s, r = .tuple #[s, i64 0] ∧ tBytes.rep All w2 s (secOf d.data n.toNat) ∧ Ext (fun _ => False) w w2) :=
  (Sure_fn (n := n) h).mono fun r w2 ⟨s, b, h1, h2, _, h3⟩ => ⟨s, by rw [h1, hA], by rw [if_pos hA] at h2; exact own_all h2, h3⟩
end Go.Proofs.Ytapdacjpmmjlhaa
