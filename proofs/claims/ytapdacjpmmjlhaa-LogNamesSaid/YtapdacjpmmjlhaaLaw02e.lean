
/-
  DiskPieces, DiskAll: walked.
-/
import Derived.Test.YtapdacjpmmjlhaaLaw02d
set_option linter.unusedVariables false
set_option linter.unusedSimpArgs false
set_option maxRecDepth 20000
namespace Go.Proofs.Ytapdacjpmmjlhaa
open Go disk
namespace disk
theorem doN_bad' (c : Int) : ∀ (l m : List Act) (out : Disk), ¬ (doN c l out).2 = 0 → doN c (l ++ m) out = doN c l out
  | [], m, out, h => absurd rfl h
  | a :: l, m, out, h => by
    rw [List.cons_append, doN, doN]
    rw [doN] at h
    split
    · rename_i h1; rw [if_pos h1] at h; exact doN_bad' c l m _ h
    · rename_i h1
      rw [if_neg h1] at h
      split
      · rfl
      · rename_i h2
        rw [if_neg h2] at h
        split
        · rfl
        · rename_i h3
          rw [if_neg h3] at h
          split
          · rfl
          · rename_i h4; rw [if_neg h4] at h; exact doN_bad' c l m _ h
theorem doN_ok (c : Int) : ∀ (l m : List Act) (out : Disk), checkF out = 0 → out.count = c → (doN c l out).2 = 0 → doN c (l ++ m) out = doN c m (doN c l out).1 ∧ checkF (doN c l out).1 = 0 ∧ (doN c l out).1.count = c
  | [], m, out, hc, hn, h => ⟨rfl, hc, hn⟩
  | a :: l, m, out, hc, hn, h => by
    rw [List.cons_append, doN, doN]
    rw [doN] at h
    split
    · rename_i h1; rw [if_pos h1] at h; exact doN_ok c l m _ (check_settle hc _) hn h
    · rename_i h1
      rw [if_neg h1] at h
      split
      · rename_i h2; rw [if_pos h2] at h; cases h
      · rename_i h2
        rw [if_neg h2] at h
        split
        · rename_i h3; rw [if_pos h3] at h; cases h
        · rename_i h3
          rw [if_neg h3] at h
          split
          · rename_i h4; rw [if_pos h4] at h; cases h
          · rename_i h4
            rw [if_neg h4] at h
            exact doN_ok c l m _ (check_put hc (by omega) ⟨by omega, by omega, by omega⟩) hn h
theorem doF_first_bad {d y : Disk} {l m : List Act} {f : Int} (h : doF d l = (y, f)) (hf : ¬ f = 0) : doF d (l ++ m) = (y, f) := by
  unfold doF at h ⊢
  split
  · rename_i h1; rw [if_pos h1] at h; exact h
  · rename_i h1
    rw [if_neg h1] at h
    rw [doN_bad' _ _ _ _ (by rw [h]; exact hf)]
    exact h
theorem doF_first_ok {d y : Disk} {l m : List Act} (h : doF d l = (y, 0)) : doF d (l ++ m) = doF y m := by
  unfold doF at h
  split at h
  · rename_i h1; exact absurd (Prod.mk.inj h).2 h1
  · rename_i h1
    have hc : checkF d = 0 := Decidable.byContradiction h1
    obtain ⟨h2, h3, h4⟩ := doN_ok d.count l m d hc rfl (by rw [h])
    rw [h] at h2 h3 h4
    unfold doF
    rw [if_neg h1, if_neg (by simp [h3]), h2, h4]
theorem settled_congr (d : Disk) (k1 k2 : Nat → Bool) : ∀ k, k ≤ d.waits.length → (∀ i, i < k → k1 i = k2 i) → settled d k1 k = settled d k2 k
  | 0, _, _ => rfl
  | k + 1, hk, h => by
    rw [settled_step (by omega), settled_step (by omega), settled_congr d k1 k2 k (by omega) (fun i hi => h i (by omega)), h k (by omega)]
theorem settled_no (d : Disk) : ∀ k, settled d (fun i => ([] : List Bool).getD i false) k = d.data
  | 0 => rfl
  | k + 1 => by
    rw [settled, settled_no d k]
    split
    · rfl
    · rfl
theorem settle_all (d : Disk) : settleD d (fun i => (List.replicate d.waits.length true).getD i false) = settleD d (fun _ => true) := by
  unfold settleD
  rw [settled_congr d _ (fun _ => true) _ (Nat.le_refl _) (fun i hi => by rw [List.getD_eq_getElem?_getD, List.getElem?_replicate, if_pos hi]; rfl)]
theorem same_none (d : Disk) : ((decide (d = (⟨d.count, d.data, []⟩ : Disk))) == (decide ((d.waits.length : Int) = 0))) = true := by
  obtain ⟨c, l, ws⟩ := d
  cases ws with
  | nil => simp
  | cons p ws => 
    rw [decide_eq_false (by simp), decide_eq_false (by simp; omega)]
    rfl
theorem each_true {P : Nat → Prop} {w : World} : ∀ n, Each (tBool.rep P w) (List.replicate n (Value.bool true)) (List.replicate n true)
  | 0 => .nil
  | n + 1 => .cons rfl (each_true n)
theorem tDisk_data {P : Nat → Prop} {w : World} {a1 a2 : Option Addr} {c1 c2 : Nat} {d : Disk} (h : tDisk.rep P w (.agg #[i64 d.count, .slice a1 d.data.length c1, .slice a2 d.waits.length c2]) d) : tBytes.rep P w (.slice a1 d.data.length c1) d.data := by
  obtain ⟨u, u', e, hd, _⟩ := tDisk.val h
  simp at e
  rw [e.1]
  exact hd
theorem settle_no (d : Disk) : settleD d (fun i => ([] : List Bool).getD i false) = ⟨d.count, d.data, []⟩ := by
  unfold settleD
  rw [settled_no]
end disk
end Go.Proofs.Ytapdacjpmmjlhaa
