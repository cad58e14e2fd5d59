
/-
  Layer 5: what reading a record comes to, in the program's way and the document's.
-/
import Derived.Test.YtapdacjpmmjlhaaLogDef
import Derived.Test.YtapdacjpmmjlhaaCut
set_option linter.unusedVariables false
set_option linter.unusedSimpArgs false
namespace Go.Proofs.Ytapdacjpmmjlhaa
open Go
namespace log
def secAt (b : Bs) (i : Nat) : Bs := (b.drop (128 * i)).take 128
def cutOf (s : Bs) : Nat := min (s.getD 14 0).toNat 112
def textTo (b : Bs) (k : Nat) : Bs := (List.range k).flatMap (fun i => ((secAt b i).drop 16).take (cutOf (secAt b i)))
def openF (epoch prev : UInt32) (b : Bs) : Bs × UInt32 × Nat × Int :=
  if epoch = 0 then ([], 0, 0, 2) else if b.length < 128 then ([], 0, 0, 0)
  else if (b.getD 13 0).toNat = 0 ∨ b.length < (b.getD 13 0).toNat * 128 then ([], 0, 0, 0)
  else if (frameF epoch (get4 (b.drop 4)) prev (textTo b (b.getD 13 0).toNat)).2 = 0 ∧ (frameF epoch (get4 (b.drop 4)) prev (textTo b (b.getD 13 0).toNat)).1 = b.take ((b.getD 13 0).toNat * 128)
  then (textTo b (b.getD 13 0).toNat, get4 (b.drop 4), (b.getD 13 0).toNat, 0) else ([], 0, 0, 0)
theorem textTo_succ (b : Bs) (k : Nat) : textTo b (k + 1) = textTo b k ++ ((secAt b k).drop 16).take (cutOf (secAt b k)) := by
  unfold textTo
  rw [List.range_succ, List.flatMap_append]
  simp
theorem cutOf_le (s : Bs) : cutOf s ≤ 112 := Nat.min_le_right _ _
theorem textTo_length (b : Bs) : ∀ k, (textTo b k).length ≤ k * 112
  | 0 => by simp [textTo]
  | k + 1 => by
    have h := textTo_length b k
    have := cutOf_le (secAt b k)
    rw [textTo_succ, List.length_append, List.length_take]
    omega
theorem secAt_length {b : Bs} {i n : Nat} (hi : i < n) (hn : n * 128 ≤ b.length) : (secAt b i).length = 128 := by
  simp [secAt]
  omega
theorem secAt_eq {b : Bs} {i n : Nat} (hi : i < n) (hn : n * 128 ≤ b.length) : ((((b.take (n * 128)).take (n * 128)).drop (i * 128)).take 128).drop 0 = secAt b i := by
  rw [List.drop_zero, List.take_take, Nat.min_self, List.drop_take, List.take_take, secAt, Nat.mul_comm i 128, Nat.min_eq_left (by omega)]
theorem get4_eq {b : Bs} {n : Nat} (h1 : 1 ≤ n) : get4 (((b.take (n * 128)).take (n * 128)).drop 4) = get4 (b.drop 4) := by
  unfold get4
  rw [List.take_take, Nat.min_self, List.drop_take, List.take_take, Nat.min_eq_left (by omega)]
/-- the document's: how long a sector says that its piece is -/
def kOf (s : Bs) : Nat := (s.getD 14 0).toNat + 256 * (s.getD 15 0).toNat
def refTo (b : Bs) (k : Nat) : Bs := (List.range k).flatMap (fun i => ((secAt b i).drop 16).take (kOf (secAt b i)))
theorem refTo_succ (b : Bs) (k : Nat) : refTo b (k + 1) = refTo b k ++ ((secAt b k).drop 16).take (kOf (secAt b k)) := by
  unfold refTo
  rw [List.range_succ, List.flatMap_append]
  simp
theorem refTo_length {b : Bs} : ∀ k, (∀ i, i < k → kOf (secAt b i) ≤ 112) → (refTo b k).length ≤ k * 112
  | 0, _ => by simp [refTo]
  | k + 1, h => by
    have h1 := refTo_length k (fun i hi => h i (by omega))
    have := h k (by omega)
    rw [refTo_succ, List.length_append, List.length_take]
    omega
theorem refTo_eq {b : Bs} : ∀ k, (∀ i, i < k → kOf (secAt b i) ≤ 112) → refTo b k = textTo b k
  | 0, _ => rfl
  | k + 1, h => by
    have hk := h k (by omega)
    have e : cutOf (secAt b k) = kOf (secAt b k) := by unfold cutOf; unfold kOf at *; omega
    rw [refTo_succ, textTo_succ, refTo_eq k (fun i hi => h i (by omega)), e]
/-- a sector of a frame says truly how long its piece is -/
theorem kOf_sector (epoch salt prev : UInt32) (r : Bs) (n i : Nat) : kOf (sectorOf epoch salt prev r n i) ≤ 112 := by
  obtain ⟨a1, b1, c1, d1, h1⟩ := four (put4_length epoch)
  obtain ⟨a2, b2, c2, d2, h2⟩ := four (put4_length salt)
  obtain ⟨a3, b3, c3, d3, h3⟩ := four (put4_length prev)
  have hp := piece_le r i
  unfold kOf sectorOf
  rw [h1, h2, h3]
  show (UInt8.ofNat (pieceOf r i).length).toNat + 256 * (0 : UInt8).toNat ≤ 112
  simp
  omega
theorem secAt_frame (epoch salt prev : UInt32) (r : Bs) (n k i : Nat) (hi : i < k) : secAt (frameTo epoch salt prev r n k) i = sectorOf epoch salt prev r n i := by
  induction k with
  | zero => omega
  | succ k ih =>
    rw [frameTo_succ]
    have hl := frameTo_length epoch salt prev r n k
    have hs := sectorOf_length epoch salt prev r n k
    unfold secAt at *
    rcases Nat.lt_or_ge i k with h | h
    · rw [List.drop_append_of_le_length (by omega), List.take_append_of_le_length (by simp; omega)]
      exact ih h
    · obtain rfl : i = k := by omega
      rw [List.drop_append, List.drop_of_length_le (by omega), List.nil_append, show 128 * i - (frameTo epoch salt prev r n i).length = 0 by omega, List.drop_zero, List.take_of_length_le (by omega)]
/-- bytes that are a frame say truly how long their pieces are -/
theorem kOf_all {epoch salt prev : UInt32} {r b : Bs} {n : Nat} (hb : n * 128 ≤ b.length) (h2 : (frameF epoch salt prev r).2 = 0) (h : (frameF epoch salt prev r).1 = b.take (n * 128)) : ∀ i, i < n → kOf (secAt b i) ≤ 112 := by
  intro i hi
  have hf : (frameF epoch salt prev r).1 = frameL epoch salt prev r := by
    unfold frameF at *
    split
    · rename_i c; rw [if_pos c] at h2; cases h2
    · rename_i c
      rw [if_neg c] at h2
      split
      · rename_i c'; rw [if_pos c'] at h2; cases h2
      · rfl
  rw [hf] at h
  have hl : (frameL epoch salt prev r).length = n * 128 := by rw [h, List.length_take]; omega
  have hn : needs r.length = n := by
    unfold frameL at hl
    rw [frameTo_length] at hl
    omega
  have e : secAt b i = secAt (b.take (n * 128)) i := by
    unfold secAt
    rw [List.drop_take, List.take_take, Nat.min_eq_left (by omega)]
  rw [e, ← h, frameL, secAt_frame _ _ _ _ _ _ _ (by omega)]
  exact kOf_sector _ _ _ _ _ _
theorem open_far {epoch prev : UInt32} {b : Bs} {i : Nat} (hE : ¬ epoch = 0) (hL : ¬ b.length < 128) (hN : ¬ ((b.getD 13 0).toNat = 0 ∨ b.length < (b.getD 13 0).toNat * 128)) (hi : i < (b.getD 13 0).toNat) (hk : ¬ kOf (secAt b i) ≤ 112) : openF epoch prev b = ([], 0, 0, 0) := by
  unfold openF
  rw [if_neg hE, if_neg hL, if_neg hN, if_neg (fun hh => hk (kOf_all (by omega) hh.1 hh.2 i hi))]
theorem open_salt {epoch prev : UInt32} {b : Bs} (hE : ¬ epoch = 0) (hL : ¬ b.length < 128) (hs : get4 (b.drop 4) = 0) : openF epoch prev b = ([], 0, 0, 0) := by
  unfold openF
  rw [if_neg hE, if_neg hL]
  split
  · rfl
  · rw [if_neg]
    rintro ⟨h1, _⟩
    unfold frameF at h1
    rw [if_pos (.inr hs)] at h1
    cases h1
end log
end Go.Proofs.Ytapdacjpmmjlhaa
