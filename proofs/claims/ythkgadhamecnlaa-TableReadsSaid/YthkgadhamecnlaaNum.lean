
/-
  A number, a text, a byte taken off bytes; small numbers read back.
-/
import Derived.Test.YthkgadhamecnlaaBRead
set_option linter.unusedVariables false
set_option linter.unusedSimpArgs false
set_option maxRecDepth 20000
namespace Go.Proofs.Ythkgadhamecnlaa
open Go
namespace page
abbrev RS := Bs × Bool
def numP (m : Nat) (s : RS) : Nat × RS := if ¬ (readF s.1).2.2 = 0 ∨ m < (readF s.1).1 then (0, (s.1, true)) else ((readF s.1).1, (s.1.drop (readF s.1).2.1, s.2))
def textP (s : RS) : Bs × RS := ((cutF s.1).1, ((cutF s.1).2.1, s.2 || decide (¬ (cutF s.1).2.2 = 0)))
def flagP (s : RS) : UInt8 × RS := match s.1 with
  | [] => (0, ([], true))
  | x :: r => (x, (r, s.2))
theorem numP_le (m : Nat) (s : RS) : (numP m s).1 ≤ m ∧ (numP m s).2.1.length ≤ s.1.length := by
  unfold numP
  split
  · exact ⟨Nat.zero_le _, Nat.le_refl _⟩
  · rename_i h
    refine ⟨by show (readF s.1).1 ≤ m; omega, ?_⟩
    show (s.1.drop _).length ≤ _
    rw [List.length_drop]
    omega
theorem cutF_le (b : Bs) : (cutF b).1.length + (cutF b).2.1.length ≤ b.length := by
  unfold cutF
  split
  · exact Nat.zero_le _
  · rename_i h
    show (List.take _ _).length + (List.drop _ _).length ≤ _
    simp only [List.length_take, List.length_drop]
    omega
theorem textP_le (s : RS) : (textP s).1.length + (textP s).2.1.length ≤ s.1.length := cutF_le s.1
theorem flagP_le (s : RS) : (flagP s).2.1.length ≤ s.1.length := by
  unfold flagP
  split
  · exact Nat.zero_le _
  · rename_i r h
    rw [h]
    exact Nat.le_succ r.length
end page
theorem sumTo_cons (c : UInt8) (b : Bs) : ∀ i, sumTo (c :: b) (i + 1) = c.toNat % 128 + 128 * sumTo b i
  | 0 => by simp [sumTo]
  | i + 1 => by
    rw [sumTo, sumTo_cons c b i, sumTo, List.getD_cons_succ, Nat.pow_succ, Nat.mul_add]
    have : (b.getD i 0).toNat % 128 * (128 ^ i * 128) = 128 * ((b.getD i 0).toNat % 128 * 128 ^ i) := by
      rw [Nat.mul_comm (128 ^ i) 128, Nat.mul_left_comm]
    omega
theorem lead_big {c : UInt8} {b : Bs} (h : 128 ≤ c.toNat) : leadN (c :: b) = leadN b + 1 := by
  unfold leadN
  rw [List.takeWhile_cons, if_pos (by simpa using h)]
  rfl
theorem lead_low {c : UInt8} {b : Bs} (h : c.toNat < 128) : leadN (c :: b) = 0 := by
  unfold leadN
  rw [List.takeWhile_cons, if_neg (by simpa using h)]
  rfl
theorem small_back : ∀ (f n : Nat) (r : Bs), n < 128 ^ (f + 1) → ∃ k, (smallK (f + 1) n).length = k + 1 ∧ leadN (smallK (f + 1) n ++ r) = k ∧ sumTo (smallK (f + 1) n ++ r) (k + 1) = n ∧ (1 ≤ n → ((smallK (f + 1) n ++ r).getD k 0).toNat ≠ 0) ∧ (k ≠ 0 → 1 ≤ n) ∧ ((smallK (f + 1) n ++ r).getD k 0).toNat * 128 ^ k ≤ n := by
  have low : ∀ (f n : Nat) (r : Bs), n ≤ 127 → ∃ k, (smallK (f + 1) n).length = k + 1 ∧ leadN (smallK (f + 1) n ++ r) = k ∧ sumTo (smallK (f + 1) n ++ r) (k + 1) = n ∧ (1 ≤ n → ((smallK (f + 1) n ++ r).getD k 0).toNat ≠ 0) ∧ (k ≠ 0 → 1 ≤ n) ∧ ((smallK (f + 1) n ++ r).getD k 0).toNat * 128 ^ k ≤ n := by
    intro f n r h
    have e : smallK (f + 1) n = [UInt8.ofNat n] := by rw [smallK, if_pos h]
    have e1 : (UInt8.ofNat n).toNat = n := by
      rw [UInt8.toNat_ofNat']
      omega
    refine ⟨0, by rw [e]; rfl, ?_, ?_, ?_, fun h => absurd rfl h, ?_⟩
    · rw [e]; exact lead_low (by omega)
    · rw [e, List.singleton_append, sumTo_cons, e1, sumTo]; omega
    · rw [e]; show 1 ≤ n → (UInt8.ofNat n).toNat ≠ 0; omega
    · rw [e]; show (UInt8.ofNat n).toNat * 1 ≤ n; omega
  intro f
  induction f with
  | zero => intro n r h; exact low 0 n r (by omega)
  | succ f ih =>
    intro n r h
    by_cases hn : n ≤ 127
    · exact low (f + 1) n r hn
    · have e : smallK (f + 1 + 1) n = UInt8.ofNat (n % 128 + 128) :: smallK (f + 1) (n / 128) := by rw [smallK, if_neg hn]
      have e1 : (UInt8.ofNat (n % 128 + 128)).toNat = n % 128 + 128 := by
        rw [UInt8.toNat_ofNat']
        omega
      obtain ⟨k, h1, h2, h3, h4, h5, h6⟩ := ih (n / 128) r (by rw [Nat.pow_succ] at h; omega)
      refine ⟨k + 1, by rw [e, List.length_cons, h1], ?_, ?_, ?_, fun _ => by omega, ?_⟩
      · rw [e, List.cons_append, lead_big (by omega), h2]
      · rw [e, List.cons_append, sumTo_cons, h3, e1]
        omega
      · rw [e, List.cons_append, List.getD_cons_succ]
        intro _
        exact h4 (by omega)
      · rw [e, List.cons_append, List.getD_cons_succ, Nat.pow_succ, ← Nat.mul_assoc]
        have := Nat.mul_le_mul_right 128 h6
        omega
theorem read_small {n : Nat} (r : Bs) (h : n < 18446744073709551616) : readF (smallF n ++ r) = (n, (smallF n).length, 0) := by
  have h10 : (128 : Nat) ^ (9 + 1) = 1180591620717411303424 := by decide
  obtain ⟨k, h1, h2, h3, h4, h5, h6⟩ := small_back 9 n r (by omega)
  have hl := smallF_length n
  have e : smallF n = smallK (9 + 1) n := rfl
  rw [← e] at h1 h2 h3 h4 h6
  have ok : readOk (smallF n ++ r) := by
    unfold readOk
    rw [h2]
    refine ⟨by rw [List.length_append]; omega, by omega, fun hx => ?_, fun hx => h4 (h5 (by omega)) hx.2⟩
    obtain ⟨rfl, h8⟩ := hx
    have h7 : (128 : Nat) ^ 9 = 9223372036854775808 := by decide
    rw [h7] at h6
    omega
  unfold readF
  rw [if_pos ok, h2, h3, h1]
theorem cut_text {s : Bs} (r : Bs) (h : s.length < 18446744073709551616) : cutF (textF s ++ r) = (s, r, 0) := by
  have e : readF (textF s ++ r) = (s.length, (smallF s.length).length, 0) := by unfold textF; rw [List.append_assoc]; exact read_small _ h
  have e2 : (textF s ++ r).drop (smallF s.length).length = s ++ r := by unfold textF; rw [List.append_assoc, List.drop_left]
  unfold cutF
  rw [e, if_neg]
  · simp only
    rw [e2, List.take_left, List.drop_left]
  · simp only [List.length_append, textF]
    rintro (h1 | h1)
    · exact h1 trivial
    · omega
namespace page
theorem numP_small {n m : Nat} (r : Bs) (x : Bool) (h : n < 18446744073709551616) (hm : n ≤ m) : numP m (smallF n ++ r, x) = (n, (r, x)) := by
  unfold numP
  simp only [read_small r h]
  rw [if_neg (fun hx => hx.elim (fun h => h trivial) (by omega)), List.drop_left]
theorem textP_text {s : Bs} (r : Bs) (x : Bool) (h : s.length < 18446744073709551616) : textP (textF s ++ r, x) = (s, (r, x)) := by
  unfold textP
  simp only [cut_text r h]
  simp
theorem flagP_cons (c : UInt8) (r : Bs) (x : Bool) : flagP (c :: r, x) = (c, (r, x)) := rfl
end page
end Go.Proofs.Ythkgadhamecnlaa
