
/-
  The cyclic sum bit by bit is the one by nibbles.
-/
import Derived.Test.YthkgadhamecnlaaSum
set_option linter.unusedVariables false
set_option maxRecDepth 20000
set_option linter.unusedSimpArgs false
namespace Go.Proofs.Ythkgadhamecnlaa
open Go

def low (r : UInt32) : Bool := r.toNat % 2 == 1
def s1 (r : UInt32) : UInt32 := if low r then r / 2 ^^^ 3988292384 else r / 2
theorem low_xor (a b : UInt32) : low (a ^^^ b) = (low a ^^ low b) := by
  have h : ∀ n : Nat, (n % 2 == 1) = n.testBit 0 := fun n => by rw [Nat.testBit_zero]; rfl
  unfold low
  rw [h, h, h, UInt32.toNat_xor, Nat.testBit_xor]
theorem half_xor (a b : UInt32) : (a ^^^ b) / 2 = a / 2 ^^^ b / 2 := by
  apply UInt32.toNat_inj.1
  rw [UInt32.toNat_div, UInt32.toNat_xor, UInt32.toNat_xor, UInt32.toNat_div, UInt32.toNat_div]
  show (a.toNat ^^^ b.toNat) / 2 = a.toNat / 2 ^^^ b.toNat / 2
  apply Nat.eq_of_testBit_eq
  intro i
  rw [Nat.testBit_xor, Nat.testBit_div_two, Nat.testBit_div_two, Nat.testBit_div_two, Nat.testBit_xor]
theorem s1_xor (a b : UInt32) : s1 (a ^^^ b) = s1 a ^^^ s1 b := by
  unfold s1
  rw [low_xor, half_xor]
  have hc : ∀ p q c : UInt32, (p ^^^ c) ^^^ (q ^^^ c) = p ^^^ q := fun p q c => by
    rw [UInt32.xor_comm q c, UInt32.xor_assoc, ← UInt32.xor_assoc c c q, UInt32.xor_self, UInt32.zero_xor]
  cases low a <;> cases low b
  · rfl
  · exact UInt32.xor_assoc _ _ _
  · show (a / 2 ^^^ b / 2) ^^^ _ = (a / 2 ^^^ _) ^^^ b / 2
    rw [UInt32.xor_assoc, UInt32.xor_comm (b / 2), UInt32.xor_assoc]
  · exact (hc _ _ _).symm
def s4 (r : UInt32) : UInt32 := s1 (s1 (s1 (s1 r)))
theorem s4_xor (a b : UInt32) : s4 (a ^^^ b) = s4 a ^^^ s4 b := by simp only [s4, s1_xor]
theorem s1_even {r q : UInt32} (h : r.toNat = 2 * q.toNat) : s1 r = q := by
  have hl : low r = false := by
    unfold low
    rw [h, Nat.mul_mod_right]
    rfl
  unfold s1
  rw [hl]
  apply UInt32.toNat_inj.1
  show (r / 2).toNat = _
  rw [UInt32.toNat_div, h]
  show 2 * q.toNat / 2 = _
  omega
theorem s4_high (q : UInt32) (h : q.toNat < 268435456) : s4 (UInt32.ofNat (16 * q.toNat)) = q := by
  have e : ∀ k : Nat, k ≤ 16 → (UInt32.ofNat (k * q.toNat)).toNat = k * q.toNat := fun k hk => by
    have : k * q.toNat ≤ 16 * q.toNat := Nat.mul_le_mul_right _ hk
    simp
    omega
  unfold s4
  rw [s1_even (r := UInt32.ofNat (16 * q.toNat)) (q := UInt32.ofNat (8 * q.toNat)) (by rw [e _ (by omega), e _ (by omega)]; omega),
    s1_even (r := UInt32.ofNat (8 * q.toNat)) (q := UInt32.ofNat (4 * q.toNat)) (by rw [e _ (by omega), e _ (by omega)]; omega),
    s1_even (r := UInt32.ofNat (4 * q.toNat)) (q := UInt32.ofNat (2 * q.toNat)) (by rw [e _ (by omega), e _ (by omega)]; omega),
    s1_even (r := UInt32.ofNat (2 * q.toNat)) (q := q) (by rw [e _ (by omega)])]
theorem s4_low : ∀ n, n < 16 → s4 (UInt32.ofNat n) = crcT.getD n 0 := by decide +kernel
theorem s4_eq (y : UInt32) : s4 y = y >>> 4 ^^^ crcAt y := by
  have hq : (y >>> 4).toNat = y.toNat / 16 := by
    rw [UInt32.toNat_shiftRight, show (4 : UInt32).toNat % 32 = 4 from rfl, Nat.shiftRight_eq_div_pow]
  have hy := y.toNat_lt
  have hlow : (y &&& 15).toNat = y.toNat % 16 := by
    rw [UInt32.toNat_and]
    exact Nat.and_two_pow_sub_one_eq_mod y.toNat 4
  have hsplit : y = UInt32.ofNat (16 * (y >>> 4).toNat) ^^^ UInt32.ofNat (y &&& 15).toNat := by
    apply UInt32.toNat_inj.1
    rw [UInt32.toNat_xor, hq, hlow]
    have h1 : (UInt32.ofNat (16 * (y.toNat / 16))).toNat = 16 * (y.toNat / 16) := by simp; omega
    have h2 : (UInt32.ofNat (y.toNat % 16)).toNat = y.toNat % 16 := by simp; omega
    rw [h1, h2]
    have h3 := Nat.two_pow_add_eq_or_of_lt (b := y.toNat % 16) (i := 4) (by omega) (y.toNat / 16)
    have h4 : (16 * (y.toNat / 16)) ^^^ (y.toNat % 16) = (2 ^ 4 * (y.toNat / 16)) ||| (y.toNat % 16) := by
      apply Nat.eq_of_testBit_eq
      intro i
      rw [Nat.testBit_xor, Nat.testBit_or, show (16 : Nat) = 2 ^ 4 from rfl, Nat.testBit_two_pow_mul, Nat.testBit_mod_two_pow]
      by_cases h : 4 ≤ i
      · simp [h, show ¬ i < 4 by omega]
      · simp [h, show i < 4 by omega]
    rw [h4, ← h3]
    omega
  have e1 := s4_high (y >>> 4) (by rw [hq]; omega)
  have e2 := s4_low (y &&& 15).toNat (by rw [hlow]; omega)
  calc s4 y = s4 (UInt32.ofNat (16 * (y >>> 4).toNat) ^^^ UInt32.ofNat (y &&& 15).toNat) := by rw [← hsplit]
    _ = y >>> 4 ^^^ crcAt y := by rw [s4_xor, e1, e2]; rfl
def s8 (r : UInt32) : UInt32 := s4 (s4 r)
theorem shr_xor (a b : UInt32) : (a ^^^ b) >>> 4 = a >>> 4 ^^^ b >>> 4 := by
  apply UInt32.toNat_inj.1
  simp only [UInt32.toNat_xor, UInt32.toNat_shiftRight, Nat.shiftRight_xor_distrib]
theorem s8_step (r : UInt32) (x : UInt8) : s8 (r ^^^ x.toUInt32) = crcStep r x := by
  have hx := x.toNat_lt
  have h4 : x.toUInt32 >>> 4 = (x >>> 4).toUInt32 := by
    apply UInt32.toNat_inj.1
    rw [UInt32.toNat_shiftRight, UInt8.toNat_toUInt32, UInt8.toNat_toUInt32, UInt8.toNat_shiftRight]
    rfl
  have h8 : (x >>> 4).toUInt32 >>> 4 = 0 := by
    apply UInt32.toNat_inj.1
    rw [UInt32.toNat_shiftRight, UInt8.toNat_toUInt32, UInt8.toNat_shiftRight, show (4 : UInt32).toNat % 32 = 4 from rfl, show (4 : UInt8).toNat % 8 = 4 from rfl, Nat.shiftRight_eq_div_pow, Nat.shiftRight_eq_div_pow]
    show x.toNat / 16 / 16 = 0
    omega
  have hm : s4 (r ^^^ x.toUInt32) = crcMid r x ^^^ (x >>> 4).toUInt32 := by
    rw [s4_eq, shr_xor, h4, crcMid, UInt32.xor_assoc, UInt32.xor_comm (x >>> 4).toUInt32, ← UInt32.xor_assoc]
  unfold s8 crcStep
  rw [hm, s4_eq, shr_xor, h8, UInt32.xor_zero]
end Go.Proofs.Ythkgadhamecnlaa
