
/-
  Layer 7, plain laws: bits of a filter, one by one.
-/
import Derived.Test.YthkgadhamecnlaaSieveDef
set_option linter.unusedVariables false
set_option maxRecDepth 20000
set_option linter.unusedSimpArgs false
namespace Go.Proofs.Ythkgadhamecnlaa
open Go sieve
namespace sieve
theorem bit_test (x : UInt8) (i : Nat) (hi : i < 8) : (((x >>> UInt8.ofNat i) &&& 1) == 1) = x.toNat.testBit i := by
  rw [Nat.testBit_eq_decide_div_mod_eq, Bool.eq_iff_iff, beq_iff_eq, decide_eq_true_eq, ← UInt8.toNat_inj, UInt8.toNat_and, UInt8.toNat_shiftRight]
  have h1 : (UInt8.ofNat i).toNat % 8 = i := by simp; omega
  rw [h1, show (1 : UInt8).toNat = 1 from rfl, Nat.and_one_is_mod, Nat.shiftRight_eq_div_pow]
theorem one_shl (i : Nat) (hi : i < 8) : ((1 : UInt8) <<< UInt8.ofNat i).toNat = 2 ^ i := by
  rw [UInt8.toNat_shiftLeft]
  have h1 : (UInt8.ofNat i).toNat % 8 = i := by simp; omega
  rw [h1, show (1 : UInt8).toNat = 1 from rfl, Nat.one_shiftLeft]
  exact Nat.mod_eq_of_lt (Nat.pow_lt_pow_right (by decide) hi)
theorem bitAt_eq (b : Bs) (n : Nat) : bitAt b n = (b.getD (n / 8) 0).toNat.testBit (n % 8) := bit_test _ _ (Nat.mod_lt _ (by decide))
theorem getD_set (b : Bs) (i j : Nat) (x : UInt8) : (b.set i x).getD j 0 = if i = j ∧ i < b.length then x else b.getD j 0 := by
  rw [List.getD, List.getElem?_set]
  by_cases h : i = j
  · subst h
    by_cases h2 : i < b.length
    · simp [h2]
    · rw [if_pos rfl, if_neg h2, if_neg (by simp [h2]), List.getD, List.getElem?_eq_none (by omega)]
  · rw [if_neg h, if_neg (by simp [h]), List.getD]
theorem bitAt_setBit (b : Bs) (n k : Nat) (hn : n / 8 < b.length) : bitAt (setBit b n) k = (bitAt b k || decide (n = k)) := by
  rw [bitAt_eq, bitAt_eq, setBit, getD_set]
  by_cases h : n / 8 = k / 8
  · rw [if_pos ⟨h, hn⟩, h, UInt8.toNat_or, Nat.testBit_or, one_shl _ (Nat.mod_lt _ (by decide)), Nat.testBit_two_pow]
    congr 1
    rw [decide_eq_decide]
    omega
  · rw [if_neg (by simp [h])]
    have : n ≠ k := fun e => h (by rw [e])
    simp [this]
theorem bitAt_setAll (l : List Int) (k : Nat) : ∀ (b : Bs), (∀ n ∈ l, n.toNat / 8 < b.length) → bitAt (setAll b l) k = (bitAt b k || l.any (fun n => decide (n.toNat = k))) := by
  induction l with
  | nil => intro b _; simp [setAll]
  | cons n l ih =>
    intro b hb
    show bitAt (setAll (setBit b n.toNat) l) k = _
    rw [ih _ (fun m hm => by rw [setBit_length]; exact hb m (by simp [hm])), bitAt_setBit _ _ _ (hb n (by simp)), List.any_cons, Bool.or_assoc]
def marked (k m : Nat) (key : Bs) : Bool := (marksL key m).any (fun n => decide (n.toNat = k))
theorem marks_in {key : Bs} {m : Nat} (h1 : 8 ≤ m) (h2 : m ≤ 65536) (h8 : m % 8 = 0) : ∀ n ∈ marksL key m, n.toNat / 8 < m / 8 := by
  intro n hn
  have := marksL_bd (key := key) (m := m) (by omega) h2 n hn
  omega
theorem bitAt_fold {m : Nat} (h1 : 8 ≤ m) (h2 : m ≤ 65536) (h8 : m % 8 = 0) (k : Nat) : ∀ (keys : List Bs) (b : Bs), b.length = m / 8 → bitAt (keys.foldl (fun b k => setAll b (marksL k m)) b) k = (bitAt b k || keys.any (marked k m)) := by
  intro keys
  induction keys with
  | nil => intro b _; simp
  | cons key keys ih =>
    intro b hb
    rw [List.foldl_cons, ih _ (by rw [setAll_length, hb]), bitAt_setAll _ _ _ (fun n hn => by rw [hb]; exact marks_in h1 h2 h8 n hn), List.any_cons, Bool.or_assoc]
    rfl
theorem bitAt_zero (n k : Nat) : bitAt (List.replicate n 0) k = false := by
  rw [bitAt_eq]
  have : (List.replicate n (0 : UInt8)).getD (k / 8) 0 = 0 := by
    rw [List.getD, List.getElem?_replicate]
    split <;> rfl
  rw [this]
  simp
theorem bitAt_make {m : Nat} (h1 : 8 ≤ m) (h2 : m ≤ 65536) (h8 : m % 8 = 0) (keys : List Bs) (k : Nat) : bitAt (makeL keys m) k = keys.any (marked k m) := by
  unfold makeL
  rw [bitAt_fold h1 h2 h8 _ _ _ (by simp), bitAt_zero, Bool.false_or]
theorem makeL_length (keys : List Bs) (m : Nat) : (makeL keys m).length = m / 8 := by rw [← makeTo_all, makeTo_length]
theorem byte_eq {b : Bs} {i : Nat} {x : UInt8} (h : ∀ j, j < 8 → bitAt b (8 * i + j) = x.toNat.testBit j) : b.getD i 0 = x := by
  apply UInt8.toNat_inj.1
  apply Nat.eq_of_testBit_eq
  intro j
  by_cases hj : j < 8
  · have := h j hj
    rw [bitAt_eq] at this
    rwa [show (8 * i + j) / 8 = i by omega, show (8 * i + j) % 8 = j by omega] at this
  · have hlt : ∀ y : UInt8, y.toNat < 2 ^ j := fun y => Nat.lt_of_lt_of_le y.toNat_lt (Nat.pow_le_pow_right (by decide) (by omega))
    rw [Nat.testBit_lt_two_pow (hlt _), Nat.testBit_lt_two_pow (hlt _)]
theorem makeF_ok {keys : List Bs} {bits : Int} (h : (makeF keys bits).2 = 0) : ∃ m : Nat, bits = (m : Int) ∧ 8 ≤ m ∧ m ≤ 65536 ∧ m % 8 = 0 ∧ keys.length ≤ 4096 ∧ (∀ k ∈ keys, k.length ≤ 256) ∧ makeF keys bits = (makeL keys m, 0) := by
  unfold makeF at *
  split at h
  · cases h
  · split at h
    · cases h
    · split at h
      · cases h
      · rename_i c1 c2 c3
        rw [if_neg c1, if_neg c2, if_neg c3]
        refine ⟨bits.toNat, by omega, by omega, by omega, by omega, by omega, fun k hk => ?_, rfl⟩
        simp only [Bool.not_eq_true, List.any_eq_false, decide_eq_true_eq] at c2
        have := c2 k hk
        omega
theorem makeF_bad {keys : List Bs} {bits : Int} (h : ¬ (makeF keys bits).2 = 0) : (makeF keys bits).1 = [] := by
  unfold makeF at *
  split
  · rfl
  · split
    · rfl
    · split
      · rfl
      · rename_i c1 c2 c3
        rw [if_neg c1, if_neg c2, if_neg c3] at h
        exact absurd rfl h
theorem has_made {keys : List Bs} {m : Nat} (h1 : 8 ≤ m) (h2 : m ≤ 65536) (h8 : m % 8 = 0) (hl : ∀ k ∈ keys, k.length ≤ 256) {key : Bs} (hk : key ∈ keys) : hasF (makeL keys m) key = (true, 0) := by
  have h3 := makeL_length keys m
  unfold hasF
  have := hl key hk
  rw [if_neg (by omega), if_neg (by omega), h3, show 8 * (m / 8) = m by omega]
  have : hasL (makeL keys m) (marksL key m) = true := by
    rw [hasL, List.all_eq_true]
    intro n hn
    rw [bitAt_make h1 h2 h8, List.any_eq_true]
    exact ⟨key, hk, by rw [marked, List.any_eq_true]; exact ⟨n, hn, by simp⟩⟩
  rw [this]
theorem makeL_both {m : Nat} (h1 : 8 ≤ m) (h2 : m ≤ 65536) (h8 : m % 8 = 0) (keys more : List Bs) (i : Nat) : (makeL (keys ++ more) m).getD i 0 = (makeL keys m).getD i 0 ||| (makeL more m).getD i 0 := by
  apply byte_eq
  intro j hj
  have hq : ∀ (l : List Bs), ((makeL l m).getD i 0).toNat.testBit j = l.any (marked (8 * i + j) m) := fun l => by
    rw [← bitAt_make h1 h2 h8, bitAt_eq, show (8 * i + j) / 8 = i by omega, show (8 * i + j) % 8 = j by omega]
  rw [bitAt_make h1 h2 h8, UInt8.toNat_or, Nat.testBit_or, hq, hq, List.any_append]
theorem makeL_swap {m : Nat} (h1 : 8 ≤ m) (h2 : m ≤ 65536) (h8 : m % 8 = 0) (keys more : List Bs) : makeL (keys ++ more) m = makeL (more ++ keys) m := by
  apply List.ext_getElem (by rw [makeL_length, makeL_length])
  intro i h3 h4
  have e1 := makeL_both h1 h2 h8 keys more i
  have e2 := makeL_both h1 h2 h8 more keys i
  rw [List.getD, List.getElem?_eq_getElem h3, Option.getD_some] at e1
  rw [List.getD, List.getElem?_eq_getElem h4, Option.getD_some] at e2
  rw [e1, e2, UInt8.or_comm]
theorem makeF_code {keys : List Bs} {bits : Int} : (makeF keys bits).2 = 0 ↔ (keys.length ≤ 4096 ∧ (∀ k ∈ keys, k.length ≤ 256) ∧ 8 ≤ bits ∧ bits ≤ 65536 ∧ bits % 8 = 0) := by
  constructor
  · intro h
    obtain ⟨m, rfl, h1, h2, h3, h4, h5, _⟩ := makeF_ok h
    exact ⟨h4, h5, by omega, by omega, by omega⟩
  · rintro ⟨h1, h2, h3, h4, h5⟩
    unfold makeF
    rw [if_neg (by omega), if_neg, if_neg (by omega)]
    simp only [Bool.not_eq_true, List.any_eq_false, decide_eq_true_eq]
    intro k hk
    have := h2 k hk
    omega
theorem has_none {n : Nat} (hn : 1 ≤ n ∧ n ≤ 8192) {key : Bs} (hk : key.length ≤ 256) : hasF (List.replicate n 0) key = (false, 0) := by
  unfold hasF
  rw [List.length_replicate, if_neg (by omega), if_neg (by omega)]
  congr 1
  simp [hasL, marksL, bitAt_zero, List.range, List.range.loop]
theorem has_full {n : Nat} (hn : 1 ≤ n ∧ n ≤ 8192) {key : Bs} (hk : key.length ≤ 256) : hasF (List.replicate n 255) key = (true, 0) := by
  unfold hasF
  rw [List.length_replicate, if_neg (by omega), if_neg (by omega)]
  congr 1
  rw [hasL, List.all_eq_true]
  intro q hq
  have := marksL_bd (key := key) (m := 8 * n) (by omega) (by omega) q hq
  rw [bitAt_eq, List.getD, List.getElem?_replicate, if_pos (by omega), Option.getD_some]
  have : ∀ j, j < 8 → (255 : UInt8).toNat.testBit j = true := by decide
  exact this _ (Nat.mod_lt _ (by decide))
theorem has_more {b c : Bs} (hl : c.length = b.length) (hb : ∀ i, b.getD i 0 ||| c.getD i 0 = c.getD i 0) {key : Bs} (h : (hasF b key).1 = true) : (hasF c key).1 = true := by
  unfold hasF at *
  rw [hl]
  split
  · rename_i c1; rw [if_pos c1] at h; exact h
  · rename_i c1; rw [if_neg c1] at h
    split
    · rename_i c2; rw [if_pos c2] at h; exact h
    · rename_i c2; rw [if_neg c2] at h
      rw [hasL, List.all_eq_true] at *
      intro n hn
      have := h n hn
      rw [bitAt_eq] at *
      rw [← hb, UInt8.toNat_or, Nat.testBit_or, this, Bool.true_or]
theorem has_code {b : Bs} (hb : 1 ≤ b.length ∧ b.length ≤ 8192) {key : Bs} (hk : key.length ≤ 256) : (hasF b key).2 = 0 := by
  unfold hasF
  rw [if_neg (by omega), if_neg (by omega)]
end sieve
end Go.Proofs.Ythkgadhamecnlaa
