
/-
  The order of entries; the first page; PageOrder walked.
-/
import Derived.Test.YthkgadhamecnlaaPage2
set_option linter.unusedVariables false
set_option linter.unusedSimpArgs false
set_option maxRecDepth 20000
namespace Go.Proofs.Ythkgadhamecnlaa
open Go page
namespace page
theorem cmpB_zero : ∀ a b : Bs, Lib.compareBytes a b = 0 ↔ a = b
  | [], [] => by simp [Lib.compareBytes]
  | [], _ :: _ => by simp [Lib.compareBytes]
  | _ :: _, [] => by simp [Lib.compareBytes]
  | a :: x, b :: y => by
    unfold Lib.compareBytes
    have ih := cmpB_zero x y
    split
    · rename_i h
      refine ⟨fun e => (by cases e), fun e => ?_⟩
      cases e
      exact absurd h (UInt8.lt_irrefl a)
    · rename_i h1
      split
      · rename_i h
        refine ⟨fun e => (by cases e), fun e => ?_⟩
        cases e
        exact absurd h (UInt8.lt_irrefl a)
      · rename_i h2
        have e : a = b := UInt8.le_antisymm (UInt8.not_lt.1 h2) (UInt8.not_lt.1 h1)
        subst e
        rw [ih]
        simp
theorem cmpB_neg : ∀ a b : Bs, Lib.compareBytes b a = - Lib.compareBytes a b
  | [], [] => by simp [Lib.compareBytes]
  | [], _ :: _ => by simp [Lib.compareBytes]
  | _ :: _, [] => by simp [Lib.compareBytes]
  | a :: x, b :: y => by
    unfold Lib.compareBytes
    have ih := cmpB_neg x y
    by_cases h1 : a < b
    · have h2 : ¬ b < a := UInt8.lt_asymm h1
      rw [if_neg h2, if_pos h1, if_pos h1]
      rfl
    · by_cases h2 : b < a
      · rw [if_pos h2, if_neg h1, if_pos h2]
      · rw [if_neg h2, if_neg h1, if_neg h1, if_neg h2]
        exact ih
theorem cmpB_trans : ∀ a b c : Bs, Lib.compareBytes a b < 0 → Lib.compareBytes b c < 0 → Lib.compareBytes a c < 0
  | [], [], _, h, _ => by simp [Lib.compareBytes] at h
  | [], _ :: _, [], _, h => by simp [Lib.compareBytes] at h
  | [], _ :: _, _ :: _, _, _ => by simp [Lib.compareBytes]
  | _ :: _, [], _, h, _ => by simp [Lib.compareBytes] at h
  | _ :: _, _ :: _, [], _, h => by simp [Lib.compareBytes] at h
  | a :: x, b :: y, c :: z, h1, h2 => by
    unfold Lib.compareBytes at h1 h2 ⊢
    have ih := cmpB_trans x y z
    by_cases p1 : a < b
    · by_cases q1 : b < c
      · rw [if_pos (UInt8.lt_trans p1 q1)]; decide
      · rw [if_neg q1] at h2
        by_cases q2 : c < b
        · rw [if_pos q2] at h2; omega
        · have e : b = c := UInt8.le_antisymm (UInt8.not_lt.1 q2) (UInt8.not_lt.1 q1)
          subst e
          rw [if_pos p1]; decide
    · rw [if_neg p1] at h1
      by_cases p2 : b < a
      · rw [if_pos p2] at h1; omega
      · rw [if_neg p2] at h1
        have e : a = b := UInt8.le_antisymm (UInt8.not_lt.1 p2) (UInt8.not_lt.1 p1)
        subst e
        by_cases q1 : a < c
        · rw [if_pos q1]; decide
        · rw [if_neg q1] at h2
          by_cases q2 : c < a
          · rw [if_pos q2] at h2; omega
          · rw [if_neg q2] at h2
            rw [if_neg q1, if_neg q2]
            exact ih h1 h2
theorem less_iff (a b : Entry) : lessE a b = true ↔ Lib.compareBytes a.key b.key < 0 ∨ (a.key = b.key ∧ b.seq < a.seq) := by
  unfold lessE orI cmpI
  rw [decide_eq_true_eq]
  have h0 := cmpB_zero a.key b.key
  by_cases h : Lib.compareBytes a.key b.key = 0
  · rw [if_pos h]
    have hk := h0.1 h
    constructor
    · intro h2
      refine .inr ⟨hk, ?_⟩
      split at h2
      · assumption
      · split at h2 <;> omega
    · rintro (h2 | ⟨_, h2⟩)
      · omega
      · rw [if_pos h2]; decide
  · rw [if_neg h]
    constructor
    · exact .inl
    · rintro (h2 | ⟨h2, _⟩)
      · exact h2
      · exact absurd (h0.2 h2) h
theorem less_trans {a b c : Entry} (h1 : lessE a b = true) (h2 : lessE b c = true) : lessE a c = true := by
  rw [less_iff] at *
  rcases h1 with h1 | ⟨e1, h1⟩ <;> rcases h2 with h2 | ⟨e2, h2⟩
  · exact .inl (cmpB_trans _ _ _ h1 h2)
  · rw [← e2]; exact .inl h1
  · rw [e1]; exact .inl h2
  · exact .inr ⟨e1.trans e2, by omega⟩
theorem less_asymm {a b : Entry} (h1 : lessE a b = true) : lessE b a = false := by
  cases h : lessE b a with
  | false => rfl
  | true =>
    rw [less_iff] at h1 h
    have hn := cmpB_neg a.key b.key
    have hz := cmpB_zero a.key b.key
    rcases h1 with h1 | ⟨e1, h1⟩ <;> rcases h with h | ⟨e2, h⟩
    · omega
    · have := hz.2 e2.symm; omega
    · have := hz.2 e1; omega
    · omega
theorem less_irrefl (a : Entry) : lessE a a = false := by
  cases h : lessE a a with
  | false => rfl
  | true => have := less_asymm h; rw [h] at this; cases this
theorem alike_eq (a b : Entry) : decide (a.key = b.key ∧ a.seq = b.seq) = (!lessE a b && !lessE b a) := by
  have h1 := less_iff a b
  have h2 := less_iff b a
  have hn := cmpB_neg a.key b.key
  have hz := cmpB_zero a.key b.key
  by_cases h : a.key = b.key ∧ a.seq = b.seq
  · rw [decide_eq_true h]
    have e1 : lessE a b = false := by
      cases e : lessE a b with
      | false => rfl
      | true => rcases h1.1 e with h3 | ⟨_, h3⟩; have := hz.2 h.1; omega; omega
    have e2 : lessE b a = false := by
      cases e : lessE b a with
      | false => rfl
      | true => rcases h2.1 e with h3 | ⟨_, h3⟩; have := hz.2 h.1; omega; omega
    rw [e1, e2]
    rfl
  · rw [decide_eq_false h]
    by_cases hk : a.key = b.key
    · have hs : ¬ a.seq = b.seq := fun e => h ⟨hk, e⟩
      rcases Int.lt_or_gt_of_ne hs with h3 | h3
      · rw [h2.2 (.inr ⟨hk.symm, h3⟩)]; simp
      · rw [h1.2 (.inr ⟨hk, h3⟩)]; simp
    · have h0 : ¬ Lib.compareBytes a.key b.key = 0 := fun e => hk (hz.1 e)
      rcases Int.lt_or_gt_of_ne h0 with h3 | h3
      · rw [h1.2 (.inl h3)]; simp
      · rw [h2.2 (.inl (by omega))]; simp
def twoE : List Entry := [⟨[97, 98], [120], 1, false⟩, ⟨[97, 98, 99], [], 0, true⟩]
theorem make2 : (makeE twoE).2 = 0 := by decide +kernel
theorem make2_len : (makeE twoE).1.length = 18 := by decide +kernel
theorem make2_take : (makeE twoE).1.take 12 = [2, 0, 2, 97, 98, 1, 0, 1, 120, 2, 1, 99] := by decide +kernel
end page
end Go.Proofs.Ythkgadhamecnlaa
