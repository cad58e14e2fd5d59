
/-
  Layer 3, plain: runs of sectors; what no piece has.
-/
import Derived.Test.YtagjfplipknlkaaRoomDef
set_option linter.unusedVariables false
set_option linter.unusedSimpArgs false
namespace Go.Proofs.Ytagjfplipknlkaa
open Go
namespace room
def covB (l : List Piece) (k : Nat) : Bool := l.any (fun p => decide (p.fr ≤ (k : Int) ∧ (k : Int) < p.fr + p.ct))
theorem cov_iff {l : List Piece} {k : Nat} : covB l k = true ↔ ∃ p ∈ l, p.fr ≤ (k : Int) ∧ (k : Int) < p.fr + p.ct := by simp [covB]
theorem cov_perm {l s : List Piece} (h : s.Perm l) (k : Nat) : covB s k = covB l k := by
  rw [Bool.eq_iff_iff, cov_iff, cov_iff]
  constructor
  · rintro ⟨p, hp, h2⟩; exact ⟨p, h.mem_iff.1 hp, h2⟩
  · rintro ⟨p, hp, h2⟩; exact ⟨p, h.mem_iff.2 hp, h2⟩
/-- one sector more behind runs -/
def pushR (out : List Piece) (k : Int) : List Piece :=
  match out.getLast? with
  | some p => if p.fr + p.ct = k then out.dropLast ++ [⟨p.fr, p.ct + 1⟩] else out ++ [⟨k, 1⟩]
  | none => [⟨k, 1⟩]
def runsTo (f : Nat → Bool) (a : Nat) : Nat → List Piece
  | 0 => []
  | n + 1 => if f (a + n) = true then pushR (runsTo f a n) ((a + n : Nat) : Int) else runsTo f a n
theorem push_nil (k : Int) : pushR [] k = [⟨k, 1⟩] := rfl
theorem push_snoc (out : List Piece) (p : Piece) (k : Int) : pushR (out ++ [p]) k = if p.fr + p.ct = k then out ++ [⟨p.fr, p.ct + 1⟩] else out ++ [p] ++ [⟨k, 1⟩] := by
  unfold pushR
  rw [List.getLast?_append]
  simp
/-- runs end where they were last told, or ahead of it; they rise and do not touch; each is in [a, a + n) -/
structure Runs (f : Nat → Bool) (a n : Nat) (out : List Piece) : Prop where
  pos : ∀ p ∈ out, 1 ≤ p.ct ∧ (a : Int) ≤ p.fr ∧ p.fr + p.ct ≤ ((a + n : Nat) : Int)
  sep : out.Pairwise (fun p q => p.fr + p.ct < q.fr)
  cov : ∀ k, covB out k = (decide (a ≤ k ∧ k < a + n) && f k)
theorem cov_append (l m : List Piece) (k : Nat) : covB (l ++ m) k = (covB l k || covB m k) := by simp [covB]
theorem cov_one (p : Piece) (k : Nat) : covB [p] k = decide (p.fr ≤ (k : Int) ∧ (k : Int) < p.fr + p.ct) := by simp [covB]
theorem runs_ok (f : Nat → Bool) (a : Nat) : ∀ n, Runs f a n (runsTo f a n)
  | 0 => ⟨fun p hp => (by cases hp), .nil, fun k => (by simp only [runsTo, covB, List.any_nil]; rw [decide_eq_false (by omega), Bool.false_and])⟩
  | n + 1 => by
    have ih := runs_ok f a n
    rw [runsTo]
    by_cases hf : f (a + n) = true
    · rw [if_pos hf]
      rcases List.eq_nil_or_concat (runsTo f a n) with h | ⟨out, p, h⟩
      · rw [h] at ih ⊢
        rw [push_nil]
        refine ⟨fun q hq => ?_, List.pairwise_singleton _ _, fun k => ?_⟩
        · rw [List.mem_singleton] at hq; subst hq; exact ⟨by show (1 : Int) ≤ 1; omega, by show (a : Int) ≤ ((a + n : Nat) : Int); omega, by show ((a + n : Nat) : Int) + 1 ≤ ((a + (n + 1) : Nat) : Int); omega⟩
        · have h0 := ih.cov k
          rw [show covB [] k = false from rfl] at h0
          rw [cov_one]
          show decide (((a + n : Nat) : Int) ≤ (k : Int) ∧ (k : Int) < ((a + n : Nat) : Int) + 1) = _
          by_cases hk : k = a + n
          · subst hk; rw [decide_eq_true (by omega), decide_eq_true (by omega), hf]; rfl
          · by_cases h1 : a ≤ k ∧ k < a + n
            · have h2 : f k = false := by simpa [h1] using h0.symm
              rw [h2, Bool.and_false]; exact decide_eq_false (by omega)
            · rw [decide_eq_false (show ¬ (a ≤ k ∧ k < a + (n + 1)) by omega), Bool.false_and]; exact decide_eq_false (by omega)
      · rw [List.concat_eq_append] at h
        rw [h] at ih ⊢
        rw [push_snoc]
        obtain ⟨hp1, hp2, hp3⟩ := ih.pos p (by simp)
        have hsep := List.pairwise_append.1 ih.sep
        by_cases hpk : p.fr + p.ct = ((a + n : Nat) : Int)
        · rw [if_pos hpk]
          refine ⟨fun q hq => ?_, ?_, fun k => ?_⟩
          · rcases List.mem_append.1 hq with hq | hq
            · have := ih.pos q (by simp [hq]); exact ⟨this.1, this.2.1, by omega⟩
            · rw [List.mem_singleton] at hq; subst hq; exact ⟨by show 1 ≤ p.ct + 1; omega, hp2, by show p.fr + (p.ct + 1) ≤ _; omega⟩
          · refine List.pairwise_append.2 ⟨hsep.1, List.pairwise_singleton _ _, fun x hx y hy => ?_⟩
            rw [List.mem_singleton] at hy; subst hy
            exact hsep.2.2 x hx p (by simp)
          · have h0 := ih.cov k
            rw [cov_append, cov_one] at h0 ⊢
            by_cases hk : k = a + n
            · subst hk
              rw [decide_eq_true (show (⟨p.fr, p.ct + 1⟩ : Piece).fr ≤ ((a + n : Nat) : Int) ∧ ((a + n : Nat) : Int) < (⟨p.fr, p.ct + 1⟩ : Piece).fr + (⟨p.fr, p.ct + 1⟩ : Piece).ct by simp only; omega), Bool.or_true, decide_eq_true (show a ≤ a + n ∧ a + n < a + (n + 1) by omega), hf]; rfl
            · have e1 : decide ((⟨p.fr, p.ct + 1⟩ : Piece).fr ≤ (k : Int) ∧ (k : Int) < (⟨p.fr, p.ct + 1⟩ : Piece).fr + (⟨p.fr, p.ct + 1⟩ : Piece).ct) = decide (p.fr ≤ (k : Int) ∧ (k : Int) < p.fr + p.ct) := decide_eq_decide.2 (by simp only; omega)
              have e2 : decide (a ≤ k ∧ k < a + (n + 1)) = decide (a ≤ k ∧ k < a + n) := decide_eq_decide.2 (by omega)
              rw [e1, e2, h0]
        · rw [if_neg hpk]
          refine ⟨fun q hq => ?_, ?_, fun k => ?_⟩
          · rcases List.mem_append.1 hq with hq | hq
            · have := ih.pos q hq; exact ⟨this.1, this.2.1, by omega⟩
            · rw [List.mem_singleton] at hq; subst hq; exact ⟨by show (1 : Int) ≤ 1; omega, by show (a : Int) ≤ ((a + n : Nat) : Int); omega, by show ((a + n : Nat) : Int) + 1 ≤ ((a + (n + 1) : Nat) : Int); omega⟩
          · refine List.pairwise_append.2 ⟨ih.sep, List.pairwise_singleton _ _, fun x hx y hy => ?_⟩
            rw [List.mem_singleton] at hy; subst hy
            show x.fr + x.ct < ((a + n : Nat) : Int)
            rcases List.mem_append.1 hx with hx | hx
            · have := hsep.2.2 x hx p (by simp); omega
            · rw [List.mem_singleton] at hx; subst hx; omega
          · have h0 := ih.cov k
            rw [cov_append, h0, cov_one]
            show (_ || decide (((a + n : Nat) : Int) ≤ (k : Int) ∧ (k : Int) < ((a + n : Nat) : Int) + 1)) = _
            by_cases hk : k = a + n
            · subst hk
              rw [decide_eq_true (show ((a + n : Nat) : Int) ≤ ((a + n : Nat) : Int) ∧ ((a + n : Nat) : Int) < ((a + n : Nat) : Int) + 1 by omega), Bool.or_true, decide_eq_true (show a ≤ a + n ∧ a + n < a + (n + 1) by omega), hf]; rfl
            · rw [decide_eq_false (show ¬ (((a + n : Nat) : Int) ≤ (k : Int) ∧ (k : Int) < ((a + n : Nat) : Int) + 1) by omega), Bool.or_false]
              congr 1
              exact decide_eq_decide.2 (by omega)
    · rw [if_neg hf]
      refine ⟨fun q hq => ?_, ih.sep, fun k => ?_⟩
      · have := ih.pos q hq; exact ⟨this.1, this.2.1, by omega⟩
      · rw [ih.cov k]
        by_cases hk : k = a + n
        · subst hk
          have : f (a + n) = false := by simpa using hf
          rw [this, Bool.and_false, Bool.and_false]
        · congr 1
          exact decide_eq_decide.2 (by omega)
/-- sectors that are not meant change nothing -/
theorem runs_skip {f : Nat → Bool} {a n : Nat} : ∀ {m : Nat}, (∀ k, n ≤ k → k < n + m → f (a + k) = false) → runsTo f a (n + m) = runsTo f a n
  | 0, _ => rfl
  | m + 1, h => by
    rw [← Nat.add_assoc, runsTo, if_neg (by rw [h (n + m) (by omega) (by omega)]; decide)]
    exact runs_skip (fun k h1 h2 => h k h1 (by omega))
/-- a stretch of sectors that are meant, away from the last run, is one run more -/
theorem runs_more {f : Nat → Bool} {a n : Nat} (hl : ∀ p ∈ runsTo f a n, p.fr + p.ct < ((a + n : Nat) : Int)) : ∀ {m : Nat}, (∀ k, n ≤ k → k < n + (m + 1) → f (a + k) = true) → runsTo f a (n + (m + 1)) = runsTo f a n ++ [⟨((a + n : Nat) : Int), ((m + 1 : Nat) : Int)⟩]
  | 0, h => by
    rw [Nat.zero_add, runsTo, if_pos (h n (by omega) (by omega))]
    rcases List.eq_nil_or_concat (runsTo f a n) with h0 | ⟨out, p, h0⟩
    · rw [h0]; rfl
    · rw [List.concat_eq_append] at h0
      rw [h0] at hl ⊢
      have := hl p (by simp)
      rw [push_snoc, if_neg (by omega)]
      rfl
  | m + 1, h => by
    rw [show n + (m + 1 + 1) = (n + (m + 1)) + 1 by omega, runsTo, if_pos (h (n + (m + 1)) (by omega) (by omega)), runs_more hl (m := m) (fun k h1 h2 => h k h1 (by omega)), push_snoc, if_pos (by show ((a + n : Nat) : Int) + ((m + 1 : Nat) : Int) = ((a + (n + (m + 1)) : Nat) : Int); omega)]
    rfl
/-- free sectors -/
def freeF (first count : Nat) (l : List Piece) : List Piece := runsTo (fun k => !covB l k) first (count - first)
def freeE (first count : Int) (l : List Piece) : Int := if count < 0 ∨ 4096 < count ∨ first < 0 ∨ count < first then 2 else checkR count l
/-- what the program's walk over sorted pieces has told: at 'at_', behind i pieces -/
def atOf (first : Int) : List Piece → Int
  | [] => first
  | p :: l => max (p.fr + p.ct) (atOf first l)
end room
end Go.Proofs.Ytagjfplipknlkaa
