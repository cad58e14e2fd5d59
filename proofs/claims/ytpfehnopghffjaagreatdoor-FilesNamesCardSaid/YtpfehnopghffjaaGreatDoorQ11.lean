import Derived.Test.YtpfehnopghffjaaGreatDoorQ10
set_option linter.unusedVariables false
set_option linter.unusedSimpArgs false
set_option maxRecDepth 20000
/-
  Layer 3, plain: runs of sectors; what no piece has.
-/
namespace Go.Proofs.YtpfehnopghffjaaGreatDoor
open Go
namespace room
def covB (l : List Piece) (k : Nat) : Bool := l.any (fun p => decide (p.fr ≤ (k : Int) ∧ (k : Int) < p.fr + p.ct))
theorem cov_iff {l : List Piece} {k : Nat} : covB l k = true ↔ ∃ p ∈ l, p.fr ≤ (k : Int) ∧ (k : Int) < p.fr + p.ct := by simp [covB]
theorem cov_perm {l s : List Piece} (h : s.Perm l) (k : Nat) : covB s k = covB l k := by
  rw [Bool.eq_iff_iff, cov_iff, cov_iff]
  constructor
  · rintro ⟨p, hp, h2⟩; exact ⟨p, h.mem_iff.1 hp, h2⟩
  · rintro ⟨p, hp, h2⟩; exact ⟨p, h.mem_iff.2 hp, h2⟩
/-- one sector more behind runs -/
def pushR (out : List Piece) (k : Int) : List Piece :=
  match out.getLast? with
  | some p => if p.fr + p.ct = k then out.dropLast ++ [⟨p.fr, p.ct + 1⟩] else out ++ [⟨k, 1⟩]
  | none => [⟨k, 1⟩]
def runsTo (f : Nat → Bool) (a : Nat) : Nat → List Piece
  | 0 => []
  | n + 1 => if f (a + n) = true then pushR (runsTo f a n) ((a + n : Nat) : Int) else runsTo f a n
theorem push_nil (k : Int) : pushR [] k = [⟨k, 1⟩] := rfl
theorem push_snoc (out : List Piece) (p : Piece) (k : Int) : pushR (out ++ [p]) k = if p.fr + p.ct = k then out ++ [⟨p.fr, p.ct + 1⟩] else out ++ [p] ++ [⟨k, 1⟩] := by
  unfold pushR
  rw [List.getLast?_append]
  simp
/-- runs end where they were last told, or ahead of it; they rise and do not touch; each is in [a, a + n) -/
structure Runs (f : Nat → Bool) (a n : Nat) (out : List Piece) : Prop where
  pos : ∀ p ∈ out, 1 ≤ p.ct ∧ (a : Int) ≤ p.fr ∧ p.fr + p.ct ≤ ((a + n : Nat) : Int)
  sep : out.Pairwise (fun p q => p.fr + p.ct < q.fr)
  cov : ∀ k, covB out k = (decide (a ≤ k ∧ k < a + n) && f k)
theorem cov_append (l m : List Piece) (k : Nat) : covB (l ++ m) k = (covB l k || covB m k) := by simp [covB]
theorem cov_one (p : Piece) (k : Nat) : covB [p] k = decide (p.fr ≤ (k : Int) ∧ (k : Int) < p.fr + p.ct) := by simp [covB]
theorem runs_ok (f : Nat → Bool) (a : Nat) : ∀ n, Runs f a n (runsTo f a n)
  | 0 => ⟨fun p hp => (by cases hp), .nil, fun k => (by simp only [runsTo, covB, List.any_nil]; rw [decide_eq_false (by omega), Bool.false_and])⟩
  | n + 1 => by
    have ih := runs_ok f a n
    rw [runsTo]
    by_cases hf : f (a + n) = true
    · rw [if_pos hf]
      rcases List.eq_nil_or_concat (runsTo f a n) with h | ⟨out, p, h⟩
      · rw [h] at ih ⊢
        rw [push_nil]
        refine ⟨fun q hq => ?_, List.pairwise_singleton _ _, fun k => ?_⟩
        · rw [List.mem_singleton] at hq; subst hq; exact ⟨by show (1 : Int) ≤ 1; omega, by show (a : Int) ≤ ((a + n : Nat) : Int); omega, by show ((a + n : Nat) : Int) + 1 ≤ ((a + (n + 1) : Nat) : Int); omega⟩
        · have h0 := ih.cov k
          rw [show covB [] k = false from rfl] at h0
          rw [cov_one]
          show decide (((a + n : Nat) : Int) ≤ (k : Int) ∧ (k : Int) < ((a + n : Nat) : Int) + 1) = _
          by_cases hk : k = a + n
          · subst hk; rw [decide_eq_true (by omega), decide_eq_true (by omega), hf]; rfl
          · by_cases h1 : a ≤ k ∧ k < a + n
            · have h2 : f k = false := by simpa [h1] using h0.symm
              rw [h2, Bool.and_false]; exact decide_eq_false (by omega)
            · rw [decide_eq_false (show ¬ (a ≤ k ∧ k < a + (n + 1)) by omega), Bool.false_and]; exact decide_eq_false (by omega)
      · rw [List.concat_eq_append] at h
        rw [h] at ih ⊢
        rw [push_snoc]
        obtain ⟨hp1, hp2, hp3⟩ := ih.pos p (by simp)
        have hsep := List.pairwise_append.1 ih.sep
        by_cases hpk : p.fr + p.ct = ((a + n : Nat) : Int)
        · rw [if_pos hpk]
          refine ⟨fun q hq => ?_, ?_, fun k => ?_⟩
          · rcases List.mem_append.1 hq with hq | hq
            · have := ih.pos q (by simp [hq]); exact ⟨this.1, this.2.1, by omega⟩
            · rw [List.mem_singleton] at hq; subst hq; exact ⟨by show 1 ≤ p.ct + 1; omega, hp2, by show p.fr + (p.ct + 1) ≤ _; omega⟩
          · refine List.pairwise_append.2 ⟨hsep.1, List.pairwise_singleton _ _, fun x hx y hy => ?_⟩
            rw [List.mem_singleton] at hy; subst hy
            exact hsep.2.2 x hx p (by simp)
          · have h0 := ih.cov k
            rw [cov_append, cov_one] at h0 ⊢
            by_cases hk : k = a + n
            · subst hk
              rw [decide_eq_true (show (⟨p.fr, p.ct + 1⟩ : Piece).fr ≤ ((a + n : Nat) : Int) ∧ ((a + n : Nat) : Int) < (⟨p.fr, p.ct + 1⟩ : Piece).fr + (⟨p.fr, p.ct + 1⟩ : Piece).ct by simp only; omega), Bool.or_true, decide_eq_true (show a ≤ a + n ∧ a + n < a + (n + 1) by omega), hf]; rfl
            · have e1 : decide ((⟨p.fr, p.ct + 1⟩ : Piece).fr ≤ (k : Int) ∧ (k : Int) < (⟨p.fr, p.ct + 1⟩ : Piece).fr + (⟨p.fr, p.ct + 1⟩ : Piece).ct) = decide (p.fr ≤ (k : Int) ∧ (k : Int) < p.fr + p.ct) := decide_eq_decide.2 (by simp only; omega)
              have e2 : decide (a ≤ k ∧ k < a + (n + 1)) = decide (a ≤ k ∧ k < a + n) := decide_eq_decide.2 (by omega)
              rw [e1, e2, h0]
        · rw [if_neg hpk]
          refine ⟨fun q hq => ?_, ?_, fun k => ?_⟩
          · rcases List.mem_append.1 hq with hq | hq
            · have := ih.pos q hq; exact ⟨this.1, this.2.1, by omega⟩
            · rw [List.mem_singleton] at hq; subst hq; exact ⟨by show (1 : Int) ≤ 1; omega, by show (a : Int) ≤ ((a + n : Nat) : Int); omega, by show ((a + n : Nat) : Int) + 1 ≤ ((a + (n + 1) : Nat) : Int); omega⟩
          · refine List.pairwise_append.2 ⟨ih.sep, List.pairwise_singleton _ _, fun x hx y hy => ?_⟩
            rw [List.mem_singleton] at hy; subst hy
            show x.fr + x.ct < ((a + n : Nat) : Int)
            rcases List.mem_append.1 hx with hx | hx
            · have := hsep.2.2 x hx p (by simp); omega
            · rw [List.mem_singleton] at hx; subst hx; omega
          · have h0 := ih.cov k
            rw [cov_append, h0, cov_one]
            show (_ || decide (((a + n : Nat) : Int) ≤ (k : Int) ∧ (k : Int) < ((a + n : Nat) : Int) + 1)) = _
            by_cases hk : k = a + n
            · subst hk
              rw [decide_eq_true (show ((a + n : Nat) : Int) ≤ ((a + n : Nat) : Int) ∧ ((a + n : Nat) : Int) < ((a + n : Nat) : Int) + 1 by omega), Bool.or_true, decide_eq_true (show a ≤ a + n ∧ a + n < a + (n + 1) by omega), hf]; rfl
            · rw [decide_eq_false (show ¬ (((a + n : Nat) : Int) ≤ (k : Int) ∧ (k : Int) < ((a + n : Nat) : Int) + 1) by omega), Bool.or_false]
              congr 1
              exact decide_eq_decide.2 (by omega)
    · rw [if_neg hf]
      refine ⟨fun q hq => ?_, ih.sep, fun k => ?_⟩
      · have := ih.pos q hq; exact ⟨this.1, this.2.1, by omega⟩
      · rw [ih.cov k]
        by_cases hk : k = a + n
        · subst hk
          have : f (a + n) = false := by simpa using hf
          rw [this, Bool.and_false, Bool.and_false]
        · congr 1
          exact decide_eq_decide.2 (by omega)
/-- sectors that are not meant change nothing -/
theorem runs_skip {f : Nat → Bool} {a n : Nat} : ∀ {m : Nat}, (∀ k, n ≤ k → k < n + m → f (a + k) = false) → runsTo f a (n + m) = runsTo f a n
  | 0, _ => rfl
  | m + 1, h => by
    rw [← Nat.add_assoc, runsTo, if_neg (by rw [h (n + m) (by omega) (by omega)]; decide)]
    exact runs_skip (fun k h1 h2 => h k h1 (by omega))
/-- a stretch of sectors that are meant, away from the last run, is one run more -/
theorem runs_more {f : Nat → Bool} {a n : Nat} (hl : ∀ p ∈ runsTo f a n, p.fr + p.ct < ((a + n : Nat) : Int)) : ∀ {m : Nat}, (∀ k, n ≤ k → k < n + (m + 1) → f (a + k) = true) → runsTo f a (n + (m + 1)) = runsTo f a n ++ [⟨((a + n : Nat) : Int), ((m + 1 : Nat) : Int)⟩]
  | 0, h => by
    rw [Nat.zero_add, runsTo, if_pos (h n (by omega) (by omega))]
    rcases List.eq_nil_or_concat (runsTo f a n) with h0 | ⟨out, p, h0⟩
    · rw [h0]; rfl
    · rw [List.concat_eq_append] at h0
      rw [h0] at hl ⊢
      have := hl p (by simp)
      rw [push_snoc, if_neg (by omega)]
      rfl
  | m + 1, h => by
    rw [show n + (m + 1 + 1) = (n + (m + 1)) + 1 by omega, runsTo, if_pos (h (n + (m + 1)) (by omega) (by omega)), runs_more hl (m := m) (fun k h1 h2 => h k h1 (by omega)), push_snoc, if_pos (by show ((a + n : Nat) : Int) + ((m + 1 : Nat) : Int) = ((a + (n + (m + 1)) : Nat) : Int); omega)]
    rfl
/-- free sectors -/
def freeF (first count : Nat) (l : List Piece) : List Piece := runsTo (fun k => !covB l k) first (count - first)
def freeE (first count : Int) (l : List Piece) : Int := if count < 0 ∨ 4096 < count ∨ first < 0 ∨ count < first then 2 else checkR count l
/-- what the program's walk over sorted pieces has told: at 'at_', behind i pieces -/
def atOf (first : Int) : List Piece → Int
  | [] => first
  | p :: l => max (p.fr + p.ct) (atOf first l)
end room
end Go.Proofs.YtpfehnopghffjaaGreatDoor
/-
  Layer 3, plain: what a walk over rising pieces tells of the sectors between and in them; taking the first ones.
-/
namespace Go.Proofs.YtpfehnopghffjaaGreatDoor
open Go
namespace room
/-- one piece more behind runs -/
def pushM (out : List Piece) (p : Piece) : List Piece :=
  match out.getLast? with
  | some q => if q.fr + q.ct = p.fr then out.dropLast ++ [⟨q.fr, q.ct + p.ct⟩] else out ++ [p]
  | none => [p]
theorem pushM_nil (p : Piece) : pushM [] p = [p] := rfl
theorem pushM_snoc (out : List Piece) (q p : Piece) : pushM (out ++ [q]) p = if q.fr + q.ct = p.fr then out ++ [⟨q.fr, q.ct + p.ct⟩] else out ++ [q] ++ [p] := by
  unfold pushM
  rw [List.getLast?_append]
  simp
theorem push_push (out : List Piece) (k m : Int) : pushR (pushM out ⟨k, m⟩) (k + m) = pushM out ⟨k, m + 1⟩ := by
  rcases List.eq_nil_or_concat out with h | ⟨o, q, h⟩
  · subst h; rw [pushM_nil, pushM_nil]
    exact (push_snoc [] ⟨k, m⟩ (k + m)).trans (if_pos rfl)
  · rw [List.concat_eq_append] at h
    subst h
    rw [pushM_snoc, pushM_snoc]
    by_cases hq : q.fr + q.ct = k
    · rw [if_pos hq, if_pos hq, push_snoc, if_pos (by show q.fr + (q.ct + m) = k + m; omega)]
      rw [show q.ct + (m + 1) = q.ct + m + 1 by omega]
    · rw [if_neg hq, if_neg hq, push_snoc, if_pos rfl]
theorem push_one (out : List Piece) (k : Int) : pushR out k = pushM out ⟨k, 1⟩ := rfl
/-- a stretch of sectors that are meant -/
theorem runs_push {f : Nat → Bool} {a n : Nat} : ∀ {m : Nat}, (∀ k, n ≤ k → k < n + (m + 1) → f (a + k) = true) → runsTo f a (n + (m + 1)) = pushM (runsTo f a n) ⟨((a + n : Nat) : Int), ((m + 1 : Nat) : Int)⟩
  | 0, h => by
    rw [Nat.zero_add, runsTo, if_pos (h n (by omega) (by omega))]; rfl
  | m + 1, h => by
    rw [show n + (m + 1 + 1) = (n + (m + 1)) + 1 by omega, runsTo, if_pos (h (n + (m + 1)) (by omega) (by omega)), runs_push (m := m) (fun k h1 h2 => h k h1 (by omega))]
    have e : ((a + (n + (m + 1)) : Nat) : Int) = ((a + n : Nat) : Int) + ((m + 1 : Nat) : Int) := by omega
    rw [e, push_push]
    rfl
theorem covB_false {q : List Piece} {k : Nat} (h : ∀ p ∈ q, ¬ (p.fr ≤ (k : Int) ∧ (k : Int) < p.fr + p.ct)) : covB q k = false := by
  cases hc : covB q k
  · rfl
  · obtain ⟨p, hp, h2⟩ := cov_iff.1 hc
    exact absurd h2 (h p hp)
theorem rises_get {q : List Piece} (hr : Rises q) {i j : Nat} (hij : i < j) (hj : j < q.length) : (q[i]'(by omega)).fr + (q[i]'(by omega)).ct ≤ q[j].fr := List.pairwise_iff_getElem.1 hr i j (by omega) hj hij
/-- a walk behind i pieces: at 'at_' -/
structure Wk (f : Nat → Bool) (first : Nat) (q : List Piece) (i : Nat) (at_ : Nat) (out : List Piece) : Prop where
  le : first ≤ at_
  eq : out = runsTo f first (at_ - first)
  edge : i < q.length → at_ = first ∨ covB q (at_ - 1) = true
  ends : ∀ p ∈ q.take i, p.fr + p.ct ≤ (at_ : Int)
section
variable {first i at_ : Nat} {q out : List Piece}
/-- between where the walk is and the next piece no sector is in a piece -/
theorem Wk.gap {f : Nat → Bool} (W : Wk f first q i at_ out) (hr : Rises q) (hc0 : ∀ p ∈ q, 0 ≤ p.ct) (hi : i < q.length) {k : Nat} (h1 : at_ ≤ k) (h2 : (k : Int) < q[i].fr) : covB q k = false := by
  refine covB_false (fun x hx hh => ?_)
  obtain ⟨j, hj, rfl⟩ := List.getElem_of_mem hx
  rcases Nat.lt_trichotomy j i with hji | hji | hji
  · have := W.ends q[j] (List.mem_take_iff_getElem.2 ⟨j, by omega, rfl⟩)
    omega
  · subst hji; omega
  · have := rises_get hr hji hj
    have := hc0 q[i] (List.getElem_mem hi)
    omega
theorem Wk.begin (f : Nat → Bool) (first : Nat) (q : List Piece) : Wk f first q 0 first [] := ⟨Nat.le_refl _, by rw [Nat.sub_self]; rfl, fun _ => .inl rfl, fun p hp => by cases hp⟩
/-- the free ones: one piece further -/
theorem Wk.free (W : Wk (fun k => !covB q k) first q i at_ out) (hr : Rises q) (hc0 : ∀ p ∈ q, 0 ≤ p.ct) (hct : ∀ j (h : j + 1 < q.length), 1 ≤ q[j].ct) (hi : i < q.length) :
    Wk (fun k => !covB q k) first q (i + 1) (max (at_ : Int) (q[i].fr + q[i].ct)).toNat (if (at_ : Int) < q[i].fr then out ++ [⟨(at_ : Int), q[i].fr - at_⟩] else out) := by
  have hc := hc0 q[i] (List.getElem_mem hi)
  have hle := W.le
  have hm : ((max (at_ : Int) (q[i].fr + q[i].ct)).toNat : Int) = max (at_ : Int) (q[i].fr + q[i].ct) := Int.toNat_of_nonneg (by omega)
  have hin : ∀ k : Nat, q[i].fr ≤ (k : Int) → (k : Int) < q[i].fr + q[i].ct → covB q k = true := fun k h1 h2 => cov_iff.2 ⟨q[i], List.getElem_mem hi, h1, h2⟩
  refine ⟨by omega, ?_, fun h => ?_, fun p hp => ?_⟩
  · by_cases hg : (at_ : Int) < q[i].fr
    · rw [if_pos hg, W.eq]
      obtain ⟨m, hm2⟩ : ∃ m : Nat, q[i].fr = (at_ : Int) + ((m + 1 : Nat) : Int) := ⟨(q[i].fr - at_).toNat - 1, by omega⟩
      have e1 : (max (at_ : Int) (q[i].fr + q[i].ct)).toNat - first = (at_ - first + (m + 1)) + q[i].ct.toNat := by omega
      have hgap : ∀ k, at_ - first ≤ k → k < at_ - first + (m + 1) → (fun k => !covB q k) (first + k) = true := fun k h1 h2 => by
        show (!covB q (first + k)) = true
        rw [W.gap hr hc0 hi (k := first + k) (by omega) (by omega)]; rfl
      have hskip : ∀ k, (at_ - first + (m + 1)) ≤ k → k < (at_ - first + (m + 1)) + q[i].ct.toNat → (fun k => !covB q k) (first + k) = false := fun k h1 h2 => by
        show (!covB q (first + k)) = false
        rw [hin (first + k) (by omega) (by omega)]; rfl
      rw [e1, runs_skip hskip, runs_more ?_ hgap]
      · have e3 : ((first + (at_ - first) : Nat) : Int) = (at_ : Int) := by omega
        rw [e3, show q[i].fr - (at_ : Int) = ((m + 1 : Nat) : Int) by omega]
      · intro p hp
        have R := runs_ok (fun k => !covB q k) first (at_ - first)
        obtain ⟨p1, p2, p3⟩ := R.pos p hp
        rcases W.edge hi with he | he
        · omega
        · rcases Int.lt_or_eq_of_le p3 with h | h
          · exact h
          · have hk := R.cov (at_ - 1)
            rw [cov_iff.2 ⟨p, hp, by omega, by omega⟩, he] at hk
            simp at hk
    · rw [if_neg hg, W.eq]
      by_cases hc : (at_ : Int) < q[i].fr + q[i].ct
      · have e1 : (max (at_ : Int) (q[i].fr + q[i].ct)).toNat - first = (at_ - first) + ((q[i].fr + q[i].ct).toNat - at_) := by omega
        have hskip : ∀ k, (at_ - first) ≤ k → k < (at_ - first) + ((q[i].fr + q[i].ct).toNat - at_) → (fun k => !covB q k) (first + k) = false := fun k h1 h2 => by
          show (!covB q (first + k)) = false
          rw [hin (first + k) (by omega) (by omega)]; rfl
        rw [e1, runs_skip hskip]
      · rw [show (max (at_ : Int) (q[i].fr + q[i].ct)).toNat = at_ by omega]
  · by_cases hc : (at_ : Int) < q[i].fr + q[i].ct
    · have h1 := hct i h
      refine .inr (hin _ (by omega) (by omega))
    · rw [show (max (at_ : Int) (q[i].fr + q[i].ct)).toNat = at_ by omega]
      exact W.edge hi
  · rw [List.take_succ_eq_append_getElem hi] at hp
    rcases List.mem_append.1 hp with hp | hp
    · have := W.ends p hp; omega
    · rw [List.mem_singleton] at hp; subst hp; omega
/-- the ones in pieces: one piece further -/
theorem Wk.join (W : Wk (covB q) 0 q i at_ out) (hr : Rises q) (hok : ∀ p ∈ q, 0 ≤ p.fr ∧ 1 ≤ p.ct) (hi : i < q.length) (ha : (at_ : Int) ≤ q[i].fr) :
    Wk (covB q) 0 q (i + 1) (q[i].fr + q[i].ct).toNat (pushM out q[i]) := by
  obtain ⟨h0, hc⟩ := hok q[i] (List.getElem_mem hi)
  have hin : ∀ k : Nat, q[i].fr ≤ (k : Int) → (k : Int) < q[i].fr + q[i].ct → covB q k = true := fun k h1 h2 => cov_iff.2 ⟨q[i], List.getElem_mem hi, h1, h2⟩
  refine ⟨Nat.zero_le _, ?_, fun h => .inr (hin _ (by omega) (by omega)), fun p hp => ?_⟩
  · obtain ⟨m, hm⟩ : ∃ m : Nat, q[i].ct = ((m + 1 : Nat) : Int) := ⟨q[i].ct.toNat - 1, by omega⟩
    have e1 : (q[i].fr + q[i].ct).toNat - 0 = (at_ + (q[i].fr.toNat - at_)) + (m + 1) := by omega
    have hgap : ∀ k, at_ ≤ k → k < at_ + (q[i].fr.toNat - at_) → covB q (0 + k) = false := fun k h1 h2 => by
      rw [Nat.zero_add]
      exact W.gap hr (fun p hp => by have := (hok p hp).2; omega) hi h1 (by omega)
    rw [e1, runs_push (fun k h1 h2 => by rw [Nat.zero_add]; exact hin k (by omega) (by omega)), runs_skip hgap, W.eq, Nat.sub_zero]
    have e3 : ((0 + (at_ + (q[i].fr.toNat - at_)) : Nat) : Int) = q[i].fr := by omega
    rw [e3, ← hm]
  · rw [List.take_succ_eq_append_getElem hi] at hp
    rcases List.mem_append.1 hp with hp | hp
    · have := W.ends p hp; omega
    · rw [List.mem_singleton] at hp; subst hp; omega
end
/-- the sum of the counts -/
def totalF : List Piece → Int
  | [] => 0
  | p :: l => p.ct + totalF l
theorem total_append (a b : List Piece) : totalF (a ++ b) = totalF a + totalF b := by
  induction a with
  | nil => simp [totalF]
  | cons p a ih => simp only [List.cons_append, totalF, ih]; omega
theorem total_take {l : List Piece} {i : Nat} (h : i < l.length) : totalF (l.take (i + 1)) = totalF (l.take i) + l[i].ct := by
  rw [List.take_succ_eq_append_getElem h, total_append]
  simp [totalF]
theorem total_bd {M : Int} (hM : 0 ≤ M) : ∀ {l : List Piece}, (∀ p ∈ l, 0 ≤ p.ct ∧ p.ct ≤ M) → 0 ≤ totalF l ∧ totalF l ≤ l.length * M
  | [], _ => by simp [totalF]
  | p :: l, h => by
    have ih := total_bd hM (l := l) (fun q hq => h q (List.mem_cons_of_mem _ hq))
    have h0 := h p (by simp)
    simp only [totalF, List.length_cons]
    have e : ((l.length + 1 : Nat) : Int) * M = l.length * M + M := by rw [Int.natCast_add, Int.add_mul]; simp
    rw [e]
    omega
theorem total_pos : ∀ {l : List Piece}, (∀ p ∈ l, 1 ≤ p.ct) → 0 ≤ totalF l
  | [], _ => Int.le_refl _
  | p :: l, h => by
    have h0 := h p (by simp)
    have := total_pos (l := l) (fun q hq => h q (List.mem_cons_of_mem _ hq))
    simp only [totalF]
    omega
/-- taking the first ones -/
def takeF : List Piece → Int → List Piece
  | [], _ => []
  | p :: l, m => if m = 0 then [] else ⟨p.fr, min p.ct m⟩ :: takeF l (m - min p.ct m)
theorem take_all : ∀ {l : List Piece} {m : Int}, (∀ p ∈ l, 1 ≤ p.ct) → totalF l ≤ m → takeF l m = l
  | [], _, _, _ => rfl
  | p :: l, m, h, hm => by
    have h0 := h p (by simp)
    simp only [totalF] at hm
    have hl : 0 ≤ totalF l := total_pos (fun q hq => h q (List.mem_cons_of_mem _ hq))
    rw [takeF, if_neg (by omega), show min p.ct m = p.ct by omega, take_all (fun q hq => h q (List.mem_cons_of_mem _ hq)) (by omega)]
theorem take_more : ∀ {l r : List Piece} {m : Int}, (∀ p ∈ l, 1 ≤ p.ct) → 0 ≤ m → m ≤ totalF l → takeF (l ++ r) m = takeF l m
  | [], r, m, _, h0, hm => by
    simp only [totalF] at hm
    have : m = 0 := by omega
    subst this
    cases r <;> rfl
  | p :: l, r, m, h, h0, hm => by
    simp only [totalF] at hm
    have h1 := h p (by simp)
    rw [List.cons_append, takeF, takeF]
    by_cases hz : m = 0
    · rw [if_pos hz, if_pos hz]
    · rw [if_neg hz, if_neg hz, take_more (fun q hq => h q (List.mem_cons_of_mem _ hq)) (by omega) ?_]
      by_cases hh : p.ct ≤ m
      · rw [show min p.ct m = p.ct by omega]; omega
      · rw [show min p.ct m = m by omega]
        have : 0 ≤ totalF l := total_pos (fun q hq => h q (List.mem_cons_of_mem _ hq))
        omega
end room
end Go.Proofs.YtpfehnopghffjaaGreatDoor
/-
  Package room: pieces copied, sorted, held to what they may be; how many sectors.
-/
namespace Go.Proofs.YtpfehnopghffjaaGreatDoor
open Go room
theorem Sl.isNoneP {α : Type} {t : Ty α} {P : Nat → Prop} {w : World} {a : Option Addr} {n cap : Nat} {xs : List α} (h : (Sl t).rep P w (.slice a n cap) xs) (ha : a.isNone = true) : xs = [] := by
  obtain ⟨_, a', cap', e, _, ⟨rfl, _⟩ | ⟨b, o, us, rfl, _⟩⟩ := h
  · rfl
  · cases e; cases ha
namespace room
theorem check_8 {count : Int} {l : List Piece} (h1 : ¬ (count < 0 ∨ 4096 < count)) (h2 : ¬ 4096 < l.length) (h3 : ¬ mayP count l) : checkR count l = 8 := by unfold checkR; rw [if_neg h1, if_neg h2, if_neg h3]
theorem check_0 {count : Int} {l : List Piece} (h1 : ¬ (count < 0 ∨ 4096 < count)) (h2 : ¬ 4096 < l.length) (h3 : mayP count l) : checkR count l = 0 := by unfold checkR; rw [if_neg h1, if_neg h2, if_pos h3]
end room
theorem piecesClone_fn {w : World} {v : Value} {l : List Piece} (h : (Sl tPiece).rep All w v l) (hl : l.length ≤ 100000) : Fn Tryz.prog 150 [v] w (fun r w2 => OwnO tPiece (fun _ => False) 40 w2 r l (fun k => w.heap.size ≤ k) ∧ Ext (fun _ => False) w w2) := by
  obtain ⟨a, cap, rfl, hcap⟩ := Sl.val h
  refine Fn.enter (fun w => Tryz.call150 _ w) Tryz.func150 rfl ?_
  refine .seq (.region ?_)
  refine .p rfl rfl (.as rfl) ?_
  refine .nil (.code (.seq (.seq (.keep [(0, _)] ⟨rfl, trivial⟩ (.region ?_)))))
  refine .p rfl rfl (.mv rfl) ?_
  refine .p rfl rfl (.eqNil rfl rfl rfl) ?_
  refine .nil (.code (.keep [(4, _), (0, _)] ⟨rfl, rfl, trivial⟩ ?_))
  refine .cond rfl (fun c4 => ?_) (fun c4 => ?_)
  · refine .seq (.keep [] trivial (.region ?_))
    refine .p rfl rfl (.as rfl) ?_
    refine .nil (.code ?_)
    refine .ret _ rfl ?_
    rw [Sl.isNoneP h c4]
    exact ⟨OwnO.nil, .refl _⟩
  · refine .skip (.code (.seq (.keep [(0, _)] ⟨rfl, trivial⟩ (.region ?_))))
    refine .v rfl rfl (.lits rfl rfl (fun _ => by kernel_rfl)) ?_
    rintro _ w5 ⟨rfl, N5⟩
    refine .p rfl rfl (.mv rfl) ?_
    refine .v rfl rfl (.append (t := tPiece) (Q := fun _ => False) (eb := 16) rfl (Own.ofNew (us := []) N5 .nil (by decide) rfl rfl) rfl (Sl.holds ((Sl tPiece).ext0 h N5.ext) (fun _ _ h => h)) rfl rfl rfl rfl rfl rfl rfl (by simp; omega) (by simp [Lim]; omega) (fun _ h _ => h.elim)) ?_
    rintro v7 w7 ⟨b7, O7, X7, hb7⟩
    have O7 := O7.mono (Q' := fun _ => False) (fun _ h _ => h.1)
    have Z7 := N5.ext.then X7 (by rintro k rfl _; omega)
    have hz5 := N5.size
    refine .p rfl rfl (.as rfl) ?_
    refine .nil (.code ?_)
    refine .ret _ rfl ?_
    exact ⟨OwnO.of O7 (by show w.heap.size ≤ b7; omega), Z7⟩
theorem rising_fn {w : World} {v : Value} {l : List Piece} {count : Int} (h : (Sl tPiece).rep All w v l) : Fn Tryz.prog 124 [i64 count, v] w (fun r w2 => ∃ v' s, r = .tuple #[v', i64 (checkR count l)] ∧ (checkR count l = 0 → s.Perm l ∧ Rises s) ∧ (¬ checkR count l = 0 → s = []) ∧ OwnO tPiece (fun _ => False) 40 w2 v' s (fun k => w.heap.size ≤ k) ∧ Ext (fun _ => False) w w2) := by
  obtain ⟨a, cap, rfl, hcap⟩ := Sl.val h
  have hlim := Sl.lim h
  simp only [Lim] at hlim
  refine Fn.enter (fun w => Tryz.call124 _ w) Tryz.func124 rfl ?_
  refine .seq (.region ?_)
  refine .p rfl rfl (.as rfl) ?_
  refine .p rfl rfl (.as rfl) ?_
  refine .nil (.code (.seq (.seq (.keep [(0, _), (1, _)] ⟨rfl, rfl, trivial⟩ (.region ?_)))))
  refine .p rfl rfl (.mv rfl) ?_
  refine .p rfl rfl (.lt rfl rfl) ?_
  refine .p rfl rfl (.mv rfl) ?_
  refine .caseD 11 rfl (fun c11 => ?_) (fun c11 => ?_)
  · refine .skip rfl rfl ?_
    refine .skip rfl rfl ?_
    refine .p rfl rfl (.pickT rfl rfl) ?_
    refine .nil (.code (.keep [(14, _), (0, _), (1, _)] ⟨rfl, rfl, rfl, trivial⟩ (.condT rfl (.seq (.keep [] trivial (.region ?_))))))
    refine .p rfl rfl (.as rfl) ?_
    refine .p rfl rfl (.as rfl) ?_
    refine .nil (.code ?_)
    refine .ret _ rfl ?_
    have e : checkR count l = 2 := by unfold checkR; rw [if_pos (by omega)]
    rw [e]
    exact ⟨_, [], rfl, fun hz => absurd hz (by decide), fun _ => rfl, OwnO.nil, .refl _⟩
  · refine .p rfl rfl (.mv rfl) ?_
    refine .p rfl rfl (.gt rfl rfl) ?_
    refine .p rfl rfl (.pickF rfl rfl) ?_
    refine .nil (.code (.keep [(14, _), (0, _), (1, _)] ⟨rfl, rfl, rfl, trivial⟩ ?_))
    refine .condD rfl (fun c14 => ?_) (fun c14 => ?_)
    · refine .seq (.keep [] trivial (.region ?_))
      refine .p rfl rfl (.as rfl) ?_
      refine .p rfl rfl (.as rfl) ?_
      refine .nil (.code ?_)
      refine .ret _ rfl ?_
      have e : checkR count l = 2 := by unfold checkR; rw [if_pos (by omega)]
      rw [e]
      exact ⟨_, [], rfl, fun hz => absurd hz (by decide), fun _ => rfl, OwnO.nil, .refl _⟩
    · refine .skip (.code (.seq (.seq (.keep [(0, _), (1, _)] ⟨rfl, rfl, trivial⟩ (.region ?_)))))
      refine .p rfl rfl (.mv rfl) ?_
      refine .p rfl rfl (.len rfl rfl) ?_
      refine .p rfl rfl (.gt rfl rfl) ?_
      refine .nil (.code (.keep [(17, _), (0, _), (1, _)] ⟨rfl, rfl, rfl, trivial⟩ ?_))
      refine .condD rfl (fun c17 => ?_) (fun c17 => ?_)
      · refine .seq (.keep [] trivial (.region ?_))
        refine .p rfl rfl (.as rfl) ?_
        refine .p rfl rfl (.as rfl) ?_
        refine .nil (.code ?_)
        refine .ret _ rfl ?_
        have e : checkR count l = 4 := by unfold checkR; rw [if_neg (by omega), if_pos (by omega)]
        rw [e]
        exact ⟨_, [], rfl, fun hz => absurd hz (by decide), fun _ => rfl, OwnO.nil, .refl _⟩
      · refine .skip (.code (.seq (.seq (.keep [(0, _), (1, _)] ⟨rfl, rfl, trivial⟩ (.region ?_)))))
        refine .p rfl rfl (.mv rfl) ?_
        refine .p rfl rfl (.len rfl rfl) ?_
        refine .p rfl rfl (.mv rfl) ?_
        refine .nil (.code (.block ?_))
        refine .loop (S := Nat × World) (fun s => [(0, i64 count), (1, .slice a l.length cap), (18, .slice a l.length cap), (19, i64 l.length), (20, i64 s.1)]) (fun s => s.2) (fun s => s.1 ≤ l.length ∧ Ext (fun _ => False) w s.2 ∧ ∀ p ∈ l.take s.1, okP count p) (fun s => l.length - s.1) (0, w) ⟨rfl, rfl, rfl, rfl, rfl, trivial⟩ rfl ⟨Nat.zero_le _, .refl _, fun p hp => by cases hp⟩ ?_
        rintro ⟨i, wi⟩ J ⟨hi', hX, hok⟩ again
        simp only at hi' hX hok
        change G _ [(0, i64 count), (1, .slice a l.length cap), (18, .slice a l.length cap), (19, i64 l.length), (20, i64 i)] _ _ wi
        refine .seq (.region ?_)
        refine .p rfl rfl (.lt rfl rfl) ?_
        refine .nil (.code (.seq ?_))
        refine .condD rfl (fun c21 => ?_) (fun c21 => ?_)
        · have hi : i < l.length := by omega
          obtain ⟨b1, o1, q1, ue, e, _, hcs, hre⟩ := Sl.at h (List.getElem?_eq_getElem hi)
          cases e
          obtain ⟨rfl, hr1, hr2⟩ := tPiece.val hre
          refine .skip (.code (.seq (.block (.seq (.keep [(0, _), (1, _), (18, _), (19, _), (20, _)] ⟨rfl, rfl, rfl, rfl, rfl, trivial⟩ (.region ?_))))))
          refine .p rfl rfl (.indexAddr (s := 2) rfl rfl rfl rfl (by omega)) ?_
          refine .p rfl rfl (.loadA (n := 2) rfl rfl rfl rfl rfl (hcs.ext hX (fun x => x))) ?_
          refine .v rfl rfl (.alloc rfl rfl) ?_
          rintro _ w7a ⟨rfl, N7⟩
          refine .s rfl (.storeAll (n := 2) rfl rfl rfl rfl rfl N7.blk rfl) ?_
          intro w7 P7
          have X7 := N7.ext.then P7.ext (by rintro k rfl _; exact Nat.le_refl _)
          have B7 := P7.blk
          refine .nil (.code (.seq (.keep [(7, _), (0, _), (1, _), (18, _), (19, _), (20, _)] ⟨rfl, rfl, rfl, rfl, rfl, rfl, trivial⟩ (.region ?_))))
          refine .p rfl rfl (.fieldAddr rfl rfl rfl rfl) ?_
          refine .p rfl rfl (.load rfl rfl rfl (B7.cell 1)) ?_
          refine .p rfl rfl (.lt rfl rfl) ?_
          refine .p rfl rfl (.mv rfl) ?_
          refine .caseD 27 rfl (fun c27 => ?_) (fun c27 => ?_)
          · refine .skip rfl rfl ?_
            refine .skip rfl rfl ?_
            refine .skip rfl rfl ?_
            refine .p rfl rfl (.pickT rfl rfl) ?_
            refine .p rfl rfl (.mv rfl) ?_
            refine .skip rfl rfl ?_
            refine .skip rfl rfl ?_
            refine .skip rfl rfl ?_
            refine .skip rfl rfl ?_
            refine .p rfl rfl (.pickT rfl rfl) ?_
            refine .p rfl rfl (.mv rfl) ?_
            refine .skip rfl rfl ?_
            refine .skip rfl rfl ?_
            refine .skip rfl rfl ?_
            refine .skip rfl rfl ?_
            refine .skip rfl rfl ?_
            refine .skip rfl rfl ?_
            refine .skip rfl rfl ?_
            refine .p rfl rfl (.pickT rfl rfl) ?_
            refine .nil (.code (.keep [(46, _), (0, _), (1, _), (18, _), (19, _), (20, _)] ⟨rfl, rfl, rfl, rfl, rfl, rfl, trivial⟩ (.condT rfl (.seq (.keep [] trivial (.region ?_))))))
            refine .p rfl rfl (.as rfl) ?_
            refine .p rfl rfl (.as rfl) ?_
            refine .nil (.code ?_)
            refine .ret _ rfl ?_
            have hno : ¬ okP count l[i] := by unfold okP; omega
            rw [check_8 (by omega) (by omega) (fun hm => hno (hm.1 _ (List.getElem_mem hi)))]
            exact ⟨_, [], rfl, fun hz => absurd hz (by decide), fun _ => rfl, OwnO.nil, hX.trans X7⟩
          · refine .p rfl rfl (.fieldAddr rfl rfl rfl rfl) ?_
            refine .p rfl rfl (.load rfl rfl rfl (B7.cell 0)) ?_
            refine .p rfl rfl (.lt rfl rfl) ?_
            refine .p rfl rfl (.pickF rfl rfl) ?_
            refine .p rfl rfl (.mv rfl) ?_
            refine .caseD 32 rfl (fun c32 => ?_) (fun c32 => ?_)
            · refine .skip rfl rfl ?_
              refine .skip rfl rfl ?_
              refine .skip rfl rfl ?_
              refine .skip rfl rfl ?_
              refine .p rfl rfl (.pickT rfl rfl) ?_
              refine .p rfl rfl (.mv rfl) ?_
              refine .skip rfl rfl ?_
              refine .skip rfl rfl ?_
              refine .skip rfl rfl ?_
              refine .skip rfl rfl ?_
              refine .skip rfl rfl ?_
              refine .skip rfl rfl ?_
              refine .skip rfl rfl ?_
              refine .p rfl rfl (.pickT rfl rfl) ?_
              refine .nil (.code (.keep [(46, _), (0, _), (1, _), (18, _), (19, _), (20, _)] ⟨rfl, rfl, rfl, rfl, rfl, rfl, trivial⟩ (.condT rfl (.seq (.keep [] trivial (.region ?_))))))
              refine .p rfl rfl (.as rfl) ?_
              refine .p rfl rfl (.as rfl) ?_
              refine .nil (.code ?_)
              refine .ret _ rfl ?_
              have hno : ¬ okP count l[i] := by unfold okP; omega
              rw [check_8 (by omega) (by omega) (fun hm => hno (hm.1 _ (List.getElem_mem hi)))]
              exact ⟨_, [], rfl, fun hz => absurd hz (by decide), fun _ => rfl, OwnO.nil, hX.trans X7⟩
            · refine .p rfl rfl (.fieldAddr rfl rfl rfl rfl) ?_
              refine .p rfl rfl (.load rfl rfl rfl (B7.cell 0)) ?_
              refine .p rfl rfl (.mv rfl) ?_
              refine .p rfl rfl (.ge rfl rfl) ?_
              refine .p rfl rfl (.pickF rfl rfl) ?_
              refine .p rfl rfl (.mv rfl) ?_
              refine .caseD 38 rfl (fun c38 => ?_) (fun c38 => ?_)
              · refine .skip rfl rfl ?_
                refine .skip rfl rfl ?_
                refine .skip rfl rfl ?_
                refine .skip rfl rfl ?_
                refine .skip rfl rfl ?_
                refine .skip rfl rfl ?_
                refine .skip rfl rfl ?_
                refine .p rfl rfl (.pickT rfl rfl) ?_
                refine .nil (.code (.keep [(46, _), (0, _), (1, _), (18, _), (19, _), (20, _)] ⟨rfl, rfl, rfl, rfl, rfl, rfl, trivial⟩ (.condT rfl (.seq (.keep [] trivial (.region ?_))))))
                refine .p rfl rfl (.as rfl) ?_
                refine .p rfl rfl (.as rfl) ?_
                refine .nil (.code ?_)
                refine .ret _ rfl ?_
                have hno : ¬ okP count l[i] := by unfold okP; omega
                rw [check_8 (by omega) (by omega) (fun hm => hno (hm.1 _ (List.getElem_mem hi)))]
                exact ⟨_, [], rfl, fun hz => absurd hz (by decide), fun _ => rfl, OwnO.nil, hX.trans X7⟩
              · refine .p rfl rfl (.fieldAddr rfl rfl rfl rfl) ?_
                refine .p rfl rfl (.load rfl rfl rfl (B7.cell 1)) ?_
                refine .p rfl rfl (.mv rfl) ?_
                refine .p rfl rfl (.fieldAddr rfl rfl rfl rfl) ?_
                refine .p rfl rfl (.load rfl rfl rfl (B7.cell 0)) ?_
                refine .p rfl rfl (.sub rfl rfl (by omega)) ?_
                refine .p rfl rfl (.gt rfl rfl) ?_
                refine .p rfl rfl (.pickF rfl rfl) ?_
                refine .nil (.code (.keep [(46, _), (0, _), (1, _), (18, _), (19, _), (20, _)] ⟨rfl, rfl, rfl, rfl, rfl, rfl, trivial⟩ ?_))
                refine .condD rfl (fun c46 => ?_) (fun c46 => ?_)
                · refine .seq (.keep [] trivial (.region ?_))
                  refine .p rfl rfl (.as rfl) ?_
                  refine .p rfl rfl (.as rfl) ?_
                  refine .nil (.code ?_)
                  refine .ret _ rfl ?_
                  have hno : ¬ okP count l[i] := by unfold okP; omega
                  rw [check_8 (by omega) (by omega) (fun hm => hno (hm.1 _ (List.getElem_mem hi)))]
                  exact ⟨_, [], rfl, fun hz => absurd hz (by decide), fun _ => rfl, OwnO.nil, hX.trans X7⟩
                · refine .skip (.blk (.code (.keep [(0, _), (1, _), (18, _), (19, _), (20, _)] ⟨rfl, rfl, rfl, rfl, rfl, trivial⟩ (.region ?_))))
                  refine .p rfl rfl (.add rfl rfl (by omega)) ?_
                  refine .p rfl rfl (.mv rfl) ?_
                  refine .nil ?_
                  refine (again (i + 1, w7) ⟨by show i + 1 ≤ _; omega, hX.trans X7, fun p hp => ?_⟩ (by show _ - (i + 1) < _ - i; omega)).of ⟨rfl, rfl, rfl, rfl, rfl, trivial⟩
                  have hp : p ∈ l.take (i + 1) := hp
                  rw [List.take_succ_eq_append_getElem hi] at hp
                  rcases List.mem_append.1 hp with hp | hp
                  · exact hok p hp
                  · rw [List.mem_singleton] at hp
                    subst hp
                    unfold okP; omega
        · obtain rfl : i = l.length := by omega
          rw [List.take_length] at hok
          refine .exit rfl (.code (.seq (.keep [(1, _)] ⟨rfl, trivial⟩ (.region ?_))))
          refine .p rfl rfl (.mv rfl) ?_
          refine .call (first := []) (captured := []) rfl rfl rfl rfl (piecesClone_fn ((Sl tPiece).ext0 h hX) (by omega)) ?_
          rintro r49 w49 ⟨O49, X49⟩
          refine .p rfl rfl (.as rfl) ?_
          refine .nil (.code (.seq (.keep [(1, _)] ⟨rfl, trivial⟩ (.region ?_))))
          refine .p rfl rfl (.mv rfl) ?_
          refine .call (first := []) (captured := []) rfl rfl rfl rfl (SortFunc_fn O49) ?_
          rintro _ w51 ⟨rfl, ps, hp, hso, O51, X51⟩
          have Z51 : Ext (fun _ => False) w w51 := (hX.trans X49).then X51 (fun k hk _ => Nat.le_trans hX.size hk)
          have R51 := OwnO.rep O51 (R := All) (fun _ _ _ => trivial) (fun _ h _ => h.elim)
          obtain ⟨a51, c51, rfl, hc51⟩ := Sl.val R51
          have hsl : ps.length = l.length := hp.length_eq
          have hoks : ∀ p ∈ ps, okP count p := fun p h => hok p (hp.mem_iff.1 h)
          refine .nil (.code (.seq (.seq (.keep [(1, _)] ⟨rfl, trivial⟩ (.region ?_)))))
          refine .p rfl rfl (.as rfl) ?_
          refine .nil (.code (.block ?_))
          refine .loop (S := Nat) (fun s => [(1, .slice a51 ps.length c51), (8, i64 s)]) (fun s => w51) (fun s => 1 ≤ s ∧ ∀ j (hj : j + 1 < ps.length), j + 1 < s → ps[j].fr + ps[j].ct ≤ ps[j + 1].fr) (fun s => ps.length - s) 1 ⟨rfl, rfl, trivial⟩ rfl ⟨Nat.le_refl _, fun j hj h1 => by omega⟩ ?_
          rintro j J ⟨hj1, hcon⟩ again
          refine .seq (.seq (.region ?_))
          refine .p rfl rfl (.mv rfl) ?_
          refine .p rfl rfl (.mv rfl) ?_
          refine .p rfl rfl (.len rfl rfl) ?_
          refine .p rfl rfl (.lt rfl rfl) ?_
          refine .nil (.code (.keep [(55, _), (1, _), (8, _)] ⟨rfl, rfl, rfl, trivial⟩ ?_))
          refine .condD rfl (fun c55 => ?_) (fun c55 => ?_)
          · have hj : j < ps.length := by omega
            obtain ⟨b2, o2, q2, ue2, e2, _, hcp, hrp⟩ := Sl.at R51 (i := j - 1) (List.getElem?_eq_getElem (by omega))
            cases e2
            obtain ⟨rfl, hp1, hp2⟩ := tPiece.val hrp
            obtain ⟨b3, o3, q3, ue3, e3, _, hcq, hrq⟩ := Sl.at R51 (i := j) (List.getElem?_eq_getElem hj)
            cases e3
            obtain ⟨rfl, hq1, hq2⟩ := tPiece.val hrq
            have ej : ((j : Int) - 1).toNat = j - 1 := by omega
            have hkp := hoks ps[j - 1] (List.getElem_mem (by omega))
            unfold okP at hkp
            refine .skip (.code (.seq (.block (.seq (.keep [(1, _), (8, _)] ⟨rfl, rfl, trivial⟩ (.draws (by kernel_rfl) (by kernel_rfl) ?_))))))
            refine .p rfl rfl (.mv rfl) ?_
            refine .p rfl rfl (.mv rfl) ?_
            refine .p rfl rfl (.sub rfl rfl (by omega)) ?_
            refine .p rfl rfl (.indexAddr (s := 2) rfl rfl rfl rfl (by omega)) ?_
            refine .p rfl rfl (.fieldAddr rfl rfl rfl rfl) ?_
            refine .p rfl rfl (.load rfl rfl rfl (by rw [ej]; exact hcp 0 _ rfl)) ?_
            refine .p rfl rfl (.mv rfl) ?_
            refine .p rfl rfl (.mv rfl) ?_
            refine .p rfl rfl (.sub rfl rfl (by omega)) ?_
            refine .p rfl rfl (.indexAddr (s := 2) rfl rfl rfl rfl (by omega)) ?_
            refine .p rfl rfl (.fieldAddr rfl rfl rfl rfl) ?_
            refine .p rfl rfl (.load rfl rfl rfl (by rw [ej]; exact hcp 1 _ rfl)) ?_
            refine .p rfl rfl (.add rfl rfl (by omega)) ?_
            refine .p rfl rfl (.mv rfl) ?_
            refine .p rfl rfl (.mv rfl) ?_
            refine .p rfl rfl (.indexAddr (s := 2) rfl rfl rfl rfl (by omega)) ?_
            refine .p rfl rfl (.fieldAddr rfl rfl rfl rfl) ?_
            refine .p rfl rfl (.load rfl rfl rfl (hcq 0 _ rfl)) ?_
            refine .p rfl rfl (.gt rfl rfl) ?_
            refine .nil (.code (.keep [(76, _), (1, _), (8, _)] ⟨rfl, rfl, rfl, trivial⟩ ?_))
            refine .condD rfl (fun c76 => ?_) (fun c76 => ?_)
            · refine .seq (.keep [] trivial (.region ?_))
              refine .p rfl rfl (.as rfl) ?_
              refine .p rfl rfl (.as rfl) ?_
              refine .nil (.code ?_)
              refine .ret _ rfl ?_
              have hno : ¬ mayP count l := fun hm => by
                have hr := List.pairwise_iff_getElem.1 (rises_of_may hp hm hso) (j - 1) j (by omega) hj (by omega)
                omega
              rw [check_8 (by omega) (by omega) hno]
              exact ⟨_, [], rfl, fun hz => absurd hz (by decide), fun _ => rfl, OwnO.nil, Z51⟩
            · refine .skip (.blk (.code (.keep [(1, _), (8, _)] ⟨rfl, rfl, trivial⟩ (.region ?_))))
              refine .p rfl rfl (.mv rfl) ?_
              refine .p rfl rfl (.add rfl rfl (by omega)) ?_
              refine .p rfl rfl (.as rfl) ?_
              refine .nil ?_
              refine (again (j + 1) ⟨by omega, fun k hk h1 => ?_⟩ (by omega)).of ⟨rfl, rfl, trivial⟩
              rcases Nat.lt_or_ge (k + 1) j with h2 | h2
              · exact hcon k hk h2
              · have ek : k = j - 1 := by omega
                subst ek
                have e2 : ps[j - 1 + 1] = ps[j] := by congr 1; omega
                rw [e2]
                omega
          · refine .exit rfl (.code (.seq (.keep [(1, _)] ⟨rfl, trivial⟩ (.region ?_))))
            refine .p rfl rfl (.mv rfl) ?_
            refine .p rfl rfl (.as rfl) ?_
            refine .p rfl rfl (.as rfl) ?_
            refine .nil (.code ?_)
            refine .ret _ rfl ?_
            have hr : Rises ps := rises_of (fun p hp => by have := hoks p hp; unfold okP at this; omega) (fun k hk => hcon k hk (by omega))
            rw [check_0 (by omega) (by omega) (may_of_rises hp hok hr)]
            exact ⟨_, ps, rfl, fun _ => ⟨hp, hr⟩, fun hz => absurd rfl hz, OwnO.mono O51 (fun _ h _ => h) (fun k hk _ => Nat.le_trans hX.size hk), Z51⟩
theorem RoomCheck_fn {w : World} {v : Value} {l : List Piece} {count : Int} (h : (Sl tPiece).rep All w v l) : Fn Tryz.prog 111 [i64 count, v] w (fun r w2 => r = i64 (checkR count l) ∧ Ext (fun _ => False) w w2) := by
  refine Fn.enter (fun w => Tryz.call111 _ w) Tryz.func111 rfl ?_
  refine .seq (.region ?_)
  refine .p rfl rfl (.as rfl) ?_
  refine .nil (.code (.seq (.keep [(0, _), (1, _)] ⟨rfl, rfl, trivial⟩ (.region ?_))))
  refine .p rfl rfl (.mv rfl) ?_
  refine .p rfl rfl (.mv rfl) ?_
  refine .call (first := []) (captured := []) rfl rfl rfl rfl (rising_fn h) ?_
  rintro _ w10 ⟨v10, ps, rfl, hs1, hs2, O10, X10⟩
  refine .p rfl rfl (.mv rfl) ?_
  refine .p rfl rfl (.extract rfl rfl) ?_
  refine .p rfl rfl (.extract rfl rfl) ?_
  refine .p rfl rfl (.as rfl) ?_
  refine .p rfl rfl (.as rfl) ?_
  refine .nil (.code (.seq (.keep [(6, _)] ⟨rfl, trivial⟩ (.region ?_))))
  refine .p rfl rfl (.mv rfl) ?_
  refine .p rfl rfl (.as rfl) ?_
  refine .nil (.code ?_)
  refine .ret _ rfl ?_
  exact ⟨rfl, X10⟩
theorem total_fn {w : World} {v : Value} {l : List Piece} (h : (Sl tPiece).rep All w v l) (hb : ∀ p ∈ l, 0 ≤ p.ct ∧ p.ct ≤ 4096) : Fn Tryz.prog 125 [v] w (fun r w2 => r = i64 (totalF l) ∧ Ext (fun _ => False) w w2) := by
  obtain ⟨a, cap, rfl, hcap⟩ := Sl.val h
  have hlim := Sl.lim h
  simp only [Lim] at hlim
  refine Fn.enter (fun w => Tryz.call125 _ w) Tryz.func125 rfl ?_
  refine .seq (.region ?_)
  refine .p rfl rfl (.as rfl) ?_
  refine .nil (.code (.seq (.seq (.region ?_))))
  refine .p rfl rfl (.mv rfl) ?_
  refine .p rfl rfl (.len rfl rfl) ?_
  refine .p rfl rfl (.mv rfl) ?_
  refine .nil (.code (.block (.keep [(7, _), (6, _), (5, _), (2, _)] ⟨rfl, rfl, rfl, rfl, trivial⟩ ?_)))
  refine .loop (S := Nat × World) (fun s => [(2, i64 (totalF (l.take s.1))), (5, .slice a l.length cap), (6, i64 l.length), (7, i64 s.1)]) (fun s => s.2) (fun s => s.1 ≤ l.length ∧ Ext (fun _ => False) w s.2) (fun s => l.length - s.1) (0, w) ⟨rfl, rfl, rfl, rfl, trivial⟩ rfl ⟨Nat.zero_le _, .refl _⟩ ?_
  rintro ⟨i, wi⟩ J ⟨hi', hX⟩ again
  simp only at hi' hX
  change G _ [(2, i64 (totalF (l.take i))), (5, .slice a l.length cap), (6, i64 l.length), (7, i64 i)] _ _ wi
  refine .seq (.region ?_)
  refine .p rfl rfl (.lt rfl rfl) ?_
  refine .nil (.code (.seq ?_))
  refine .condD rfl (fun c8 => ?_) (fun c8 => ?_)
  · have hi : i < l.length := by omega
    obtain ⟨b1, o1, q1, ue, e, _, hcs, hre⟩ := Sl.at h (List.getElem?_eq_getElem hi)
    cases e
    obtain ⟨rfl, hr1, hr2⟩ := tPiece.val hre
    have ht := total_bd (M := 4096) (by decide) (l := l.take i) (fun p hp => hb p (List.mem_of_mem_take hp))
    have hl0 := hb l[i] (List.getElem_mem hi)
    have hle : (l.take i).length ≤ l.length := by rw [List.length_take]; omega
    refine .skip (.code (.seq (.block (.seq (.keep [(2, _), (5, _), (6, _), (7, _)] ⟨rfl, rfl, rfl, rfl, trivial⟩ (.region ?_))))))
    refine .p rfl rfl (.indexAddr (s := 2) rfl rfl rfl rfl (by omega)) ?_
    refine .p rfl rfl (.loadA (n := 2) rfl rfl rfl rfl rfl (hcs.ext hX (fun x => x))) ?_
    refine .v rfl rfl (.alloc rfl rfl) ?_
    rintro _ w7a ⟨rfl, N7⟩
    refine .s rfl (.storeAll (n := 2) rfl rfl rfl rfl rfl N7.blk rfl) ?_
    intro w7 P7
    have X7 := N7.ext.then P7.ext (by rintro k rfl _; exact Nat.le_refl _)
    have B7 := P7.blk
    refine .nil (.code (.keep [(4, _), (2, _), (5, _), (6, _), (7, _)] ⟨rfl, rfl, rfl, rfl, rfl, trivial⟩ (.region ?_)))
    refine .p rfl rfl (.mv rfl) ?_
    refine .p rfl rfl (.fieldAddr rfl rfl rfl rfl) ?_
    refine .p rfl rfl (.load rfl rfl rfl (B7.cell 1)) ?_
    refine .p rfl rfl (.cast (.add rfl rfl (by omega)) (show i64 (totalF (l.take i) + l[i].ct) = i64 (totalF (l.take (i + 1))) by rw [total_take hi])) ?_
    refine .p rfl rfl (.as rfl) ?_
    refine .nil (.blk (.code (.keep [(2, _), (5, _), (6, _), (7, _)] ⟨rfl, rfl, rfl, rfl, trivial⟩ (.region ?_))))
    refine .p rfl rfl (.add rfl rfl (by omega)) ?_
    refine .p rfl rfl (.mv rfl) ?_
    refine .nil ?_
    exact (again (i + 1, w7) ⟨by show i + 1 ≤ _; omega, hX.trans X7⟩ (by show _ - (i + 1) < _ - i; omega)).of ⟨rfl, rfl, rfl, rfl, trivial⟩
  · obtain rfl : i = l.length := by omega
    rw [List.take_length]
    refine .exit rfl (.code (.seq (.keep [(2, _)] ⟨rfl, trivial⟩ (.region ?_))))
    refine .p rfl rfl (.mv rfl) ?_
    refine .p rfl rfl (.as rfl) ?_
    refine .nil (.code ?_)
    refine .ret _ rfl ?_
    exact ⟨rfl, hX⟩
end Go.Proofs.YtpfehnopghffjaaGreatDoor
