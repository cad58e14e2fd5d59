
/-
  Layer 3, plain: what a walk over rising pieces tells of the sectors between and in them; taking the first ones.
-/
import Derived.Test.YtagjfplipknlkaaRoomLaw
set_option linter.unusedVariables false
set_option linter.unusedSimpArgs false
namespace Go.Proofs.Ytagjfplipknlkaa
open Go
namespace room
/-- one piece more behind runs -/
def pushM (out : List Piece) (p : Piece) : List Piece :=
  match out.getLast? with
  | some q => if q.fr + q.ct = p.fr then out.dropLast ++ [⟨q.fr, q.ct + p.ct⟩] else out ++ [p]
  | none => [p]
theorem pushM_nil (p : Piece) : pushM [] p = [p] := rfl
theorem pushM_snoc (out : List Piece) (q p : Piece) : pushM (out ++ [q]) p = if q.fr + q.ct = p.fr then out ++ [⟨q.fr, q.ct + p.ct⟩] else out ++ [q] ++ [p] := by
  unfold pushM
  rw [List.getLast?_append]
  simp
theorem push_push (out : List Piece) (k m : Int) : pushR (pushM out ⟨k, m⟩) (k + m) = pushM out ⟨k, m + 1⟩ := by
  rcases List.eq_nil_or_concat out with h | ⟨o, q, h⟩
  · subst h; rw [pushM_nil, pushM_nil]
    exact (push_snoc [] ⟨k, m⟩ (k + m)).trans (if_pos rfl)
  · rw [List.concat_eq_append] at h
    subst h
    rw [pushM_snoc, pushM_snoc]
    by_cases hq : q.fr + q.ct = k
    · rw [if_pos hq, if_pos hq, push_snoc, if_pos (by show q.fr + (q.ct + m) = k + m; omega)]
      rw [show q.ct + (m + 1) = q.ct + m + 1 by omega]
    · rw [if_neg hq, if_neg hq, push_snoc, if_pos rfl]
theorem push_one (out : List Piece) (k : Int) : pushR out k = pushM out ⟨k, 1⟩ := rfl
/-- a stretch of sectors that are meant -/
theorem runs_push {f : Nat → Bool} {a n : Nat} : ∀ {m : Nat}, (∀ k, n ≤ k → k < n + (m + 1) → f (a + k) = true) → runsTo f a (n + (m + 1)) = pushM (runsTo f a n) ⟨((a + n : Nat) : Int), ((m + 1 : Nat) : Int)⟩
  | 0, h => by
    rw [Nat.zero_add, runsTo, if_pos (h n (by omega) (by omega))]; rfl
  | m + 1, h => by
    rw [show n + (m + 1 + 1) = (n + (m + 1)) + 1 by omega, runsTo, if_pos (h (n + (m + 1)) (by omega) (by omega)), runs_push (m := m) (fun k h1 h2 => h k h1 (by omega))]
    have e : ((a + (n + (m + 1)) : Nat) : Int) = ((a + n : Nat) : Int) + ((m + 1 : Nat) : Int) := by omega
    rw [e, push_push]
    rfl
theorem covB_false {q : List Piece} {k : Nat} (h : ∀ p ∈ q, ¬ (p.fr ≤ (k : Int) ∧ (k : Int) < p.fr + p.ct)) : covB q k = false := by
  cases hc : covB q k
  · rfl
  · obtain ⟨p, hp, h2⟩ := cov_iff.1 hc
    exact absurd h2 (h p hp)
theorem rises_get {q : List Piece} (hr : Rises q) {i j : Nat} (hij : i < j) (hj : j < q.length) : (q[i]'(by omega)).fr + (q[i]'(by omega)).ct ≤ q[j].fr := List.pairwise_iff_getElem.1 hr i j (by omega) hj hij
/-- a walk behind i pieces: at 'at_' -/
structure Wk (f : Nat → Bool) (first : Nat) (q : List Piece) (i : Nat) (at_ : Nat) (out : List Piece) : Prop where
  le : first ≤ at_
  eq : out = runsTo f first (at_ - first)
  edge : i < q.length → at_ = first ∨ covB q (at_ - 1) = true
  ends : ∀ p ∈ q.take i, p.fr + p.ct ≤ (at_ : Int)
section
variable {first i at_ : Nat} {q out : List Piece}
/-- between where the walk is and the next piece no sector is in a piece -/
theorem Wk.gap {f : Nat → Bool} (W : Wk f first q i at_ out) (hr : Rises q) (hc0 : ∀ p ∈ q, 0 ≤ p.ct) (hi : i < q.length) {k : Nat} (h1 : at_ ≤ k) (h2 : (k : Int) < q[i].fr) : covB q k = false := by
  refine covB_false (fun x hx hh => ?_)
  obtain ⟨j, hj, rfl⟩ := List.getElem_of_mem hx
  rcases Nat.lt_trichotomy j i with hji | hji | hji
  · have := W.ends q[j] (List.mem_take_iff_getElem.2 ⟨j, by omega, rfl⟩)
    omega
  · subst hji; omega
  · have := rises_get hr hji hj
    have := hc0 q[i] (List.getElem_mem hi)
    omega
theorem Wk.begin (f : Nat → Bool) (first : Nat) (q : List Piece) : Wk f first q 0 first [] := ⟨Nat.le_refl _, by rw [Nat.sub_self]; rfl, fun _ => .inl rfl, fun p hp => by cases hp⟩
/-- the free ones: one piece further -/
theorem Wk.free (W : Wk (fun k => !covB q k) first q i at_ out) (hr : Rises q) (hc0 : ∀ p ∈ q, 0 ≤ p.ct) (hct : ∀ j (h : j + 1 < q.length), 1 ≤ q[j].ct) (hi : i < q.length) :
    Wk (fun k => !covB q k) first q (i + 1) (max (at_ : Int) (q[i].fr + q[i].ct)).toNat (if (at_ : Int) < q[i].fr then out ++ [⟨(at_ : Int), q[i].fr - at_⟩] else out) := by
  have hc := hc0 q[i] (List.getElem_mem hi)
  have hle := W.le
  have hm : ((max (at_ : Int) (q[i].fr + q[i].ct)).toNat : Int) = max (at_ : Int) (q[i].fr + q[i].ct) := Int.toNat_of_nonneg (by omega)
  have hin : ∀ k : Nat, q[i].fr ≤ (k : Int) → (k : Int) < q[i].fr + q[i].ct → covB q k = true := fun k h1 h2 => cov_iff.2 ⟨q[i], List.getElem_mem hi, h1, h2⟩
  refine ⟨by omega, ?_, fun h => ?_, fun p hp => ?_⟩
  · by_cases hg : (at_ : Int) < q[i].fr
    · rw [if_pos hg, W.eq]
      obtain ⟨m, hm2⟩ : ∃ m : Nat, q[i].fr = (at_ : Int) + ((m + 1 : Nat) : Int) := ⟨(q[i].fr - at_).toNat - 1, by omega⟩
      have e1 : (max (at_ : Int) (q[i].fr + q[i].ct)).toNat - first = (at_ - first + (m + 1)) + q[i].ct.toNat := by omega
      have hgap : ∀ k, at_ - first ≤ k → k < at_ - first + (m + 1) → (fun k => !covB q k) (first + k) = true := fun k h1 h2 => by
        show (!covB q (first + k)) = true
        rw [W.gap hr hc0 hi (k := first + k) (by omega) (by omega)]; rfl
      have hskip : ∀ k, (at_ - first + (m + 1)) ≤ k → k < (at_ - first + (m + 1)) + q[i].ct.toNat → (fun k => !covB q k) (first + k) = false := fun k h1 h2 => by
        show (!covB q (first + k)) = false
        rw [hin (first + k) (by omega) (by omega)]; rfl
      rw [e1, runs_skip hskip, runs_more ?_ hgap]
      · have e3 : ((first + (at_ - first) : Nat) : Int) = (at_ : Int) := by omega
        rw [e3, show q[i].fr - (at_ : Int) = ((m + 1 : Nat) : Int) by omega]
      · intro p hp
        have R := runs_ok (fun k => !covB q k) first (at_ - first)
        obtain ⟨p1, p2, p3⟩ := R.pos p hp
        rcases W.edge hi with he | he
        · omega
        · rcases Int.lt_or_eq_of_le p3 with h | h
          · exact h
          · have hk := R.cov (at_ - 1)
            rw [cov_iff.2 ⟨p, hp, by omega, by omega⟩, he] at hk
            simp at hk
    · rw [if_neg hg, W.eq]
      by_cases hc : (at_ : Int) < q[i].fr + q[i].ct
      · have e1 : (max (at_ : Int) (q[i].fr + q[i].ct)).toNat - first = (at_ - first) + ((q[i].fr + q[i].ct).toNat - at_) := by omega
        have hskip : ∀ k, (at_ - first) ≤ k → k < (at_ - first) + ((q[i].fr + q[i].ct).toNat - at_) → (fun k => !covB q k) (first + k) = false := fun k h1 h2 => by
          show (!covB q (first + k)) = false
          rw [hin (first + k) (by omega) (by omega)]; rfl
        rw [e1, runs_skip hskip]
      · rw [show (max (at_ : Int) (q[i].fr + q[i].ct)).toNat = at_ by omega]
  · by_cases hc : (at_ : Int) < q[i].fr + q[i].ct
    · have h1 := hct i h
      refine .inr (hin _ (by omega) (by omega))
    · rw [show (max (at_ : Int) (q[i].fr + q[i].ct)).toNat = at_ by omega]
      exact W.edge hi
  · rw [List.take_succ_eq_append_getElem hi] at hp
    rcases List.mem_append.1 hp with hp | hp
    · have := W.ends p hp; omega
    · rw [List.mem_singleton] at hp; subst hp; omega
/-- the ones in pieces: one piece further -/
theorem Wk.join (W : Wk (covB q) 0 q i at_ out) (hr : Rises q) (hok : ∀ p ∈ q, 0 ≤ p.fr ∧ 1 ≤ p.ct) (hi : i < q.length) (ha : (at_ : Int) ≤ q[i].fr) :
    Wk (covB q) 0 q (i + 1) (q[i].fr + q[i].ct).toNat (pushM out q[i]) := by
  obtain ⟨h0, hc⟩ := hok q[i] (List.getElem_mem hi)
  have hin : ∀ k : Nat, q[i].fr ≤ (k : Int) → (k : Int) < q[i].fr + q[i].ct → covB q k = true := fun k h1 h2 => cov_iff.2 ⟨q[i], List.getElem_mem hi, h1, h2⟩
  refine ⟨Nat.zero_le _, ?_, fun h => .inr (hin _ (by omega) (by omega)), fun p hp => ?_⟩
  · obtain ⟨m, hm⟩ : ∃ m : Nat, q[i].ct = ((m + 1 : Nat) : Int) := ⟨q[i].ct.toNat - 1, by omega⟩
    have e1 : (q[i].fr + q[i].ct).toNat - 0 = (at_ + (q[i].fr.toNat - at_)) + (m + 1) := by omega
    have hgap : ∀ k, at_ ≤ k → k < at_ + (q[i].fr.toNat - at_) → covB q (0 + k) = false := fun k h1 h2 => by
      rw [Nat.zero_add]
      exact W.gap hr (fun p hp => by have := (hok p hp).2; omega) hi h1 (by omega)
    rw [e1, runs_push (fun k h1 h2 => by rw [Nat.zero_add]; exact hin k (by omega) (by omega)), runs_skip hgap, W.eq, Nat.sub_zero]
    have e3 : ((0 + (at_ + (q[i].fr.toNat - at_)) : Nat) : Int) = q[i].fr := by omega
    rw [e3, ← hm]
  · rw [List.take_succ_eq_append_getElem hi] at hp
    rcases List.mem_append.1 hp with hp | hp
    · have := W.ends p hp; omega
    · rw [List.mem_singleton] at hp; subst hp; omega
end
/-- the sum of the counts -/
def totalF : List Piece → Int
  | [] => 0
  | p :: l => p.ct + totalF l
theorem total_append (a b : List Piece) : totalF (a ++ b) = totalF a + totalF b := by
  induction a with
  | nil => simp [totalF]
  | cons p a ih => simp only [List.cons_append, totalF, ih]; omega
theorem total_take {l : List Piece} {i : Nat} (h : i < l.length) : totalF (l.take (i + 1)) = totalF (l.take i) + l[i].ct := by
  rw [List.take_succ_eq_append_getElem h, total_append]
  simp [totalF]
theorem total_bd {M : Int} (hM : 0 ≤ M) : ∀ {l : List Piece}, (∀ p ∈ l, 0 ≤ p.ct ∧ p.ct ≤ M) → 0 ≤ totalF l ∧ totalF l ≤ l.length * M
  | [], _ => by simp [totalF]
  | p :: l, h => by
    have ih := total_bd hM (l := l) (fun q hq => h q (List.mem_cons_of_mem _ hq))
    have h0 := h p (by simp)
    simp only [totalF, List.length_cons]
    have e : ((l.length + 1 : Nat) : Int) * M = l.length * M + M := by rw [Int.natCast_add, Int.add_mul]; simp
    rw [e]
    omega
theorem total_pos : ∀ {l : List Piece}, (∀ p ∈ l, 1 ≤ p.ct) → 0 ≤ totalF l
  | [], _ => Int.le_refl _
  | p :: l, h => by
    have h0 := h p (by simp)
    have := total_pos (l := l) (fun q hq => h q (List.mem_cons_of_mem _ hq))
    simp only [totalF]
    omega
/-- taking the first ones -/
def takeF : List Piece → Int → List Piece
  | [], _ => []
  | p :: l, m => if m = 0 then [] else ⟨p.fr, min p.ct m⟩ :: takeF l (m - min p.ct m)
theorem take_all : ∀ {l : List Piece} {m : Int}, (∀ p ∈ l, 1 ≤ p.ct) → totalF l ≤ m → takeF l m = l
  | [], _, _, _ => rfl
  | p :: l, m, h, hm => by
    have h0 := h p (by simp)
    simp only [totalF] at hm
    have hl : 0 ≤ totalF l := total_pos (fun q hq => h q (List.mem_cons_of_mem _ hq))
    rw [takeF, if_neg (by omega), show min p.ct m = p.ct by omega, take_all (fun q hq => h q (List.mem_cons_of_mem _ hq)) (by omega)]
theorem take_more : ∀ {l r : List Piece} {m : Int}, (∀ p ∈ l, 1 ≤ p.ct) → 0 ≤ m → m ≤ totalF l → takeF (l ++ r) m = takeF l m
  | [], r, m, _, h0, hm => by
    simp only [totalF] at hm
    have : m = 0 := by omega
    subst this
    cases r <;> rfl
  | p :: l, r, m, h, h0, hm => by
    simp only [totalF] at hm
    have h1 := h p (by simp)
    rw [List.cons_append, takeF, takeF]
    by_cases hz : m = 0
    · rw [if_pos hz, if_pos hz]
    · rw [if_neg hz, if_neg hz, take_more (fun q hq => h q (List.mem_cons_of_mem _ hq)) (by omega) ?_]
      by_cases hh : p.ct ≤ m
      · rw [show min p.ct m = p.ct by omega]; omega
      · rw [show min p.ct m = m by omega]
        have : 0 ≤ totalF l := total_pos (fun q hq => h q (List.mem_cons_of_mem _ hq))
        omega
end room
end Go.Proofs.Ytagjfplipknlkaa
