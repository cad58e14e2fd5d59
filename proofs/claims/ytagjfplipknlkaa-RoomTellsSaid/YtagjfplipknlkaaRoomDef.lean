
/-
  Layer 3, data: pieces; which may be; what sorting comes to.
-/
import Derived.Test.YtagjfplipknlkaaLo
import Derived.Test.YtagjfplipknlkaaStruct
set_option linter.unusedVariables false
set_option linter.unusedSimpArgs false
namespace Go.Proofs.Ytagjfplipknlkaa
open Go
namespace room
structure Piece where
  fr : Int
  ct : Int
deriving DecidableEq
def tPiece : Ty Piece := (tInt.pair tInt).map (fun p => (p.fr, p.ct))
theorem tPiece.val {P : Nat → Prop} {w : World} {v : Value} {p : Piece} (h : tPiece.rep P w v p) : v = .agg #[i64 p.fr, i64 p.ct] ∧ (-9223372036854775808 ≤ p.fr ∧ p.fr ≤ 9223372036854775807) ∧ -9223372036854775808 ≤ p.ct ∧ p.ct ≤ 9223372036854775807 := by
  obtain ⟨u, u', rfl, ⟨rfl, h1⟩, rfl, h2⟩ := h
  exact ⟨rfl, h1, h2⟩
theorem tPiece.mk {P : Nat → Prop} {w : World} {p : Piece} (h1 : -9223372036854775808 ≤ p.fr ∧ p.fr ≤ 9223372036854775807) (h2 : -9223372036854775808 ≤ p.ct ∧ p.ct ≤ 9223372036854775807) : tPiece.rep P w (.agg #[i64 p.fr, i64 p.ct]) p :=
  ⟨i64 p.fr, i64 p.ct, rfl, ⟨rfl, h1⟩, rfl, h2⟩
def okP (count : Int) (p : Piece) : Prop := 1 ≤ p.ct ∧ 0 ≤ p.fr ∧ p.fr < count ∧ p.ct ≤ count - p.fr
instance (count : Int) (p : Piece) : Decidable (okP count p) := by unfold okP; infer_instance
def apart (p q : Piece) : Prop := p.fr + p.ct ≤ q.fr ∨ q.fr + q.ct ≤ p.fr
instance (p q : Piece) : Decidable (apart p q) := by unfold apart; infer_instance
def mayP (count : Int) (l : List Piece) : Prop := (∀ p ∈ l, okP count p) ∧ l.Pairwise apart
instance (count : Int) (l : List Piece) : Decidable (mayP count l) := by unfold mayP; infer_instance
def checkR (count : Int) (l : List Piece) : Int :=
  if count < 0 ∨ 4096 < count then 2 else if 4096 < l.length then 4 else if mayP count l then 0 else 8
/-- pieces that rise and do not meet -/
def Rises (s : List Piece) : Prop := s.Pairwise (fun p q => p.fr + p.ct ≤ q.fr)
theorem apart_symm {p q : Piece} (h : apart p q) : apart q p := h.symm
theorem check_ok {count : Int} {l : List Piece} (h : checkR count l = 0) : 0 ≤ count ∧ count ≤ 4096 ∧ l.length ≤ 4096 ∧ mayP count l := by
  unfold checkR at h
  split at h
  · cases h
  · split at h
    · cases h
    · split at h
      · rename_i h1 h2 h3; exact ⟨by omega, by omega, by omega, h3⟩
      · cases h
/-- sorted by their beginnings, and each one's end is not behind the next one's beginning: they rise, and may be -/
theorem rises_of : ∀ {s : List Piece}, (∀ p ∈ s, 1 ≤ p.ct) → (∀ i (h : i + 1 < s.length), s[i].fr + s[i].ct ≤ s[i + 1].fr) → Rises s
  | [], _, _ => .nil
  | [p], _, _ => List.pairwise_singleton _ _
  | p :: q :: s, hc, h => by
    have ih := rises_of (s := q :: s) (fun x hx => hc x (List.mem_cons_of_mem _ hx)) (fun i hi => by have := h (i + 1) (by simpa using hi); simpa using this)
    have h0 := h 0 (by simp)
    simp at h0
    refine .cons (fun x hx => ?_) ih
    rcases List.mem_cons.1 hx with rfl | hx
    · exact h0
    · have := (List.pairwise_cons.1 ih).1 x hx
      have h2 := hc q (by simp)
      omega
theorem may_of_rises {count : Int} {l s : List Piece} (hp : s.Perm l) (hok : ∀ p ∈ l, okP count p) (h : Rises s) : mayP count l := by
  refine ⟨hok, ?_⟩
  exact (hp.pairwise_iff (R := apart) (fun h => apart_symm h)).1 (h.imp (fun hpq => .inl hpq))
/-- pieces that may be, sorted by their beginnings, rise -/
theorem rises_of_may {count : Int} {l s : List Piece} (hp : s.Perm l) (hm : mayP count l) (hs : s.Pairwise (fun p q => p.fr ≤ q.fr)) : Rises s := by
  have ha := (hp.pairwise_iff (R := apart) (fun h => apart_symm h)).2 hm.2
  have hok : ∀ p ∈ s, okP count p := fun p h => hm.1 p (hp.mem_iff.1 h)
  have := List.Pairwise.and_mem.1 (hs.and ha)
  refine this.imp (fun {p q} h => ?_)
  obtain ⟨h1, h2, h3, h4⟩ := h
  have := hok q h2
  unfold okP at this
  rcases h4 with h4 | h4
  · exact h4
  · omega
end room
end Go.Proofs.Ytagjfplipknlkaa
