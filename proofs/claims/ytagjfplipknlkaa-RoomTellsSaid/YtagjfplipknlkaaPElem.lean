
/-
  Pieces in a row of the call's own: one of them, read and written.
-/
import Derived.Test.YtagjfplipknlkaaRWorld
set_option linter.unusedVariables false
set_option linter.unusedSimpArgs false
namespace Go.Proofs.Ytagjfplipknlkaa
open Go
namespace room
theorem flatP_cons (p : Piece) (xs : List Piece) : flatP (p :: xs) = i64 p.fr :: i64 p.ct :: flatP xs := rfl
theorem flatP_fr : ∀ (xs : List Piece) (i : Nat) (h : i < xs.length), (flatP xs)[2 * i]? = some (i64 xs[i].fr)
  | p :: xs, 0, _ => rfl
  | p :: xs, i + 1, h => by
    rw [flatP_cons, show 2 * (i + 1) = 2 * i + 1 + 1 by omega, List.getElem?_cons_succ, List.getElem?_cons_succ, flatP_fr xs i (by simpa using h)]; rfl
theorem flatP_ct : ∀ (xs : List Piece) (i : Nat) (h : i < xs.length), (flatP xs)[2 * i + 1]? = some (i64 xs[i].ct)
  | p :: xs, 0, _ => rfl
  | p :: xs, i + 1, h => by
    rw [flatP_cons, show 2 * (i + 1) + 1 = 2 * i + 1 + 1 + 1 by omega, List.getElem?_cons_succ, List.getElem?_cons_succ, flatP_ct xs i (by simpa using h)]; rfl
theorem flatP_set : ∀ (xs : List Piece) (i : Nat) (q : Piece), flatP (xs.set i q) = ((flatP xs).set (2 * i) (i64 q.fr)).set (2 * i + 1) (i64 q.ct)
  | [], _, _ => by simp [flatP]
  | p :: xs, 0, q => rfl
  | p :: xs, i + 1, q => by
    rw [List.set_cons_succ, flatP_cons, flatP_cons, flatP_set xs i q, show 2 * (i + 1) + 1 = 2 * i + 1 + 1 + 1 by omega, show 2 * (i + 1) = 2 * i + 1 + 1 by omega]
    rfl
def bdP (p : Piece) : Prop := (-9223372036854775808 ≤ p.fr ∧ p.fr ≤ 9223372036854775807) ∧ -9223372036854775808 ≤ p.ct ∧ p.ct ≤ 9223372036854775807
theorem OwnO_elem {Q B : Nat → Prop} {E : TypeId} {w : World} {v : Value} {xs : List Piece} (h : OwnO tPiece Q E w v xs B) {i : Nat} (hi : i < xs.length) :
    ∃ b cap cs, v = .slice (some ⟨b, 0, none⟩) xs.length cap ∧ B b ∧ b < w.heap.size ∧ Blk w b E cs ∧ cs[2 * i]? = some (i64 xs[i].fr) ∧ cs[2 * i + 1]? = some (i64 xs[i].ct) ∧ 2 * i + 1 < cs.length ∧ bdP xs[i] ∧
      ∀ w2 p, bdP p → Blk w2 b E ((cs.set (2 * i) (i64 p.fr)).set (2 * i + 1) (i64 p.ct)) → OwnO tPiece Q E w2 v (xs.set i p) B := by
  rcases h with ⟨rfl, _⟩ | ⟨b, hb, hlt, hl, ⟨rfl, _⟩ | ⟨cap, us, sp, rfl, hc, he, hB, hn⟩⟩
  · exact absurd hi (Nat.not_lt_zero _)
  · exact absurd hi (Nat.not_lt_zero _)
  · have hfl := flat_P he
    have hbd := each_range he
    rw [hfl] at hB hn
    have hlen := flatP_length xs
    have h1 := flatP_fr xs i hi
    have h2 := flatP_ct xs i hi
    refine ⟨b, cap, _, rfl, hb, hlt, hB, by rw [List.getElem?_append_left (by omega), h1], by rw [List.getElem?_append_left (by omega), h2], by rw [List.length_append]; omega, hbd _ (List.getElem_mem hi), fun w2 p hp hB2 => ?_⟩
    rw [List.set_append_left _ _ (by omega), List.set_append_left _ _ (by rw [List.length_set]; omega), ← flatP_set] at hB2
    have he2 : Each (tPiece.rep Q w2) ((xs.set i p).map (fun p => .agg #[i64 p.fr, i64 p.ct])) (xs.set i p) := each_P (fun q hq => by
      rcases List.mem_or_eq_of_mem_set hq with hq | rfl
      · exact hbd q hq
      · exact hp)
    refine .inr ⟨b, hb, hB2.lt, by rw [List.length_set]; exact hl, .inr ⟨cap, _, sp, by rw [List.length_set], by rw [List.length_set]; exact hc, he2, by rw [flat_P he2]; exact hB2, ?_⟩⟩
    rw [flat_P he2, ← hn, List.length_append, List.length_append, flatP_length, flatP_length, List.length_set]
theorem set_fr {cs : List Value} {i : Nat} {x : Value} (h : cs[2 * i]? = some x) : cs.set (2 * i) x = cs := by
  have hlt : 2 * i < cs.length := (List.getElem?_eq_some_iff.1 h).1
  have : cs[2 * i] = x := (List.getElem?_eq_some_iff.1 h).2
  rw [← this, List.set_getElem_self]
/-- the count of one is written -/
theorem OwnO_count {Q B : Nat → Prop} {E : TypeId} {w : World} {v : Value} {xs : List Piece} (h : OwnO tPiece Q E w v xs B) {i : Nat} (hi : i < xs.length) :
    ∃ b cap cs, v = .slice (some ⟨b, 0, none⟩) xs.length cap ∧ B b ∧ b < w.heap.size ∧ Blk w b E cs ∧ cs[2 * i]? = some (i64 xs[i].fr) ∧ cs[2 * i + 1]? = some (i64 xs[i].ct) ∧ 2 * i + 1 < cs.length ∧ bdP xs[i] ∧
      ∀ w2 (ct : Int), -9223372036854775808 ≤ ct ∧ ct ≤ 9223372036854775807 → Blk w2 b E (cs.set (2 * i + 1) (i64 ct)) → OwnO tPiece Q E w2 v (xs.set i ⟨xs[i].fr, ct⟩) B := by
  obtain ⟨b, cap, cs, h1, h2, h3, h4, h5, h6, h7, h8, h9⟩ := OwnO_elem h hi
  exact ⟨b, cap, cs, h1, h2, h3, h4, h5, h6, h7, h8, fun w2 ct hct hB => h9 w2 ⟨_, ct⟩ ⟨h8.1, hct⟩ (by rw [set_fr h5]; exact hB)⟩
/-- the last of them -/
theorem OwnO_last {Q B : Nat → Prop} {E : TypeId} {w : World} {v : Value} {o : List Piece} {p : Piece} (h : OwnO tPiece Q E w v (o ++ [p]) B) :
    ∃ b cap cs, v = .slice (some ⟨b, 0, none⟩) (o.length + 1) cap ∧ B b ∧ b < w.heap.size ∧ Blk w b E cs ∧ cs[2 * o.length]? = some (i64 p.fr) ∧ cs[2 * o.length + 1]? = some (i64 p.ct) ∧ 2 * o.length + 1 < cs.length ∧ bdP p ∧
      ∀ w2 (ct : Int), -9223372036854775808 ≤ ct ∧ ct ≤ 9223372036854775807 → Blk w2 b E (cs.set (2 * o.length + 1) (i64 ct)) → OwnO tPiece Q E w2 v (o ++ [⟨p.fr, ct⟩]) B := by
  obtain ⟨b, cap, cs, h1, h2, h3, h4, h5, h6, h7, h8, h9⟩ := OwnO_count h (i := o.length) (by simp)
  simp only [List.getElem_concat_length] at h5 h6 h8 h9
  refine ⟨b, cap, cs, by simpa using h1, h2, h3, h4, h5, h6, h7, h8, fun w2 ct hct hB => ?_⟩
  have := h9 w2 ct hct hB
  simpa using this
end room
end Go.Proofs.Ytagjfplipknlkaa
