
/-
  What a sorted row comes to, in the terms of these walks.
-/
import Derived.Shelf.GgSortFunc.InsertionK
import Derived.Test.YtagjfplipknlkaaRoomDef
set_option linter.unusedVariables false
set_option linter.unusedSimpArgs false
namespace Go.Proofs.Ytagjfplipknlkaa
open Go Go.Sort
namespace room
instance : Inhabited Piece := ⟨⟨0, 0⟩⟩
def encP (p : Piece) : List Value := [i64 p.fr, i64 p.ct]
def flatP (xs : List Piece) : List Value := xs.flatMap encP
theorem flatP_length (xs : List Piece) : (flatP xs).length = xs.length * 2 := by
  induction xs with
  | nil => rfl
  | cons p xs ih => simp only [flatP, List.flatMap_cons, List.length_append, List.length_cons] at *; rw [ih]; simp [encP]; omega
theorem flatP_get (xs : List Piece) : ∀ (j : Nat), j < xs.length * 2 → (flatP xs)[j]? = some ((encP (xs.toArray[j / 2]!))[j % 2]!) := by
  induction xs with
  | nil => intro j hj; simp at hj
  | cons p xs ih =>
    intro j hj
    rcases Nat.lt_or_ge j 2 with h | h
    · match j, h with
      | 0, _ => rfl
      | 1, _ => rfl
    · obtain ⟨k, rfl⟩ : ∃ k, j = k + 2 := ⟨j - 2, by omega⟩
      have e1 : (flatP (p :: xs))[k + 2]? = (flatP xs)[k]? := by simp [flatP, encP]
      have e2 : (k + 2) / 2 = k / 2 + 1 := by omega
      have e3 : (k + 2) % 2 = k % 2 := by omega
      rw [e1, e2, e3, ih k (by simp at hj; omega)]
      congr 2
      simp
theorem flatK_get (xs : List Piece) (j : Nat) (hj : j < xs.length * 2) : (flatK encP 2 xs.toArray)[j]! = (encP (xs.toArray[j / 2]!))[j % 2]! := by
  unfold flatK
  have hs : j < xs.toArray.size * 2 := by simpa using hj
  simp [hs, hj]
theorem flatK_size (xs : List Piece) : (flatK encP 2 xs.toArray).size = xs.length * 2 := by simp [flatK]
/-- a row of the call's own is held -/
theorem holdsK_of {w : World} {b : Nat} {E : TypeId} {xs : List Piece} {sp : List Value} (hB : Blk w b E (flatP xs ++ sp)) : HoldsK encP 2 w b 0 xs.toArray := by
  intro j hj
  rw [flatK_size] at hj
  have hl := flatP_length xs
  refine ⟨?_, ?_⟩
  · rw [Nat.zero_add, hB.cell, List.getElem?_append_left (by omega), flatP_get xs j hj, flatK_get xs j hj]
    rfl
  · rw [Nat.zero_add]
    exact hB.thawed j (by rw [List.length_append]; omega)
theorem putCells_list (xs ys : List Piece) (sp : List Value) (hl : ys.length = xs.length) : Sort.putCells id 0 (flatK encP 2 ys.toArray) (flatP xs ++ sp).toArray = (flatP ys ++ sp).toArray := by
  have h1 := flatP_length xs
  have h2 := flatP_length ys
  apply Array.ext_getElem?
  intro k
  unfold Sort.putCells
  rw [Array.getElem?_mapIdx]
  simp only [List.getElem?_toArray]
  rcases Nat.lt_or_ge k (ys.length * 2) with h | h
  · rw [List.getElem?_append_left (by omega), List.getElem?_append_left (by omega), flatP_get ys k h, List.getElem?_eq_getElem (by omega)]
    simp only [Option.map_some]
    rw [if_pos ⟨Nat.zero_le _, by rw [flatK_size]; omega⟩]
    simp only [id, Nat.sub_zero]
    rw [flatK_get ys k h]
  · rw [List.getElem?_append_right (by omega), List.getElem?_append_right (by omega), h1, h2, hl]
    cases hsp : sp[k - xs.length * 2]? with
    | none => rfl
    | some x =>
      simp only [Option.map_some]
      rw [if_neg (by rw [flatK_size]; omega)]
/-- the world behind a sort -/
theorem sorted_world {w w' : World} {b n : Nat} {E : TypeId} {xs ys : List Piece} {sp : List Value} {os : Array Obj} (hs : Same w w') (hB : Blk w b E (flatP xs ++ sp)) (hl : ys.length = xs.length) :
    Blk (sortWorldK encP 2 w' b 0 n ys.toArray os) b E (flatP ys ++ sp) ∧ Ext (· = b) w (sortWorldK encP 2 w' b 0 n ys.toArray os) := by
  have hlt := hB.lt
  have hB' : Blk w' b E (flatP xs ++ sp) := hB.keep (by rw [hs.heap])
  obtain ⟨fr, hh, hfz⟩ := hB'.heap
  have hlen : (flatP ys ++ sp).length = (flatP xs ++ sp).length := by rw [List.length_append, List.length_append, flatP_length, flatP_length, hl]
  have hsz : w'.heap.size = w.heap.size := by rw [hs.heap]
  have hheap : ∀ k, k < w.heap.size → (sortWorldK encP 2 w' b 0 n ys.toArray os).heap[k]? = if k = b then some (.cells (flatP ys ++ sp).toArray E fr) else w'.heap[k]? := by
    intro k hk
    show ((w'.heap.modify b _) ++ os)[k]? = _
    rw [Array.getElem?_append_left (by simp; omega), Array.getElem?_modify]
    by_cases hkb : b = k
    · subst hkb
      rw [if_pos rfl, if_pos rfl, hh]
      simp only [Option.map_some, onCells]
      rw [putCells_list xs ys sp hl]
    · rw [if_neg hkb, if_neg (fun h => hkb h.symm)]
  refine ⟨?_, ?_⟩
  · have h0 := hheap b hlt
    rw [if_pos rfl] at h0
    obtain ⟨fr', h1 | h1⟩ := hB'
    · obtain ⟨h1, h2⟩ := h1
      rw [hh] at h1
      injection h1 with h1
      injection h1 with _ _ h1
      subst h1
      exact ⟨fr, .inl ⟨h0, by rw [hlen]; exact h2⟩⟩
    · obtain ⟨h1, h2⟩ := h1
      rw [hh] at h1
      injection h1 with h1
      injection h1 with _ _ h1
      subst h1
      exact ⟨fr, .inr ⟨h0, h2⟩⟩
  · refine ⟨hs.os, hs.tape, hs.output, ?_, fun k hk hn => ?_⟩
    · show w.heap.size ≤ ((w'.heap.modify b _) ++ os).size
      simp; omega
    · rw [hheap k hk, if_neg hn, hs.heap]
/-- elements, laid side by side -/
theorem flat_P {P : Nat → Prop} {w : World} {us : List Value} {xs : List Piece} (h : Each (tPiece.rep P w) us xs) : flat us = flatP xs := by
  induction h with
  | nil => rfl
  | cons h1 _ ih =>
    obtain ⟨rfl, _⟩ := tPiece.val h1
    rw [flat_cons, ih]
    rfl
theorem each_P {P : Nat → Prop} {w : World} : ∀ {xs : List Piece}, (∀ p ∈ xs, (-9223372036854775808 ≤ p.fr ∧ p.fr ≤ 9223372036854775807) ∧ -9223372036854775808 ≤ p.ct ∧ p.ct ≤ 9223372036854775807) → Each (tPiece.rep P w) (xs.map (fun p => .agg #[i64 p.fr, i64 p.ct])) xs
  | [], _ => .nil
  | p :: xs, h => .cons (tPiece.mk (h p (by simp)).1 (h p (by simp)).2) (each_P (fun q hq => h q (List.mem_cons_of_mem _ hq)))
theorem each_range {P : Nat → Prop} {w : World} {us : List Value} {xs : List Piece} (h : Each (tPiece.rep P w) us xs) : ∀ p ∈ xs, (-9223372036854775808 ≤ p.fr ∧ p.fr ≤ 9223372036854775807) ∧ -9223372036854775808 ≤ p.ct ∧ p.ct ≤ 9223372036854775807 := by
  induction h with
  | nil => intro p hp; cases hp
  | cons h1 _ ih =>
    intro p hp
    rcases List.mem_cons.1 hp with rfl | hp
    · exact (tPiece.val h1).2
    · exact ih p hp
end room
end Go.Proofs.Ytagjfplipknlkaa
