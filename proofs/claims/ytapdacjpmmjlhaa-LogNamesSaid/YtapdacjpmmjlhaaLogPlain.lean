
/-
  Layer 5, plain: what is framed is read again; records in sectors, and what stands there when some sectors are new and some are not.
-/
import Derived.Test.YtapdacjpmmjlhaaActs
set_option linter.unusedVariables false
set_option linter.unusedSimpArgs false
namespace Go.Proofs.Ytapdacjpmmjlhaa
open Go disk
namespace log
theorem get4_bytes (a b c e : UInt8) (l : Bs) : get4 (a :: b :: c :: e :: l) = UInt32.ofNat (a.toNat + b.toNat * 256 + c.toNat * 65536 + e.toNat * 16777216) := by
  have h : getTo [a, b, c, e, 0, 0, 0, 0] 8 = a.toNat + b.toNat * 256 + c.toNat * 65536 + e.toNat * 16777216 := by
    show ((((((((0 + a.toNat * 2 ^ (8 * 0)) + b.toNat * 2 ^ (8 * 1)) + c.toNat * 2 ^ (8 * 2)) + e.toNat * 2 ^ (8 * 3)) + 0 * 2 ^ (8 * 4)) + 0 * 2 ^ (8 * 5)) + 0 * 2 ^ (8 * 6)) + 0 * 2 ^ (8 * 7)) = _
    omega
  rw [← h]
  rfl
theorem get4_put4 (x : UInt32) (l : Bs) : get4 (put4 x ++ l) = x := by
  have h : put4 x = [byteOf x.toNat 0, byteOf x.toNat 1, byteOf x.toNat 2, byteOf x.toNat 3] := rfl
  rw [h]
  show get4 (_ :: _ :: _ :: _ :: l) = x
  rw [get4_bytes]
  apply UInt32.toNat_inj.1
  have hx := x.toNat_lt
  have e : ∀ i, (byteOf x.toNat i).toNat = x.toNat / 2 ^ (8 * i) % 256 := fun i => by unfold byteOf; simp [UInt8.toNat_ofNat']
  rw [e, e, e, e]
  simp only [UInt32.toNat_ofNat']
  omega
section
variable {E s p : UInt32} {r : Bs} {n i : Nat}
theorem sector_epoch : get4 (sectorOf E s p r n i) = E := by unfold sectorOf; simp only [List.append_assoc]; exact get4_put4 _ _
theorem sector_salt : get4 ((sectorOf E s p r n i).drop 4) = s := by
  unfold sectorOf; simp only [List.append_assoc]
  rw [List.drop_left' (put4_length E)]
  exact get4_put4 _ _
theorem sector_prev : get4 ((sectorOf E s p r n i).drop 8) = p := by
  unfold sectorOf; simp only [List.append_assoc]
  rw [show 8 = 4 + 4 from rfl, ← List.drop_drop, List.drop_left' (put4_length E), List.drop_left' (put4_length s)]
  exact get4_put4 _ _
theorem sector_tail : (sectorOf E s p r n i).drop 12 = [UInt8.ofNat i, UInt8.ofNat n, UInt8.ofNat (pieceOf r i).length, 0] ++ pieceOf r i ++ List.replicate (112 - (pieceOf r i).length) 0 := by
  unfold sectorOf; simp only [List.append_assoc]
  rw [show 12 = 4 + (4 + 4) from rfl, ← List.drop_drop, ← List.drop_drop, List.drop_left' (put4_length E), List.drop_left' (put4_length s), List.drop_left' (put4_length p)]
theorem getD_drop (l : Bs) (k j : Nat) : l.getD (k + j) 0 = (l.drop k).getD j 0 := by simp [List.getD_eq_getElem?_getD, List.getElem?_drop]
theorem sector_12 : (sectorOf E s p r n i).getD 12 0 = UInt8.ofNat i := by rw [getD_drop _ 12 0, sector_tail]; rfl
theorem sector_13 : (sectorOf E s p r n i).getD 13 0 = UInt8.ofNat n := by rw [getD_drop _ 12 1, sector_tail]; rfl
theorem sector_14 : (sectorOf E s p r n i).getD 14 0 = UInt8.ofNat (pieceOf r i).length := by rw [getD_drop _ 12 2, sector_tail]; rfl
theorem sector_16 : (sectorOf E s p r n i).drop 16 = pieceOf r i ++ List.replicate (112 - (pieceOf r i).length) 0 := by
  rw [show 16 = 12 + 4 from rfl, ← List.drop_drop, sector_tail]; rfl
theorem sector_cut : ((sectorOf E s p r n i).drop 16).take (cutOf (sectorOf E s p r n i)) = pieceOf r i := by
  have hp := piece_le r i
  have h : cutOf (sectorOf E s p r n i) = (pieceOf r i).length := by
    unfold cutOf
    rw [sector_14, UInt8.toNat_ofNat']
    omega
  rw [h, sector_16, List.take_left' rfl]
end
theorem pieces (r : Bs) : ∀ n, (List.range n).flatMap (pieceOf r) = r.take (112 * n)
  | 0 => by simp
  | n + 1 => by
    rw [List.range_succ, List.flatMap_append, pieces r n]
    simp only [List.flatMap_cons, List.flatMap_nil, List.append_nil, pieceOf]
    rw [Nat.mul_add, Nat.mul_one, List.take_add]
theorem needs_all {r : Bs} : r.length ≤ 112 * needs r.length := by unfold needs; omega
theorem needs_pos (n : Nat) : 1 ≤ needs n := by unfold needs; omega
/-- sectors, one behind the other -/
def secs (f : Nat → Bs) (n : Nat) : Bs := (List.range n).flatMap f
theorem secs_succ (f : Nat → Bs) (n : Nat) : secs f (n + 1) = secs f n ++ f n := by unfold secs; rw [List.range_succ, List.flatMap_append]; simp
theorem secs_length {f : Nat → Bs} : ∀ {n : Nat}, (∀ i, i < n → (f i).length = 128) → (secs f n).length = n * 128
  | 0, _ => rfl
  | n + 1, h => by rw [secs_succ, List.length_append, secs_length (fun i hi => h i (by omega)), h n (by omega)]; omega
theorem secs_congr {f g : Nat → Bs} {n : Nat} (h : ∀ i, i < n → f i = g i) : secs f n = secs g n := by
  induction n with
  | zero => rfl
  | succ n ih => rw [secs_succ, secs_succ, ih (fun i hi => h i (by omega)), h n (by omega)]
theorem secs_add (f : Nat → Bs) (a m : Nat) : secs f (a + m) = secs f a ++ secs (fun i => f (a + i)) m := by
  induction m with
  | zero => simp [secs]
  | succ m ih => rw [← Nat.add_assoc, secs_succ, secs_succ, ih, List.append_assoc]
theorem secs_drop {f : Nat → Bs} {a m : Nat} (h : ∀ i, i < a → (f i).length = 128) : (secs f (a + m)).drop (a * 128) = secs (fun i => f (a + i)) m := by
  rw [secs_add, List.drop_left' (secs_length h)]
theorem secs_take {f : Nat → Bs} {a m : Nat} (h : ∀ i, i < a → (f i).length = 128) : (secs f (a + m)).take (a * 128) = secs f a := by
  rw [secs_add, List.take_left' (secs_length h)]
theorem secAt_secs {f : Nat → Bs} {n i : Nat} (h : ∀ i, i < n → (f i).length = 128) (hi : i < n) : secAt (secs f n) i = f i := by
  obtain ⟨m, rfl⟩ : ∃ m, n = i + (m + 1) := ⟨n - i - 1, by omega⟩
  unfold secAt
  rw [Nat.mul_comm, secs_drop (fun j hj => h j (by omega)), show m + 1 = 1 + m by omega, secs_add]
  have h0 := h i (by omega)
  rw [List.take_append_of_le_length (by simp [secs]; omega)]
  have e : secs (fun j => f (i + j)) 1 = f i := by simp [secs]
  rw [e, List.take_of_length_le (by omega)]
theorem frame_secs (E s p : UInt32) (r : Bs) (n k : Nat) : frameTo E s p r n k = secs (sectorOf E s p r n) k := rfl
/-- what is framed is read again -/
theorem open_frame {E s p : UInt32} {r rest : Bs} (hE : ¬ E = 0) (hs : ¬ s = 0) (hr : r.length ≤ 4096) : openF E p (frameL E s p r ++ rest) = (r, s, needs r.length, 0) := by
  have hb := needs_bd hr
  have hl := frameL_length E s p r
  have h0 : (frameL E s p r ++ rest).take 128 = sectorOf E s p r (needs r.length) 0 := by
    have h := secAt_frame E s p r (needs r.length) (needs r.length) 0 (by omega)
    unfold secAt at h
    rw [Nat.mul_zero, List.drop_zero] at h
    rw [List.take_append_of_le_length (by omega)]
    exact h
  have h13 : ((frameL E s p r ++ rest).getD 13 0).toNat = needs r.length := by
    have e : (frameL E s p r ++ rest).getD 13 0 = ((frameL E s p r ++ rest).take 128).getD 13 0 := by simp [List.getD_eq_getElem?_getD, List.getElem?_take]
    rw [e, h0, sector_13, UInt8.toNat_ofNat']
    omega
  have h4 : get4 ((frameL E s p r ++ rest).drop 4) = s := by
    have e : get4 ((frameL E s p r ++ rest).drop 4) = get4 (((frameL E s p r ++ rest).take 128).drop 4) := by
      unfold get4
      rw [List.drop_take, List.take_take]
      rfl
    rw [e, h0, sector_salt]
  have ht : textTo (frameL E s p r ++ rest) (needs r.length) = r := by
    have e : textTo (frameL E s p r ++ rest) (needs r.length) = (List.range (needs r.length)).flatMap (pieceOf r) := by
      unfold textTo
      rw [List.flatMap_def, List.flatMap_def]
      congr 1
      refine List.map_congr_left (fun i hi => ?_)
      have hi := List.mem_range.1 hi
      have e : secAt (frameL E s p r ++ rest) i = sectorOf E s p r (needs r.length) i := by
        rw [← secAt_frame E s p r (needs r.length) (needs r.length) i hi]
        unfold secAt
        rw [List.drop_append_of_le_length (by omega), List.take_append_of_le_length (by rw [List.length_drop]; omega)]
        rfl
      rw [e]
      exact sector_cut
    rw [e, pieces, List.take_of_length_le needs_all]
  unfold openF
  rw [if_neg hE, if_neg (by rw [List.length_append]; omega), if_neg (by rw [h13, List.length_append]; omega), h13, h4, ht, frame_good hE hs hr, if_pos ⟨rfl, by rw [← hl, List.take_left' rfl]⟩]
/-- what is read was framed -/
theorem open_some {E p : UInt32} {b : Bs} (h : ¬ (openF E p b).2.2.1 = 0) : ∃ r s, openF E p b = (r, s, needs r.length, 0) ∧ ¬ E = 0 ∧ ¬ s = 0 ∧ r.length ≤ 4096 ∧ needs r.length * 128 ≤ b.length ∧ b.take (needs r.length * 128) = frameL E s p r := by
  unfold openF at h ⊢
  split at h
  · exact absurd rfl h
  · split at h
    · exact absurd rfl h
    · split at h
      · exact absurd rfl h
      · split at h
        · rename_i hE hL hN hF
          rw [if_neg hE, if_neg hL, if_neg hN, if_pos hF]
          generalize textTo b (b.getD 13 0).toNat = r at *
          generalize get4 (b.drop 4) = s at *
          obtain ⟨h1, h2⟩ := hF
          have hs : ¬ s = 0 := fun e => by unfold frameF at h1; rw [if_pos (.inr e)] at h1; cases h1
          have hr : r.length ≤ 4096 := by
            rcases Nat.lt_or_ge 4096 r.length with hh | hh
            · unfold frameF at h1; rw [if_neg (fun hh2 => hh2.elim hE hs), if_pos hh] at h1; cases h1
            · exact hh
          rw [frame_good hE hs hr] at h2
          have hl := congrArg List.length h2
          simp only at hl
          rw [frameL_length, List.length_take, Nat.min_eq_left (by omega)] at hl
          have hn : needs r.length = (b.getD 13 0).toNat := by omega
          exact ⟨r, s, by rw [hn], hE, hs, hr, by omega, by rw [hn]; exact h2.symm⟩
        · exact absurd rfl h
end log
end Go.Proofs.Ytapdacjpmmjlhaa
