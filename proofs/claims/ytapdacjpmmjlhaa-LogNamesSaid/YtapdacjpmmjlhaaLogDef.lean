
/-
  Layer 5, what the walks come to: plain functions on lists.
-/
import Derived.Test.YtapdacjpmmjlhaaBits
set_option linter.unusedVariables false
set_option linter.unusedSimpArgs false
namespace Go.Proofs.Ytapdacjpmmjlhaa
open Go
namespace log
def put4 (n : UInt32) : Bs := (put8 n.toNat).take 4
def get4 (l : Bs) : UInt32 := UInt32.ofNat (getTo (l.take 4 ++ [0, 0, 0, 0]) 8)
def needs (n : Nat) : Nat := max 1 ((n + 111) / 112)
def pieceOf (r : Bs) (i : Nat) : Bs := (r.drop (112 * i)).take 112
def sectorOf (epoch salt prev : UInt32) (r : Bs) (n i : Nat) : Bs :=
  put4 epoch ++ put4 salt ++ put4 prev ++ [UInt8.ofNat i, UInt8.ofNat n, UInt8.ofNat (pieceOf r i).length, 0] ++ pieceOf r i ++ List.replicate (112 - (pieceOf r i).length) 0
def frameTo (epoch salt prev : UInt32) (r : Bs) (n k : Nat) : Bs := (List.range k).flatMap (sectorOf epoch salt prev r n)
def frameL (epoch salt prev : UInt32) (r : Bs) : Bs := frameTo epoch salt prev r (needs r.length) (needs r.length)
def frameF (epoch salt prev : UInt32) (r : Bs) : Bs × Int :=
  if epoch = 0 ∨ salt = 0 then ([], 2) else if 4096 < r.length then ([], 3) else (frameL epoch salt prev r, 0)
theorem put4_length (n : UInt32) : (put4 n).length = 4 := by simp [put4, put8_length]
theorem piece_le (r : Bs) (i : Nat) : (pieceOf r i).length ≤ 112 := by simp [pieceOf]; omega
theorem sectorOf_length (epoch salt prev : UInt32) (r : Bs) (n i : Nat) : (sectorOf epoch salt prev r n i).length = 128 := by
  have := piece_le r i
  simp [sectorOf, put4_length]
  omega
theorem frameTo_length (epoch salt prev : UInt32) (r : Bs) (n : Nat) : ∀ k, (frameTo epoch salt prev r n k).length = k * 128
  | 0 => rfl
  | k + 1 => by
    have h := frameTo_length epoch salt prev r n k
    unfold frameTo at *
    rw [List.range_succ, List.flatMap_append, List.length_append, h]
    simp [sectorOf_length]
    omega
theorem frameTo_succ (epoch salt prev : UInt32) (r : Bs) (n k : Nat) : frameTo epoch salt prev r n (k + 1) = frameTo epoch salt prev r n k ++ sectorOf epoch salt prev r n k := by
  unfold frameTo
  rw [List.range_succ, List.flatMap_append]
  simp
theorem needs_bd {n : Nat} (h : n ≤ 4096) : 1 ≤ needs n ∧ needs n ≤ 37 := by unfold needs; omega
theorem needs_fit {n i : Nat} (h : i < needs n) : 112 * i ≤ n := by unfold needs at h; omega
/-- bytes laid over others -/
def patch (b : Bs) (o : Nat) (l : Bs) : Bs := b.take o ++ l ++ b.drop (o + l.length)
theorem patch_length (b : Bs) (o : Nat) (l : Bs) (h : o + l.length ≤ b.length) : (patch b o l).length = b.length := by
  simp [patch]; omega
theorem patch_map (b l : Bs) (o dn : Nat) (h : l.length ≤ dn) : (b.map u8).take o ++ (l.take (min l.length dn)).map u8 ++ (b.map u8).drop (o + min l.length dn) = (patch b o l).map u8 := by
  rw [Nat.min_eq_left h, List.take_of_length_le (Nat.le_refl _)]
  simp [patch]
theorem patch_mapS (b l : Bs) (o : Nat) : (b.map u8).take o ++ l.map u8 ++ (b.map u8).drop (o + l.length) = (patch b o l).map u8 := by simp [patch]
theorem set_map (b : Bs) (i : Nat) (x : UInt8) : (b.map u8).set i (u8 x) = (b.set i x).map u8 := by rw [List.map_set]
theorem four {l : Bs} (h : l.length = 4) : ∃ a b c d, l = [a, b, c, d] := by
  match l, h with
  | [a, b, c, d], _ => exact ⟨a, b, c, d, rfl⟩
theorem three_length (a b c : UInt32) : (patch (patch (patch (List.replicate 128 0) 0 (put4 a)) 4 (put4 b)) 8 (put4 c)).length = 128 := by
  have h1 : (patch (List.replicate 128 0) 0 (put4 a)).length = 128 := by rw [patch_length] <;> simp [put4_length]
  have h2 : (patch (patch (List.replicate 128 0) 0 (put4 a)) 4 (put4 b)).length = 128 := by rw [patch_length _ _ _ (by rw [h1, put4_length]; omega), h1]
  rw [patch_length _ _ _ (by rw [h2, put4_length]; omega), h2]
theorem sector_made (p1 p2 p3 piece : Bs) (x y z : UInt8) (h1 : p1.length = 4) (h2 : p2.length = 4) (h3 : p3.length = 4) (hp : piece.length ≤ 112) :
    patch ((((patch (patch (patch (List.replicate 128 0) 0 p1) 4 p2) 8 p3).set 12 x).set 13 y).set 14 z) 16 piece = p1 ++ p2 ++ p3 ++ [x, y, z, 0] ++ piece ++ List.replicate (112 - piece.length) 0 := by
  obtain ⟨a1, b1, c1, d1, rfl⟩ := four h1
  obtain ⟨a2, b2, c2, d2, rfl⟩ := four h2
  obtain ⟨a3, b3, c3, d3, rfl⟩ := four h3
  have e : (((patch (patch (patch (List.replicate 128 0) 0 [a1, b1, c1, d1]) 4 [a2, b2, c2, d2]) 8 [a3, b3, c3, d3]).set 12 x).set 13 y).set 14 z = [a1, b1, c1, d1, a2, b2, c2, d2, a3, b3, c3, d3, x, y, z, 0] ++ List.replicate 112 0 := rfl
  have h : ∀ q : Bs, q.length = 16 → patch (q ++ List.replicate 112 0) 16 piece = q ++ piece ++ List.replicate (112 - piece.length) 0 := fun q hq => by
    unfold patch
    rw [List.take_left' hq, ← List.drop_drop, List.drop_left' hq, List.drop_replicate]
  rw [e, h _ rfl]
  rfl
end log
end Go.Proofs.Ytapdacjpmmjlhaa
