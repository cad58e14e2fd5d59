
/-
  bits.Put: numbers as eight bytes.
-/
import Derived.Test.YthkgadhamecnlaaMore
import Derived.Test.YthkgadhamecnlaaProg
set_option linter.unusedVariables false
set_option linter.unusedSimpArgs false
set_option maxRecDepth 20000
namespace Go.Proofs.Ythkgadhamecnlaa
open Go

def byteOf (n i : Nat) : UInt8 := UInt8.ofNat (n / 2 ^ (8 * i))
def put8 (n : Nat) : Bs := (List.range 8).map (byteOf n)
def getTo (l : Bs) : Nat → Nat
  | 0 => 0
  | i + 1 => getTo l i + (l.getD i 0).toNat * 2 ^ (8 * i)
theorem put8_length (n : Nat) : (put8 n).length = 8 := by simp [put8]
theorem getTo_lt (l : Bs) : ∀ i, getTo l i < 2 ^ (8 * i)
  | 0 => by simp [getTo]
  | i + 1 => by
    have h := getTo_lt l i
    have hb := (l.getD i 0).toNat_lt
    have e : 2 ^ (8 * (i + 1)) = 256 * 2 ^ (8 * i) := by rw [show 8 * (i + 1) = 8 + 8 * i by omega, Nat.pow_add]
    rw [getTo, e]
    have h2 : (l.getD i 0).toNat * 2 ^ (8 * i) ≤ 255 * 2 ^ (8 * i) := Nat.mul_le_mul_right _ (by omega)
    omega
theorem getTo_or (l : Bs) (i : Nat) : getTo l i ||| (l.getD i 0).toNat * 2 ^ (8 * i) = getTo l (i + 1) := by
  have h := Nat.two_pow_add_eq_or_of_lt (getTo_lt l i) (l.getD i 0).toNat
  rw [Nat.or_comm, Nat.mul_comm, ← h, getTo, Nat.mul_comm, Nat.add_comm]
theorem getTo_bd (l : Bs) {i : Nat} (hi : i ≤ 8) : getTo l i < 18446744073709551616 :=
  Nat.lt_of_lt_of_le (getTo_lt l i) (Nat.pow_le_pow_right (n := 2) (by decide) (show 8 * i ≤ 64 by omega))
theorem getTo_term (l : Bs) {i : Nat} (hi : i < 8) : (l.getD i 0).toNat * 2 ^ (8 * i) < 18446744073709551616 := by
  have h1 := getTo_bd l (i := i + 1) (by omega)
  rw [getTo] at h1
  omega
theorem byteOf_eq (n : Nat) (i : Nat) : u8 (byteOf n i) = u8 (UInt8.ofNat ((n : Int) / 2 ^ (8 * i)).toNat) := by
  have : ((n : Int) / 2 ^ (8 * i)) = ((n / 2 ^ (8 * i) : Nat) : Int) := by simp
  rw [this]
  rfl
theorem fill_set8 {α : Type} (f : Nat → α) (z : α) (n i : Nat) (h : i < n) : ((List.range i).map f ++ List.replicate (n - i) z).set i (f i) = (List.range (i + 1)).map f ++ List.replicate (n - (i + 1)) z := by
  rw [List.set_append_right _ _ (by simp)]
  simp only [List.length_map, List.length_range, Nat.sub_self, List.range_succ, List.map_append, List.map_cons, List.map_nil, List.append_assoc]
  congr 1
  rw [show n - i = (n - (i + 1)) + 1 by omega, List.replicate_succ]
  simp
theorem Put_fn {w : World} {n : Nat} (hn : n < 18446744073709551616) : Fn Try.prog 36 [.int .u64 n] w (fun r w2 => tBytes.rep (fun k => w.heap.size ≤ k) w2 r (put8 n) ∧ Ext (fun _ => False) w w2) := by
  refine Fn.enter (fun w => Try.call36 _ w) Try.func36 rfl ?_
  refine .seq (.region ?_)
  refine .p rfl rfl (.as rfl) ?_
  refine .nil (.code (.seq (.keep [(0, _)] ⟨rfl, trivial⟩ (.region ?_))))
  refine .v rfl rfl (.alloc rfl rfl) ?_
  rintro _ w3 ⟨rfl, N3⟩
  refine .nil (.code (.seq (.seq (.region ?_))))
  refine .p rfl rfl (.mv rfl) ?_
  refine .nil (.code (.block ?_))
  refine .loop (S := Nat × World) (fun s => [(6, i64 s.1), (3, .pointer (some ⟨w.heap.size, 0, none⟩)), (0, .int .u64 n)]) (fun s => s.2) (fun s => s.1 ≤ 8 ∧ Blk s.2 w.heap.size 106 ((List.range s.1).map (fun i => u8 (byteOf n i)) ++ List.replicate (8 - s.1) (u8 0)) ∧ Ext (· = w.heap.size) w3 s.2) (fun s => 8 - s.1) (0, w3) ⟨rfl, rfl, rfl, trivial⟩ rfl ⟨Nat.zero_le _, N3.blk, .refl _⟩ ?_
  rintro ⟨i, wi⟩ J ⟨hi, hB, hX⟩ again
  simp only at hi hB hX
  change G _ [(6, i64 i), (3, .pointer (some ⟨w.heap.size, 0, none⟩)), (0, .int .u64 n)] _ _ wi
  refine .seq (.region ?_)
  refine .p rfl rfl (.lt rfl rfl) ?_
  refine .nil (.code (.seq ?_))
  refine .condD rfl (fun c7 => ?_) (fun c7 => ?_)
  · refine .skip (.code (.seq (.block (.seq (.keep [(6, _), (3, _), (0, _)] ⟨rfl, rfl, rfl, trivial⟩ (.region ?_))))))
    refine .p rfl rfl (.mv rfl) ?_
    refine .p rfl rfl (.as rfl) ?_
    refine .nil (.code (.keep [(4, _), (6, _), (3, _), (0, _)] ⟨rfl, rfl, rfl, rfl, trivial⟩ (.region ?_)))
    refine .p rfl rfl (.mv rfl) ?_
    refine .p rfl rfl (.mv rfl) ?_
    refine .p rfl rfl (.mv rfl) ?_
    refine .p rfl rfl (.mul rfl rfl (by omega)) ?_
    refine .p rfl rfl (.shrN (8 * i) rfl rfl (by show 8 * i ≤ 64; omega)) ?_
    refine .p rfl rfl (.convB rfl rfl rfl (Int.ediv_nonneg (by omega) (Int.pow_nonneg (by omega)))) ?_
    refine .p rfl rfl (.indexAddrA0 rfl rfl rfl rfl (by omega)) ?_
    refine .s rfl (.store rfl rfl rfl rfl rfl hB (by simp; omega)) ?_
    intro w16 P16
    have hB' := P16.blk
    have f := fill_set8 (fun i => u8 (byteOf n i)) (u8 0) 8 i (by omega)
    refine .nil (.blk (.code (.keep [(6, _), (3, _), (0, _)] ⟨rfl, rfl, rfl, trivial⟩ (.region ?_))))
    refine .p rfl rfl (.add rfl rfl (by omega)) ?_
    refine .p rfl rfl (.mv rfl) ?_
    refine .nil ?_
    refine (again (i + 1, w16) ⟨by show i + 1 ≤ 8; omega, ?_, hX.trans P16.ext⟩ (by show 8 - (i + 1) < 8 - i; omega)).of ⟨rfl, rfl, rfl, trivial⟩
    show Blk w16 _ _ _
    rw [← f, byteOf_eq]
    exact hB'
  · obtain rfl : i = 8 := by omega
    have hB8 : Blk wi w.heap.size 106 ((put8 n).map u8) := by
      have : (List.range 8).map (fun i => u8 (byteOf n i)) ++ List.replicate (8 - 8) (u8 0) = (put8 n).map u8 := by simp [put8]
      rw [← this]
      exact hB
    refine .exit rfl (.code (.seq (.keep [(3, _)] ⟨rfl, trivial⟩ (.region ?_))))
    refine .p rfl rfl (.loadA (n := 8) rfl rfl rfl rfl rfl hB8.cells) ?_
    refine .v rfl rfl (.alloc rfl rfl) ?_
    rintro _ w5 ⟨rfl, N5⟩
    refine .s rfl (.storeAll (n := 8) rfl rfl rfl rfl (by simp [Value.oneCell']) N5.blk rfl) ?_
    intro w18 P18
    refine .nil (.code (.seq (.keep [(5, _)] ⟨rfl, trivial⟩ (.region ?_))))
    refine .p rfl rfl (.cutA rfl rfl rfl) ?_
    refine .p rfl rfl (.as rfl) ?_
    refine .nil (.code ?_)
    refine .ret _ rfl ?_
    have hX18 := (N3.ext.then hX (by rintro k rfl _; omega)).trans N5.ext
    have hz := hX.size
    have hz3 := N3.size
    exact ⟨Sl.mkBytesB P18.blk (by rw [List.take_of_length_le (by simp)]) (by show w.heap.size ≤ wi.heap.size; omega) (by simp [put8]) (by simp [put8, Lim]) (by simp [put8]), hX18.then P18.ext (by rintro k rfl _; show w.heap.size ≤ wi.heap.size; omega)⟩
end Go.Proofs.Ythkgadhamecnlaa
