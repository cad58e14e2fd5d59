
/-
  Layer 7, what the walks come to: plain functions on lists.
-/
import Derived.Test.YthkgadhamecnlaaSum
set_option linter.unusedVariables false
set_option maxRecDepth 20000
namespace Go.Proofs.Ythkgadhamecnlaa
open Go

theorem fill_set {α : Type} (f : Nat → α) (z : α) (n i : Nat) (h : i < n) : ((List.range i).map f ++ List.replicate (n - i) z).set i (f i) = (List.range (i + 1)).map f ++ List.replicate (n - (i + 1)) z := by
  rw [List.set_append_right _ _ (by simp)]
  simp only [List.length_map, List.length_range, Nat.sub_self, List.range_succ, List.map_append, List.map_cons, List.map_nil, List.append_assoc]
  congr 1
  rw [show n - i = (n - (i + 1)) + 1 by omega, List.replicate_succ]
  simp

namespace sieve
def markN (h g : UInt32) (m : Nat) (i : Nat) : Int := (((h + UInt32.ofNat i * g) % UInt32.ofNat m).toNat : Int)
def hOf (key : Bs) : UInt32 := crc key
def gOf (key : Bs) : UInt32 := crc (key ++ [1]) ||| 1
def marksL (key : Bs) (m : Nat) : List Int := (List.range 4).map (markN (hOf key) (gOf key) m)
def marksF (key : Bs) (many : Int) : List Int × Int :=
  if 256 < key.length then ([], 3) else if many < 1 ∨ 65536 < many then ([], 2) else (marksL key many.toNat, 0)
def setBit (b : Bs) (n : Nat) : Bs := b.set (n / 8) (b.getD (n / 8) 0 ||| 1 <<< UInt8.ofNat (n % 8))
def setAll (b : Bs) (l : List Int) : Bs := l.foldl (fun b n => setBit b n.toNat) b
def makeL (keys : List Bs) (m : Nat) : Bs := keys.foldl (fun b k => setAll b (marksL k m)) (List.replicate (m / 8) 0)
def makeF (keys : List Bs) (many : Int) : Bs × Int :=
  if 4096 < keys.length then ([], 4) else if keys.any (fun k => decide (256 < k.length)) then ([], 3)
  else if many < 8 ∨ 65536 < many ∨ ¬ many % 8 = 0 then ([], 2) else (makeL keys many.toNat, 0)
def bitAt (b : Bs) (n : Nat) : Bool := (b.getD (n / 8) 0 >>> UInt8.ofNat (n % 8)) &&& 1 == 1
def hasL (b : Bs) (l : List Int) : Bool := l.all (fun n => bitAt b n.toNat)
def hasF (b : Bs) (key : Bs) : Bool × Int :=
  if b.length < 1 ∨ 8192 < b.length then (false, 2) else if 256 < key.length then (false, 3) else (hasL b (marksL key (8 * b.length)), 0)

theorem mark_bd (h g : UInt32) (m i : Nat) (h1 : 1 ≤ m) (h2 : m ≤ 65536) : 0 ≤ markN h g m i ∧ markN h g m i < m := by
  unfold markN
  have h3 : (UInt32.ofNat m).toNat = m := by simp; omega
  rw [UInt32.toNat_mod, h3]
  have := Nat.mod_lt (h + UInt32.ofNat i * g).toNat (show 0 < m by omega)
  omega
theorem marksL_length (key : Bs) (m : Nat) : (marksL key m).length = 4 := by simp [marksL]
theorem marksL_bd {key : Bs} {m : Nat} (h1 : 1 ≤ m) (h2 : m ≤ 65536) : ∀ n ∈ marksL key m, 0 ≤ n ∧ n < m := by
  intro n hn
  obtain ⟨i, _, rfl⟩ := List.mem_map.1 hn
  exact mark_bd _ _ _ _ h1 h2
theorem setBit_length (b : Bs) (n : Nat) : (setBit b n).length = b.length := by simp [setBit]
theorem setAll_length (l : List Int) : ∀ b : Bs, (setAll b l).length = b.length := by
  induction l with
  | nil => intro b; rfl
  | cons n l ih => intro b; exact (ih _).trans (setBit_length _ _)
def makeTo (keys : List Bs) (m n : Nat) : Bs := (keys.take n).foldl (fun b k => setAll b (marksL k m)) (List.replicate (m / 8) 0)
theorem fold_length (m : Nat) : ∀ (ks : List Bs) (b : Bs), (ks.foldl (fun b k => setAll b (marksL k m)) b).length = b.length := by
  intro ks
  induction ks with
  | nil => intro b; rfl
  | cons x ks ih => intro b; exact (ih _).trans (setAll_length _ _)
theorem makeTo_length (keys : List Bs) (m n : Nat) : (makeTo keys m n).length = m / 8 := by
  unfold makeTo
  rw [fold_length]
  simp
theorem makeTo_succ (keys : List Bs) (m n : Nat) (h : n < keys.length) : makeTo keys m (n + 1) = setAll (makeTo keys m n) (marksL keys[n] m) := by
  unfold makeTo
  rw [List.take_succ_eq_append_getElem h, List.foldl_append]
  rfl
theorem makeTo_all (keys : List Bs) (m : Nat) : makeTo keys m keys.length = makeL keys m := by
  unfold makeTo
  rw [List.take_length]
  rfl
theorem makeTo_zero (keys : List Bs) (m : Nat) : (makeTo keys m 0).map u8 = List.replicate (m / 8) (Value.int .u8 0) := by
  simp [makeTo, u8]
def leftTo (b : Bs) (l : List Int) : Nat → UInt8
  | 0 => 15
  | k + 1 => if bitAt b (l.getD k 0).toNat then leftTo b l k &&& ~~~(1 <<< UInt8.ofNat k) else leftTo b l k
theorem leftTo_all (b : Bs) (l : List Int) (h : l.length = 4) : decide (((leftTo b l 4).toNat : Int) = 0) = hasL b l := by
  match l, h with
  | [p, q, r, s], _ =>
    simp only [leftTo, hasL, List.getD_cons_zero, List.getD_cons_succ, List.all_cons, List.all_nil, Bool.and_true]
    generalize bitAt b p.toNat = x0
    generalize bitAt b q.toNat = x1
    generalize bitAt b r.toNat = x2
    generalize bitAt b s.toNat = x3
    cases x0 <;> cases x1 <;> cases x2 <;> cases x3 <;> decide
theorem bit_of (x : UInt8) : ((x.toNat : Int) = 1) ↔ (x == 1) = true := by
  rw [beq_iff_eq]
  constructor
  · intro h
    apply UInt8.toNat_inj.1
    show x.toNat = 1
    omega
  · rintro rfl; rfl
end sieve
end Go.Proofs.Ythkgadhamecnlaa
