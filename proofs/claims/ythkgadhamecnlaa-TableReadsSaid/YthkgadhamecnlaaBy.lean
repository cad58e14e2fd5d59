
/-
  Bytes turned; a slice of bytes of a call's own, opened. No program in sight.
-/
import Derived.Test.YthkgadhamecnlaaLo
set_option linter.unusedVariables false
set_option maxRecDepth 20000
set_option linter.unusedSimpArgs false
namespace Go.Proofs.Ythkgadhamecnlaa
open Go
theorem intBits_xor8 (a b : UInt8) : Op.intBits .xor .u8 (a.toNat : Int) (b.toNat : Int) = Sem.pure (u8 (a ^^^ b)) := by
  show Sem.pure (Value.int .u8 (IntKind.u8.wrap ((BitVec.ofInt 8 (a.toNat : Int) ^^^ BitVec.ofInt 8 (b.toNat : Int)).toNat))) = _
  have h := (a ^^^ b).toNat_lt
  rw [BitVec.ofInt_natCast, BitVec.ofInt_natCast, IntKind.wrap_u8]
  have h2 : (BitVec.ofNat 8 a.toNat ^^^ BitVec.ofNat 8 b.toNat).toNat = (a ^^^ b).toNat := by simp
  rw [h2]
  congr 2
  omega
theorem Ev.xor8 {P : Program} {e : Env} {w : World} {x y : Operand} {T T' : TypeId} {a b : UInt8} (hx : look e x = some (u8 a)) (hy : look e y = some (u8 b)) : Ev P e (.binOp .xor T x y T') w (u8 (a ^^^ b)) :=
  fun w' _ ρ hρ o ho => by simp [execOp, ho, hρ _ _ hx, hρ _ _ hy, eqGuard, binOp, intBits_xor8]
theorem Own.opened {Q : Nat → Prop} {E : TypeId} {w : World} {v : Value} {l : Bs} {b : Nat} (h : Own tByte Q E w v l b) (hne : l ≠ []) : ∃ cap sp, v = .slice (some ⟨b, 0, none⟩) l.length cap ∧ l.length ≤ cap ∧ Blk w b E (l.map u8 ++ sp) ∧ l.length + sp.length = cap := by
  obtain ⟨hl, ⟨rfl, rfl⟩ | ⟨cap, us, sp, rfl, hc, he, hB, hn⟩⟩ := h
  · exact absurd rfl hne
  · have hu : us = l.map u8 := Each.eq_map u8 he
    subst hu
    rw [flat_u8] at hB hn
    exact ⟨cap, sp, rfl, hc, hB, by rw [List.length_append, List.length_map] at hn; have : tByte.size = 1 := rfl; rw [this] at hn; omega⟩
end Go.Proofs.Ythkgadhamecnlaa
