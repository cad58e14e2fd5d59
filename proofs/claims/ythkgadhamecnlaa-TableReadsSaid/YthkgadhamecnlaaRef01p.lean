
/-
  The document's own numbers as eight bytes.
-/
import Derived.Test.YthkgadhamecnlaaPut
set_option linter.unusedVariables false
set_option linter.unusedSimpArgs false
set_option maxRecDepth 20000
namespace Go.Proofs.Ythkgadhamecnlaa
open Go
theorem byteOf_mod (n i : Nat) : u8 (byteOf n i) = u8 (UInt8.ofNat (((n / 256 ^ i : Nat) : Int) % 256).toNat) := by
  have h1 : (((n / 256 ^ i : Nat) : Int) % 256).toNat = n / 256 ^ i % 256 := by omega
  rw [h1]
  have h2 : byteOf n i = UInt8.ofNat (n / 256 ^ i % 256) := by
    apply UInt8.toNat_inj.1
    rw [byteOf, Nat.pow_mul]
    simp
  rw [h2]
theorem div_succ (n i : Nat) : n / 256 ^ i / 256 = n / 256 ^ (i + 1) := by rw [Nat.div_div_eq_div_mul, Nat.pow_succ]
/-- the last bytes of eight, as one number -/
def hiTo (l : Bs) : Nat → Nat
  | 0 => 0
  | j + 1 => hiTo l j * 256 + (l.getD (7 - j) 0).toNat
theorem hiTo_lt (l : Bs) : ∀ j, hiTo l j < 256 ^ j
  | 0 => by simp [hiTo]
  | j + 1 => by
    have h := hiTo_lt l j
    have hb := (l.getD (7 - j) 0).toNat_lt
    rw [hiTo, Nat.pow_succ]
    omega
theorem hiTo_bd (l : Bs) {j : Nat} (h : j ≤ 8) : hiTo l j < 18446744073709551616 := Nat.lt_of_lt_of_le (hiTo_lt l j) (Nat.pow_le_pow_right (n := 256) (by decide) h)
theorem hiTo_8 (l : Bs) : hiTo l 8 = getTo l 8 := by
  simp only [hiTo, getTo, Nat.sub_zero, Nat.reduceSub, Nat.reduceMul, Nat.reducePow]
  omega
theorem RefPut_fn {w : World} {n : Nat} (hn : n < 18446744073709551616) : Fn Try.prog 44 [.int .u64 n] w (fun r w2 => tBytes.rep (fun k => w.heap.size ≤ k) w2 r (put8 n) ∧ Ext (fun _ => False) w w2) := by
  refine Fn.enter (fun w => Try.call44 _ w) Try.func44 rfl ?_
  refine .seq (.region ?_)
  refine .p rfl rfl (.as rfl) ?_
  refine .nil (.code (.seq (.keep [(0, _)] ⟨rfl, trivial⟩ (.region ?_))))
  refine .p rfl rfl (.as rfl) ?_
  refine .nil (.code (.seq (.seq (.region ?_))))
  refine .p rfl rfl (.as rfl) ?_
  refine .nil (.code (.block ?_))
  have h0 : (Value.int .u64 (n : Int)) = .int .u64 ((n / 256 ^ 0 : Nat) : Int) := by simp
  rw [h0]
  refine .loop (S := Nat × World × Value × Nat) (fun s => [(4, i64 s.1), (3, s.2.2.1), (0, .int .u64 (n / 256 ^ s.1 : Nat))]) (fun s => s.2.1) (fun s => s.1 ≤ 8 ∧ Own tByte (fun _ => False) 5 s.2.1 s.2.2.1 ((List.range s.1).map (byteOf n)) s.2.2.2 ∧ Ext (fun _ => False) w s.2.1 ∧ w.heap.size ≤ s.2.2.2) (fun s => 8 - s.1) (0, w, .slice none 0 0, w.heap.size) ⟨rfl, rfl, rfl, trivial⟩ rfl ⟨Nat.zero_le _, Own.nil, .refl _, Nat.le_refl _⟩ ?_
  rintro ⟨i, wi, v, b⟩ J ⟨hi, hO, hX, hb⟩ again
  simp only at hi hO hX hb
  change G _ [(4, i64 i), (3, v), (0, .int .u64 (n / 256 ^ i : Nat))] _ _ wi
  refine .seq (.seq (.region ?_))
  refine .p rfl rfl (.mv rfl) ?_
  refine .p rfl rfl (.lt rfl rfl) ?_
  refine .nil (.code (.keep [(6, _), (4, _), (3, _), (0, _)] ⟨rfl, rfl, rfl, rfl, trivial⟩ ?_))
  refine .condD rfl (fun c6 => ?_) (fun c6 => ?_)
  · have hq : ((n / 256 ^ i : Nat) : Int) ≤ 18446744073709551615 := by have h1 := Nat.le_trans (Nat.div_le_self n (256 ^ i)) (show n ≤ 18446744073709551615 by omega); exact Int.ofNat_le.2 h1
    refine .skip (.code (.seq (.block (.seq (.keep [(4, _), (3, _), (0, _)] ⟨rfl, rfl, rfl, trivial⟩ (.region ?_))))))
    refine .p rfl rfl (.mv rfl) ?_
    refine .p rfl rfl (.mv rfl) ?_
    refine .p rfl rfl (.rem rfl rfl ⟨Int.natCast_nonneg _, by decide⟩) ?_
    refine .p rfl rfl (.convB rfl rfl rfl (Int.emod_nonneg _ (by decide))) ?_
    refine .v rfl rfl (.lits rfl rfl (fun _ => by kernel_rfl)) ?_
    rintro _ w13 ⟨rfl, N13⟩
    refine .v rfl rfl (.append (t := tByte) (eb := 1) rfl (hO.ext0 N13.ext) rfl (.inr (New.holds (us := [u8 (UInt8.ofNat (((n / 256 ^ i : Nat) : Int) % 256).toNat)]) (xs := [byteOf n i]) N13 (by rw [← byteOf_mod]; exact each_u8 [byteOf n i]) rfl)) rfl rfl rfl rfl rfl rfl rfl (by simp; omega) (by simp [Lim]; omega) (fun _ h _ => h.elim)) ?_
    rintro v14 w14 ⟨b14, O14, X14, hb14⟩
    have O14 := O14.mono (Q' := fun _ => False) (fun _ h _ => h.1)
    have hX14 := (hX.trans N13.ext).then X14 (by rintro k rfl _; omega)
    refine .p rfl rfl (.as rfl) ?_
    refine .nil (.code (.keep [(3, _), (4, _), (0, _)] ⟨rfl, rfl, rfl, trivial⟩ (.region ?_)))
    refine .p rfl rfl (.mv rfl) ?_
    refine .p rfl rfl (.cast (.quoU rfl rfl ⟨Int.natCast_nonneg _, hq, by decide⟩) (by show Value.int .u64 _ = Value.int .u64 ((n / 256 ^ (i + 1) : Nat) : Int); rw [← div_succ]; rfl)) ?_
    refine .p rfl rfl (.as rfl) ?_
    refine .nil (.blk (.code (.keep [(0, _), (3, _), (4, _)] ⟨rfl, rfl, rfl, trivial⟩ (.region ?_))))
    refine .p rfl rfl (.mv rfl) ?_
    refine .p rfl rfl (.add rfl rfl (by omega)) ?_
    refine .p rfl rfl (.as rfl) ?_
    refine .nil ?_
    refine (again (i + 1, w14, v14, b14) ⟨by show i + 1 ≤ 8; omega, ?_, hX14, ?_⟩ (by show 8 - (i + 1) < 8 - i; omega)).of ⟨rfl, rfl, rfl, trivial⟩
    · show Own tByte _ _ w14 v14 _ b14
      rw [List.range_succ, List.map_append]
      exact O14
    · show w.heap.size ≤ b14
      have := (hX.trans N13.ext).size
      omega
  · refine .exit rfl (.code (.seq (.keep [(3, _)] ⟨rfl, trivial⟩ (.region ?_))))
    refine .p rfl rfl (.mv rfl) ?_
    refine .p rfl rfl (.as rfl) ?_
    refine .nil (.code ?_)
    refine .ret _ rfl ?_
    obtain rfl : i = 8 := by omega
    exact ⟨hO.rep hb (fun _ h _ => h.elim), hX⟩
end Go.Proofs.Ythkgadhamecnlaa
