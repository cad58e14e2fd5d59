
/-
  bits.Small, bits.Text: numbers in one to ten bytes; texts behind their length.
-/
import Derived.Test.YthkgadhamecnlaaLo
import Derived.Test.YthkgadhamecnlaaProg
set_option linter.unusedVariables false
set_option linter.unusedSimpArgs false
set_option maxRecDepth 20000
namespace Go.Proofs.Ythkgadhamecnlaa
open Go
def smallK : Nat → Nat → Bs
  | 0, _ => []
  | f + 1, n => if n ≤ 127 then [UInt8.ofNat n] else UInt8.ofNat (n % 128 + 128) :: smallK f (n / 128)
def smallF (n : Nat) : Bs := smallK 10 n
def textF (s : Bs) : Bs := smallF s.length ++ s
theorem smallK_length : ∀ f n, (smallK f n).length ≤ f
  | 0, _ => by simp [smallK]
  | f + 1, n => by
    unfold smallK
    split
    · simp
    · have := smallK_length f (n / 128)
      simp
      omega
theorem smallF_length (n : Nat) : (smallF n).length ≤ 10 := smallK_length 10 n
theorem or128 : ∀ n, n < 256 → UInt8.ofNat n ||| 128 = UInt8.ofNat (n % 128 + 128) := by decide +kernel
theorem or128' (n : Nat) : UInt8.ofNat n ||| 128 = UInt8.ofNat (n % 128 + 128) := by
  have h := or128 (n % 256) (Nat.mod_lt _ (by decide))
  rw [show n % 256 % 128 = n % 128 by omega] at h
  rw [← h]
  congr 1
  rw [← UInt8.toNat_inj]
  simp
theorem one_holds {w w2 : World} {c : UInt8} (N : New w w2 5 [u8 c]) : (∃ a cap, Value.slice (some ⟨w.heap.size, 0, none⟩) 1 1 = .slice a 0 cap ∧ [c] = []) ∨ Holds tByte (fun _ => False) w2 (.slice (some ⟨w.heap.size, 0, none⟩) 1 1) [c] :=
  .inr (New.holds (us := [u8 c]) N (.cons rfl .nil) rfl)
theorem Small_fn {w : World} {n : Nat} (hn : n < 18446744073709551616) : Fn Try.prog 54 [.int .u64 n] w (fun r w2 => Gr w2 r (smallF n) w.heap.size ∧ Ext (fun _ => False) w w2) := by
  refine Fn.enter (fun w => Try.call54 _ w) Try.func54 rfl ?_
  refine .seq (.region ?_)
  refine .p rfl rfl (.as rfl) ?_
  refine .nil (.code (.seq (.keep [(0, _)] ⟨rfl, trivial⟩ (.region ?_))))
  refine .p rfl rfl (.as rfl) ?_
  refine .nil (.code (.seq (.block ?_)))
  refine .loop (S := Nat × Nat × Bs × Value × World) (fun s => [(0, .int .u64 (s.2.1 : Nat)), (3, s.2.2.2.1)]) (fun s => s.2.2.2.2) (fun s => 1 ≤ s.1 ∧ s.1 ≤ 10 ∧ s.2.1 < 18446744073709551616 ∧ s.2.1 < 128 ^ s.1 ∧ smallF n = s.2.2.1 ++ smallK s.1 s.2.1 ∧ s.2.2.1.length ≤ 10 - s.1 ∧ Gr s.2.2.2.2 s.2.2.2.1 s.2.2.1 w.heap.size ∧ Ext (fun _ => False) w s.2.2.2.2) (fun s => s.1) (10, n, [], .slice none 0 0, w) ⟨rfl, rfl, trivial⟩ rfl ⟨(by decide : 1 ≤ 10), (by decide : 10 ≤ 10), hn, Nat.lt_of_lt_of_le hn (by decide : 18446744073709551616 ≤ 128 ^ 10), rfl, (by decide : 0 ≤ 10 - 10), OwnO.nil, .refl _⟩ ?_
  rintro ⟨f, m, acc, v, wi⟩ J ⟨h1, h10, hm64, hm, hs, hl, hG, hX⟩ again
  simp only at h1 h10 hm64 hm hs hl hG hX
  have zi : w.heap.size ≤ wi.heap.size := hX.size
  change G _ [(0, .int .u64 (m : Nat)), (3, v)] _ _ wi
  refine .seq (.seq (.region ?_))
  refine .p rfl rfl (.mv rfl) ?_
  refine .p rfl rfl (.gt rfl rfl) ?_
  refine .nil (.code (.keep [(5, _), (0, _), (3, _)] ⟨rfl, rfl, rfl, trivial⟩ ?_))
  refine .condD rfl (fun c5 => ?_) (fun c5 => ?_)
  · obtain ⟨f, rfl⟩ : ∃ f', f = f' + 1 := ⟨f - 1, by omega⟩
    have hle := smallK_length (f + 1) m
    have hsp : smallK (f + 1) m = UInt8.ofNat (m % 128 + 128) :: smallK f (m / 128) := by rw [smallK, if_neg (by omega)]
    refine .skip (.code (.seq (.block (.keep [(0, _), (3, _)] ⟨rfl, rfl, trivial⟩ (.region ?_)))))
    refine .p rfl rfl (.mv rfl) ?_
    refine .p rfl rfl (.mv rfl) ?_
    refine .p rfl rfl (.cast (.convB rfl rfl rfl (by omega)) (show _ = u8 (UInt8.ofNat m) by rw [Int.toNat_natCast])) ?_
    refine .p rfl rfl (.cast (.or8 (b := 128) rfl rfl) (show _ = u8 (UInt8.ofNat (m % 128 + 128)) by rw [or128'])) ?_
    refine .v rfl rfl (.lits rfl rfl (fun _ => by kernel_rfl)) ?_
    rintro _ w12 ⟨rfl, N12⟩
    have z12 : w12.heap.size = wi.heap.size + 1 := N12.size
    refine .v rfl rfl (.appendLo (t := tByte) (eb := 1) rfl (hG.ext0 N12.ext) (fun k hk => by have hk : w12.heap.size ≤ k := hk; show w.heap.size ≤ k; omega) rfl (one_holds N12) rfl rfl rfl rfl rfl rfl rfl (by simp; omega) (by simp [Lim]; omega) (fun _ h _ => h.elim)) ?_
    rintro r13 w13 ⟨G13, Y13⟩
    have z13 : w12.heap.size ≤ w13.heap.size := Y13.size
    refine .p rfl rfl (.as rfl) ?_
    refine .nil (.blk (.code (.keep [(3, _), (0, _)] ⟨rfl, rfl, trivial⟩ (.region ?_))))
    refine .p rfl rfl (.mv rfl) ?_
    refine .p rfl rfl (.cast (.shrN 7 rfl rfl (by decide)) (show _ = Value.int .u64 ((m / 128 : Nat) : Int) by simp)) ?_
    refine .p rfl rfl (.as rfl) ?_
    refine .nil ?_
    have hf1 : 1 ≤ f := by
      rcases Nat.eq_zero_or_pos f with rfl | h
      · have : m < 128 := by simpa using hm
        omega
      · exact h
    exact (again (f, m / 128, acc ++ [UInt8.ofNat (m % 128 + 128)], r13, w13) ⟨hf1, by show f ≤ 10; omega, by show m / 128 < _; omega, by show m / 128 < 128 ^ f; rw [Nat.pow_succ] at hm; omega, by show smallF n = (acc ++ [_]) ++ smallK f (m / 128); rw [hs, hsp, List.append_assoc]; rfl, by show (acc ++ [_]).length ≤ 10 - f; simp; omega, G13, (hX.trans N12.ext).then Y13 (fun k hk _ => hk)⟩ (by show f < f + 1; omega)).of ⟨rfl, rfl, trivial⟩
  · obtain ⟨f, rfl⟩ : ∃ f', f = f' + 1 := ⟨f - 1, by omega⟩
    have hsp : smallK (f + 1) m = [UInt8.ofNat m] := by rw [smallK, if_pos (by omega)]
    refine .exit rfl (.code (.seq (.keep [(0, _), (3, _)] ⟨rfl, rfl, trivial⟩ (.region ?_))))
    refine .p rfl rfl (.mv rfl) ?_
    refine .p rfl rfl (.mv rfl) ?_
    refine .p rfl rfl (.cast (.convB rfl rfl rfl (by omega)) (show _ = u8 (UInt8.ofNat m) by rw [Int.toNat_natCast])) ?_
    refine .v rfl rfl (.lits rfl rfl (fun _ => by kernel_rfl)) ?_
    rintro _ w17 ⟨rfl, N17⟩
    have z17 : w17.heap.size = wi.heap.size + 1 := N17.size
    refine .v rfl rfl (.appendLo (t := tByte) (eb := 1) rfl (hG.ext0 N17.ext) (fun k hk => by have hk : w17.heap.size ≤ k := hk; show w.heap.size ≤ k; omega) rfl (one_holds N17) rfl rfl rfl rfl rfl rfl rfl (by simp; omega) (by simp [Lim]; omega) (fun _ h _ => h.elim)) ?_
    rintro r18 w18 ⟨G18, Y18⟩
    have z18 : w17.heap.size ≤ w18.heap.size := Y18.size
    refine .p rfl rfl (.as rfl) ?_
    refine .nil (.code ?_)
    refine .ret _ rfl ?_
    exact ⟨by rw [hs, hsp]; exact G18, (hX.trans N17.ext).then Y18 (fun k hk _ => hk)⟩
theorem Text_fn {w : World} {l : Bs} (hl : l.length < Lim) (hl2 : l.length + 10 < Lim) : Fn Try.prog 55 [str l] w (fun r w2 => Gr w2 r (textF l) w.heap.size ∧ Ext (fun _ => False) w w2) := by
  simp only [Lim] at hl
  have hsl := smallF_length l.length
  refine Fn.enter (fun w => Try.call55 _ w) Try.func55 rfl ?_
  refine .seq (.region ?_)
  refine .p rfl rfl (.as rfl) ?_
  refine .nil (.code (.seq (.keep [(0, _)] ⟨rfl, trivial⟩ (.region ?_))))
  refine .p rfl rfl (.mv rfl) ?_
  refine .p rfl rfl (.lenS rfl rfl) ?_
  refine .p rfl rfl (.convU rfl rfl rfl (by omega)) ?_
  refine .call (first := []) (captured := []) rfl rfl rfl rfl (Small_fn (n := l.length) (by omega)) ?_
  rintro r6 w6 ⟨G6, X6⟩
  have z6 : w.heap.size ≤ w6.heap.size := X6.size
  refine .p rfl rfl (.mv rfl) ?_
  refine .v rfl rfl (.appendSLo rfl G6 (fun k hk => by have hk : w6.heap.size ≤ k := hk; show w.heap.size ≤ k; omega) rfl rfl rfl rfl rfl rfl rfl rfl (by simp only [Lim] at hl2 ⊢; omega) (fun _ h _ => h.elim)) ?_
  rintro r8 w8 ⟨G8, Y8⟩
  refine .p rfl rfl (.as rfl) ?_
  refine .nil (.code ?_)
  refine .ret _ rfl ?_
  exact ⟨G8, X6.then Y8 (fun k hk _ => hk)⟩
end Go.Proofs.Ythkgadhamecnlaa
