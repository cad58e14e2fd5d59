
/-
  The document's own sum.
-/
import Derived.Test.YthkgadhamecnlaaCrc
set_option linter.unusedVariables false
set_option maxRecDepth 20000
namespace Go.Proofs.Ythkgadhamecnlaa
open Go
def s1to : Nat → UInt32 → UInt32
  | 0, r => r
  | n + 1, r => s1 (s1to n r)
theorem s1to_8 (r : UInt32) : s1to 8 r = s8 r := rfl
theorem low_iff (r : UInt32) : ((r % 2).toNat : Int) = 1 ↔ low r = true := by
  unfold low
  rw [beq_iff_eq, UInt32.toNat_mod]
  show ((r.toNat % 2 : Nat) : Int) = 1 ↔ _
  omega
theorem RefSum_fn {w : World} {v : Value} {l : Bs} (h : tBytes.rep All w v l) : Fn Try.prog 71 [v] w (fun r w2 => r = u32 (crc l) ∧ Same w w2) := by
  obtain ⟨a, cap, rfl, hcap⟩ := Sl.val h
  have hlim := Sl.lim h
  simp only [Lim] at hlim
  refine Fn.enter (fun w => Try.call71 _ w) Try.func71 rfl ?_
  refine .seq (.region ?_)
  refine .p rfl rfl (.as rfl) ?_
  refine .nil (.code (.seq (.keep [(0, _)] ⟨rfl, trivial⟩ (.region ?_))))
  refine .p rfl rfl (.as rfl) ?_
  refine .nil (.code (.seq (.seq (.region ?_))))
  refine .p rfl rfl (.as rfl) ?_
  refine .nil (.code (.block ?_))
  refine .loop (S := Nat) (fun s => [(0, .slice a l.length cap), (4, i64 s), (3, u32 ((l.take s).foldl crcStep 0xffffffff))]) (fun s => w) (fun s => s ≤ l.length) (fun s => l.length - s) 0 ⟨rfl, rfl, rfl, trivial⟩ rfl (Nat.zero_le _) ?_
  intro k J hk' again
  refine .seq (.seq (.region ?_))
  refine .p rfl rfl (.mv rfl) ?_
  refine .p rfl rfl (.mv rfl) ?_
  refine .p rfl rfl (.len rfl rfl) ?_
  refine .p rfl rfl (.lt rfl rfl) ?_
  refine .nil (.code (.keep [(10, _), (0, _), (4, _), (3, _)] ⟨rfl, rfl, rfl, rfl, trivial⟩ ?_))
  refine .condD rfl (fun c10 => ?_) (fun c10 => ?_)
  · have hk : k < l.length := by omega
    obtain ⟨b, o, rfl, _, hc⟩ := Sl.byteAt h hk
    refine .skip (.code (.seq (.block (.seq (.keep [(0, _), (4, _), (3, _)] ⟨rfl, rfl, rfl, trivial⟩ (.region ?_))))))
    refine .p rfl rfl (.mv rfl) ?_
    refine .p rfl rfl (.mv rfl) ?_
    refine .p rfl rfl (.mv rfl) ?_
    refine .p rfl rfl (.indexAddr1 rfl rfl rfl rfl (by omega)) ?_
    refine .p rfl rfl (.load rfl rfl rfl hc) ?_
    refine .p rfl rfl (.conv8_32 rfl rfl rfl) ?_
    refine .p rfl rfl (.xor32 rfl rfl) ?_
    refine .p rfl rfl (.as rfl) ?_
    refine .nil (.code (.seq (.keep [(3, _), (0, _), (4, _)] ⟨rfl, rfl, rfl, trivial⟩ (.region ?_))))
    refine .p rfl rfl (.as rfl) ?_
    refine .nil (.code (.block ?_))
    refine .loop (S := Nat) (fun s => [(0, .slice (some ⟨b, o, none⟩) l.length cap), (4, i64 k), (5, i64 s), (3, u32 (s1to s ((l.take k).foldl crcStep 0xffffffff ^^^ l[k].toUInt32)))]) (fun s => w) (fun s => s ≤ 8) (fun s => 8 - s) 0 ⟨rfl, rfl, rfl, rfl, trivial⟩ rfl (Nat.zero_le _) ?_
    intro n J' hn again'
    generalize hz : s1to n ((l.take k).foldl crcStep 0xffffffff ^^^ l[k].toUInt32) = z
    refine .seq (.seq (.region ?_))
    refine .p rfl rfl (.mv rfl) ?_
    refine .p rfl rfl (.lt rfl rfl) ?_
    refine .nil (.code (.keep [(21, _), (0, _), (4, _), (5, _), (3, _)] ⟨rfl, rfl, rfl, rfl, rfl, trivial⟩ ?_))
    refine .condD rfl (fun c21 => ?_) (fun c21 => ?_)
    · refine .skip (.code (.seq (.block (.seq (.keep [(0, _), (4, _), (5, _), (3, _)] ⟨rfl, rfl, rfl, rfl, trivial⟩ (.region ?_))))))
      refine .p rfl rfl (.mv rfl) ?_
      refine .p rfl rfl (.rem32 (b := 2) rfl rfl (by decide)) ?_
      refine .p rfl rfl (.eq rfl rfl) ?_
      refine .p rfl rfl (.as rfl) ?_
      refine .nil (.code (.seq (.keep [(6, _), (0, _), (4, _), (5, _), (3, _)] ⟨rfl, rfl, rfl, rfl, rfl, trivial⟩ (.region ?_))))
      refine .p rfl rfl (.mv rfl) ?_
      refine .p rfl rfl (.quo32 (b := 2) rfl rfl (by decide)) ?_
      refine .p rfl rfl (.as rfl) ?_
      refine .nil (.code (.seq (.keep [(3, _), (6, _), (0, _), (4, _), (5, _)] ⟨rfl, rfl, rfl, rfl, rfl, trivial⟩ (.region ?_))))
      refine .p rfl rfl (.mv rfl) ?_
      refine .nil (.code (.keep [(29, _), (3, _), (0, _), (4, _), (5, _)] ⟨rfl, rfl, rfl, rfl, rfl, trivial⟩ ?_))
      refine .condD rfl (fun c29 => ?_) (fun c29 => ?_)
      · refine .keep [(3, _), (0, _), (4, _), (5, _)] ⟨rfl, rfl, rfl, rfl, trivial⟩ (.region ?_)
        refine .p rfl rfl (.mv rfl) ?_
        refine .p rfl rfl (.xor32 (b := 3988292384) rfl rfl) ?_
        refine .p rfl rfl (.as rfl) ?_
        refine .nil (.blk (.code (.keep [(3, _), (0, _), (4, _), (5, _)] ⟨rfl, rfl, rfl, rfl, trivial⟩ (.region ?_))))
        refine .p rfl rfl (.mv rfl) ?_
        refine .p rfl rfl (.add rfl rfl (by omega)) ?_
        refine .p rfl rfl (.as rfl) ?_
        refine .nil ?_
        have hs : s1to (n + 1) ((l.take k).foldl crcStep 0xffffffff ^^^ l[k].toUInt32) = z / 2 ^^^ 3988292384 := by
          show s1 (s1to n _) = _
          rw [hz, s1, (low_iff z).1 c29]
          rfl
        exact (again' (n + 1) (by show n + 1 ≤ 8; omega) (by show 8 - (n + 1) < 8 - n; omega)).of ⟨rfl, rfl, rfl, by rw [hs]; rfl, trivial⟩
      · refine .skip (.blk (.code (.keep [(3, _), (0, _), (4, _), (5, _)] ⟨rfl, rfl, rfl, rfl, trivial⟩ (.region ?_))))
        refine .p rfl rfl (.mv rfl) ?_
        refine .p rfl rfl (.add rfl rfl (by omega)) ?_
        refine .p rfl rfl (.as rfl) ?_
        refine .nil ?_
        have hs : s1to (n + 1) ((l.take k).foldl crcStep 0xffffffff ^^^ l[k].toUInt32) = z / 2 := by
          show s1 (s1to n _) = _
          have hl : low z = false := by cases h : low z with | false => rfl | true => exact absurd ((low_iff z).2 h) c29
          rw [hz, s1, hl]
          rfl
        exact (again' (n + 1) (by show n + 1 ≤ 8; omega) (by show 8 - (n + 1) < 8 - n; omega)).of ⟨rfl, rfl, rfl, by rw [hs]; rfl, trivial⟩
    · refine .exit rfl (.blk (.code (.keep [(0, _), (4, _), (3, _)] ⟨rfl, rfl, rfl, trivial⟩ (.region ?_))))
      refine .p rfl rfl (.mv rfl) ?_
      refine .p rfl rfl (.add rfl rfl (by omega)) ?_
      refine .p rfl rfl (.as rfl) ?_
      refine .nil ?_
      obtain rfl : n = 8 := by omega
      have hs : z = (l.take (k + 1)).foldl crcStep 0xffffffff := by rw [crc_snoc l k hk, ← s8_step, ← hz, s1to_8]
      exact (again (k + 1) (by show k + 1 ≤ _; omega) (by show _ - (k + 1) < _ - k; omega)).of ⟨rfl, rfl, by rw [← hs]; rfl, trivial⟩
  · refine .exit rfl (.code (.seq (.keep [(3, _)] ⟨rfl, trivial⟩ (.region ?_))))
    refine .p rfl rfl (.mv rfl) ?_
    refine .p rfl rfl (.com32 rfl) ?_
    refine .p rfl rfl (.as rfl) ?_
    refine .nil (.code ?_)
    refine .ret _ rfl ?_
    obtain rfl : k = l.length := by omega
    exact ⟨by rw [crc, List.take_length]; rfl, .refl _⟩
end Go.Proofs.Ythkgadhamecnlaa
