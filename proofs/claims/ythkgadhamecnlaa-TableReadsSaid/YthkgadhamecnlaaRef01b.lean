
/-
  The document's own number out of eight bytes.
-/
import Derived.Test.YthkgadhamecnlaaBits
import Derived.Test.YthkgadhamecnlaaRef01p
set_option linter.unusedVariables false
set_option linter.unusedSimpArgs false
set_option maxRecDepth 20000
namespace Go.Proofs.Ythkgadhamecnlaa
open Go
theorem RefGet_fn {w : World} {v : Value} {l : Bs} (h : tBytes.rep All w v l) : Fn Try.prog 83 [v] w (fun r w2 => r = .tuple #[.int .u64 (if l.length = 8 then getTo l 8 else 0 : Nat), i64 (if l.length = 8 then 0 else 8)] ∧ Same w w2) := by
  obtain ⟨a, cap, rfl, hcap⟩ := Sl.val h
  refine Fn.enter (fun w => Try.call83 _ w) Try.func83 rfl ?_
  refine .seq (.region ?_)
  refine .p rfl rfl (.as rfl) ?_
  refine .p rfl rfl (.as rfl) ?_
  refine .nil (.code (.seq (.seq (.keep [(0, _)] ⟨rfl, trivial⟩ (.region ?_)))))
  refine .p rfl rfl (.mv rfl) ?_
  refine .p rfl rfl (.len rfl rfl) ?_
  refine .p rfl rfl (.ne rfl rfl) ?_
  refine .nil (.code (.keep [(8, _), (0, _)] ⟨rfl, rfl, trivial⟩ ?_))
  refine .condD rfl (fun c8 => ?_) (fun c8 => ?_)
  · refine .seq (.keep [] trivial (.region ?_))
    refine .p rfl rfl (.as rfl) ?_
    refine .p rfl rfl (.as rfl) ?_
    refine .nil (.code ?_)
    refine .ret _ rfl ?_
    rw [if_neg (by omega), if_neg (by omega)]
    exact ⟨rfl, .refl _⟩
  · have hl8 : l.length = 8 := by omega
    refine .skip (.code (.seq (.keep [(0, _)] ⟨rfl, trivial⟩ (.region ?_))))
    refine .p rfl rfl (.as rfl) ?_
    refine .nil (.code (.seq (.seq (.region ?_))))
    refine .p rfl rfl (.as rfl) ?_
    refine .nil (.code (.block ?_))
    refine .loop (S := Nat) (fun s => [(5, i64 (7 - (s : Int))), (0, .slice a l.length cap), (4, .int .u64 (hiTo l s : Nat))]) (fun s => w) (fun s => s ≤ 8) (fun s => 8 - s) 0 ⟨rfl, rfl, rfl, trivial⟩ rfl (Nat.zero_le _) ?_
    intro j J hj again
    refine .seq (.seq (.region ?_))
    refine .p rfl rfl (.mv rfl) ?_
    refine .p rfl rfl (.ge rfl rfl) ?_
    refine .nil (.code (.keep [(10, _), (5, _), (0, _), (4, _)] ⟨rfl, rfl, rfl, rfl, trivial⟩ ?_))
    refine .condD rfl (fun c10 => ?_) (fun c10 => ?_)
    · have hj8 : j < 8 := by omega
      have hk : 7 - j < l.length := by omega
      obtain ⟨b, o, rfl, _, hc⟩ := Sl.byteAt h hk
      have e7 : (7 - (j : Int)).toNat = 7 - j := by omega
      have hgd : l.getD (7 - j) 0 = l[7 - j] := by rw [List.getD, List.getElem?_eq_getElem hk]; rfl
      have hlt := hiTo_bd l (j := j + 1) (by omega)
      rw [hiTo, hgd] at hlt
      have hbl := l[7 - j].toNat_lt
      refine .skip (.code (.seq (.block (.keep [(5, _), (0, _), (4, _)] ⟨rfl, rfl, rfl, trivial⟩ (.region ?_)))))
      refine .p rfl rfl (.mv rfl) ?_
      refine .p rfl rfl (.mulU rfl rfl (by omega)) ?_
      refine .p rfl rfl (.mv rfl) ?_
      refine .p rfl rfl (.mv rfl) ?_
      refine .p rfl rfl (.indexAddr1 rfl rfl rfl rfl (by omega)) ?_
      refine .p rfl rfl (.load rfl rfl rfl (by rw [e7]; exact hc)) ?_
      refine .p rfl rfl (.conv8_U rfl rfl rfl) ?_
      refine .p rfl rfl (.cast (.addU rfl rfl (by omega)) (by show Value.int .u64 _ = Value.int .u64 ((hiTo l (j + 1) : Nat) : Int); rw [hiTo, hgd]; simp)) ?_
      refine .p rfl rfl (.as rfl) ?_
      refine .nil (.blk (.code (.keep [(4, _), (5, _), (0, _)] ⟨rfl, rfl, rfl, trivial⟩ (.region ?_))))
      refine .p rfl rfl (.mv rfl) ?_
      refine .p rfl rfl (.sub rfl rfl (by omega)) ?_
      refine .p rfl rfl (.as rfl) ?_
      refine .nil ?_
      exact (again (j + 1) (by show j + 1 ≤ 8; omega) (by show 8 - (j + 1) < 8 - j; omega)).of ⟨by show some (i64 (7 - (j : Int) - 1)) = some (i64 (7 - ((j + 1 : Nat) : Int))); congr 2; omega, rfl, rfl, trivial⟩
    · refine .exit rfl (.code (.seq (.keep [(4, _)] ⟨rfl, trivial⟩ (.region ?_))))
      refine .p rfl rfl (.mv rfl) ?_
      refine .p rfl rfl (.as rfl) ?_
      refine .p rfl rfl (.as rfl) ?_
      refine .nil (.code ?_)
      refine .ret _ rfl ?_
      obtain rfl : j = 8 := by omega
      rw [if_pos hl8, if_pos hl8, ← hiTo_8]
      exact ⟨rfl, .refl _⟩
end Go.Proofs.Ythkgadhamecnlaa
