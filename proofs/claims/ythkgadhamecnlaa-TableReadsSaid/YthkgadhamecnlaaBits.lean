
/-
  bits.Get: a number out of eight bytes.
-/
import Derived.Test.YthkgadhamecnlaaPut
set_option linter.unusedVariables false
set_option linter.unusedSimpArgs false
set_option maxRecDepth 20000
namespace Go.Proofs.Ythkgadhamecnlaa
open Go
theorem Get_fn {w : World} {v : Value} {l : Bs} (h : tBytes.rep All w v l) : Fn Try.prog 73 [v] w (fun r w2 => r = .tuple #[.int .u64 (if l.length = 8 then getTo l 8 else 0 : Nat), i64 (if l.length = 8 then 0 else 8)] ∧ Ext (fun _ => False) w w2) := by
  obtain ⟨a, cap, rfl, hcap⟩ := Sl.val h
  refine Fn.enter (fun w => Try.call73 _ w) Try.func73 rfl ?_
  refine .seq (.region ?_)
  refine .p rfl rfl (.as rfl) ?_
  refine .p rfl rfl (.as rfl) ?_
  refine .nil (.code (.seq (.seq (.keep [(0, _)] ⟨rfl, trivial⟩ (.region ?_)))))
  refine .p rfl rfl (.mv rfl) ?_
  refine .p rfl rfl (.len rfl rfl) ?_
  refine .p rfl rfl (.ne rfl rfl) ?_
  refine .nil (.code (.keep [(10, _), (0, _)] ⟨rfl, rfl, trivial⟩ ?_))
  refine .condD rfl (fun c10 => ?_) (fun c10 => ?_)
  · refine .seq (.keep [] trivial (.region ?_))
    refine .p rfl rfl (.as rfl) ?_
    refine .p rfl rfl (.as rfl) ?_
    refine .nil (.code ?_)
    refine .ret _ rfl ?_
    rw [if_neg (by omega), if_neg (by omega)]
    exact ⟨rfl, .refl _⟩
  · have hl8 : l.length = 8 := by omega
    obtain ⟨b, o, ha, hcs⟩ : ∃ b o, a = some ⟨b, o, none⟩ ∧ Cells w b o (l.map u8) := by
      obtain ⟨_, a', cap', hv, _, h'⟩ := Sl.bytes h
      cases hv
      rcases h' with ⟨rfl, _⟩ | ⟨b, o, rfl, _, _, hc⟩
      · cases hl8
      · exact ⟨b, o, rfl, hc⟩
    subst ha
    refine .skip (.code (.seq (.keep [(0, _)] ⟨rfl, trivial⟩ (.region ?_))))
    refine .p rfl rfl (.mv rfl) ?_
    refine .p rfl rfl (.arrPtr rfl rfl (by omega)) ?_
    refine .p rfl rfl (.loadA (n := 8) rfl rfl rfl rfl (by simp; omega) hcs) ?_
    refine .v rfl rfl (.alloc rfl rfl) ?_
    rintro _ w4 ⟨rfl, N4⟩
    refine .s rfl (.storeAll (n := 8) rfl rfl rfl (by simp; omega) (by simp [Value.oneCell']) N4.blk (by rw [List.length_map, hl8]; rfl)) ?_
    intro w14 P14
    have X14 := N4.ext.then P14.ext (by rintro k rfl _; omega)
    refine .nil (.code (.seq (.keep [(4, _)] ⟨rfl, trivial⟩ (.region ?_))))
    refine .p rfl rfl (.as rfl) ?_
    refine .nil (.code (.seq (.seq (.region ?_))))
    refine .p rfl rfl (.loadA (n := 8) rfl rfl rfl rfl (by simp; omega) P14.blk.cells) ?_
    refine .p rfl rfl (.mv rfl) ?_
    refine .nil (.code (.block (.keep [(15, _), (14, _), (5, _)] ⟨rfl, rfl, rfl, trivial⟩ ?_)))
    refine .loop (S := Nat) (fun s => [(15, i64 s), (14, .agg (l.map u8).toArray), (5, .int .u64 (getTo l s : Nat))]) (fun s => w14) (fun s => s ≤ 8) (fun s => 8 - s) 0 ⟨rfl, rfl, rfl, trivial⟩ rfl (Nat.zero_le _) ?_
    intro i J hi again
    refine .seq (.region ?_)
    refine .p rfl rfl (.lt rfl rfl) ?_
    refine .nil (.code (.seq ?_))
    refine .condD rfl (fun c16 => ?_) (fun c16 => ?_)
    · have hterm := getTo_term l (i := i) (by omega)
      have hsh : 0 ≤ ((l.getD i 0).toNat : Int) * 2 ^ (8 * i) ∧ ((l.getD i 0).toNat : Int) * 2 ^ (8 * i) ≤ 18446744073709551615 := by
        have : ((l.getD i 0).toNat : Int) * 2 ^ (8 * i) = (((l.getD i 0).toNat * 2 ^ (8 * i) : Nat) : Int) := by simp
        rw [this]
        omega
      refine .skip (.code (.seq (.block (.seq (.keep [(15, _), (14, _), (5, _)] ⟨rfl, rfl, rfl, trivial⟩ (.region ?_))))))
      refine .p rfl rfl (.mv rfl) ?_
      refine .p rfl rfl (.idxA (v := u8 (l.getD i 0)) rfl rfl rfl rfl rfl rfl (by omega) (by simp [List.getElem?_eq_getElem (show i < l.length by omega)])) ?_
      refine .p rfl rfl (.as rfl) ?_
      refine .p rfl rfl (.as rfl) ?_
      refine .nil (.code (.keep [(7, _), (6, _), (15, _), (14, _), (5, _)] ⟨rfl, rfl, rfl, rfl, rfl, trivial⟩ (.region ?_)))
      refine .p rfl rfl (.mv rfl) ?_
      refine .p rfl rfl (.mv rfl) ?_
      refine .p rfl rfl (.conv8_U rfl rfl rfl) ?_
      refine .p rfl rfl (.mv rfl) ?_
      refine .p rfl rfl (.mul rfl rfl (by omega)) ?_
      refine .p rfl rfl (.shlU (8 * i) rfl rfl (by omega) hsh) ?_
      refine .p rfl rfl (.orU (p := getTo l i) (q := (l.getD i 0).toNat * 2 ^ (8 * i)) rfl rfl (getTo_bd l (by omega)) (getTo_term l (by omega))) ?_
      refine .p rfl rfl (.as rfl) ?_
      refine .nil (.blk (.code (.keep [(5, _), (15, _), (14, _)] ⟨rfl, rfl, rfl, trivial⟩ (.region ?_))))
      refine .p rfl rfl (.add rfl rfl (by omega)) ?_
      refine .p rfl rfl (.mv rfl) ?_
      refine .nil ?_
      exact (again (i + 1) (by show i + 1 ≤ 8; omega) (by show 8 - (i + 1) < 8 - i; omega)).of ⟨rfl, rfl, by rw [← getTo_or]; rfl, trivial⟩
    · refine .exit rfl (.code (.seq (.keep [(5, _)] ⟨rfl, trivial⟩ (.region ?_))))
      refine .p rfl rfl (.mv rfl) ?_
      refine .p rfl rfl (.as rfl) ?_
      refine .p rfl rfl (.as rfl) ?_
      refine .nil (.code ?_)
      refine .ret _ rfl ?_
      obtain rfl : i = 8 := by omega
      rw [if_pos hl8, if_pos hl8]
      exact ⟨rfl, X14⟩
end Go.Proofs.Ythkgadhamecnlaa
