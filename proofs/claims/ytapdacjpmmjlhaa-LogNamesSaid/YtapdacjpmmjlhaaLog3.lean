
/-
  Package log: a sector, the head, what a log is.
-/
import Derived.Test.YtapdacjpmmjlhaaLogState
import Derived.Test.YtapdacjpmmjlhaaLog2
import Derived.Test.YtapdacjpmmjlhaaLo
import Derived.Test.YtapdacjpmmjlhaaTree
set_option linter.unusedVariables false
set_option linter.unusedSimpArgs false
set_option maxRecDepth 20000
namespace Go.Proofs.Ytapdacjpmmjlhaa
open Go disk log
theorem sector_fn {w : World} {v : Value} {d : Disk} {n : Int} (h : tDisk.rep All w v d) (hA : askedF d n = 0) : Fn Try.prog 47 [v, i64 n] w (fun r w2 => ∃ b, Own tByte (fun _ => False) 5 w2 r (readF d n) b ∧ w.heap.size ≤ b ∧ Ext (fun _ => False) w w2) := by
  obtain ⟨u, u', rfl, hd, hw, hc1, hc2⟩ := tDisk.val h
  refine Fn.enter (fun w => Try.call47 _ w) Try.func47 rfl ?_
  refine .seq (.region ?_)
  refine .v rfl rfl (.box rfl) ?_
  rintro _ w2 ⟨rfl, N2⟩
  refine .p rfl rfl (.as rfl) ?_
  refine .nil (.code (.seq (.keep [(2, _), (1, _)] ⟨rfl, rfl, trivial⟩ (.region ?_))))
  refine .p rfl rfl (.loadA (n := 3) rfl rfl rfl rfl rfl N2.blk.cells) ?_
  refine .p rfl rfl (.mv rfl) ?_
  refine .call (first := []) (captured := []) rfl rfl rfl rfl (Read_fn (n := n) (tDisk.ext0 h N2.ext)) ?_
  rintro _ w10 ⟨s10, b10, rfl, O10, hb10, X10⟩
  rw [if_pos hA] at O10
  have z2 := N2.size
  refine .p rfl rfl (.mv rfl) ?_
  refine .p rfl rfl (.extract rfl rfl) ?_
  refine .p rfl rfl (.extract rfl rfl) ?_
  refine .p rfl rfl (.as rfl) ?_
  refine .p rfl rfl (.as rfl) ?_
  refine .nil (.code (.seq (.keep [(5, _)] ⟨rfl, trivial⟩ (.region ?_))))
  refine .p rfl rfl (.mv rfl) ?_
  refine .p rfl rfl (.as rfl) ?_
  refine .nil (.code ?_)
  refine .ret _ rfl ?_
  exact ⟨b10, O10, by omega, N2.ext.trans X10⟩
theorem epochOf_fn {w : World} {v : Value} {d : Disk} (h : tDisk.rep All w v d) (hck : checkF d = 0) (hct : 80 ≤ d.count) : Fn Try.prog 51 [v] w (fun r w2 => r = u32 (headF d) ∧ Ext (fun _ => False) w w2) := by
  obtain ⟨u, u', rfl, hd, hw, hc1, hc2⟩ := tDisk.val h
  have hl := readF_length hck (n := 16) (by omega) (by omega)
  refine Fn.enter (fun w => Try.call51 _ w) Try.func51 rfl ?_
  refine .seq (.region ?_)
  refine .v rfl rfl (.box rfl) ?_
  rintro _ w1 ⟨rfl, N1⟩
  refine .p rfl rfl (.as rfl) ?_
  refine .nil (.code (.seq (.keep [(1, _)] ⟨rfl, trivial⟩ (.region ?_))))
  refine .p rfl rfl (.loadA (n := 3) rfl rfl rfl rfl rfl N1.blk.cells) ?_
  refine .call (first := []) (captured := []) rfl rfl rfl rfl (sector_fn (tDisk.ext0 h N1.ext) (asked_in hck (n := 16) (by omega) (by omega))) ?_
  rintro r7 w7 ⟨b7, O7, hb7, X7⟩
  have R7 : tBytes.rep All w7 r7 (readF d 16) := O7.rep trivial (fun _ h _ => h.elim)
  obtain ⟨a7, cap7, rfl, hc7⟩ := Sl.val R7
  rw [hl] at R7 hc7 ⊢
  have R10 := Sl.cut R7 0 8 (by omega) (by omega)
  have R18 := Sl.cut R7 8 128 (by omega) (by omega)
  have hl10 : (((readF d 16).take 8).drop 0).length = 8 := by simp [hl]
  have X1 := N1.ext.trans X7
  refine .p rfl rfl (.as rfl) ?_
  refine .nil (.code (.seq (.keep [(3, _)] ⟨rfl, trivial⟩ (.region ?_))))
  refine .p rfl rfl (.mv rfl) ?_
  refine .p rfl rfl (.cutHi (s := 1) rfl rfl rfl rfl (by omega)) ?_
  refine .call (first := []) (captured := []) rfl rfl rfl rfl (Get_fn R10) ?_
  rintro _ w11 ⟨rfl, X11⟩
  rw [if_pos hl10, if_pos hl10, List.drop_zero]
  have hn9 := getTo_bd ((readF d 16).take 8) (i := 8) (by omega)
  change getTo ((readF d 16).take 8) 8 < _ at hn9
  rw [show getTo ((readF d 16).take 8) 8 = headN d from rfl] at hn9 ⊢
  refine .p rfl rfl (.mv rfl) ?_
  refine .p rfl rfl (.extract rfl rfl) ?_
  refine .p rfl rfl (.extract rfl rfl) ?_
  refine .p rfl rfl (.as rfl) ?_
  refine .p rfl rfl (.as rfl) ?_
  refine .nil (.code (.seq (.seq (.keep [(4, _), (3, _)] ⟨rfl, rfl, trivial⟩ (.mix (fun _ => False) [5, 6] (by kernel_rfl) (by kernel_rfl) (by kernel_rfl) ?_)))))
  refine .p rfl rfl rfl (fun wx hx => .mv rfl) ?_
  refine .p rfl rfl rfl (fun wx hx => .gt rfl rfl) ?_
  refine .p rfl rfl rfl (fun wx hx => .mv rfl) ?_
  refine .caseD 16 rfl (fun c16 => ?_) (fun c16 => ?_)
  · refine .skip rfl rfl ?_
    refine .skip rfl rfl ?_
    refine .skip rfl rfl ?_
    refine .skip rfl rfl ?_
    refine .skip rfl rfl ?_
    refine .p rfl rfl rfl (fun wx hx => .pickT rfl rfl) ?_
    refine .nil (.code (.keep [(22, _), (4, _)] ⟨rfl, rfl, trivial⟩ (.condT rfl (.seq (.keep [] trivial (.region ?_))))))
    refine .p rfl rfl (.as rfl) ?_
    refine .nil (.code ?_)
    refine .ret _ rfl ?_
    have e : headF d = 0 := by unfold headF; rw [if_neg (by omega)]
    rw [e]
    exact ⟨rfl, X1.trans X11⟩
  · refine .p rfl rfl rfl (fun wx hx => .mv rfl) ?_
    refine .p rfl rfl rfl (fun wx hx => .cutLo (s := 1) rfl rfl rfl rfl (by omega)) ?_
    refine .v rfl rfl rfl (.make (eb := 1) rfl rfl rfl rfl rfl rfl rfl rfl (by omega)) (by rintro _ _ ⟨_, hN⟩; exact hN.ext) ?_
    rintro _ w19 ⟨rfl, N19⟩
    
    refine .call (first := []) (captured := []) rfl rfl rfl rfl rfl (bytesEqual_fn (tBytes.ext0 R18 (X11.trans N19.ext)) (zeros_own (Q := All) N19 (by decide) rfl trivial)) (by rintro _ _ ⟨_, hX⟩; exact N19.ext.trans hX) ?_
    rintro _ w20 ⟨rfl, X20⟩
    rw [show ((readF d 16).take 128).drop 8 = (readF d 16).drop 8 by rw [List.take_of_length_le (by omega)]]
    refine .p rfl rfl rfl (fun wx hx => .notD rfl) ?_
    refine .p rfl rfl rfl (fun wx hx => .pickF rfl rfl) ?_
    refine .nil (.code (.keep [(22, _), (4, _)] ⟨rfl, rfl, trivial⟩ ?_))
    refine .condD rfl (fun c22 => ?_) (fun c22 => ?_)
    · refine .seq (.keep [] trivial (.region ?_))
      refine .p rfl rfl (.as rfl) ?_
      refine .nil (.code ?_)
      refine .ret _ rfl ?_
      have e : headF d = 0 := by unfold headF; rw [if_neg (fun hh => c22 hh.2)]
      rw [e]
      exact ⟨rfl, X1.trans (X11.trans (N19.ext.trans X20))⟩
    · refine .skip (.code (.seq (.keep [(4, _)] ⟨rfl, trivial⟩ (.region ?_))))
      refine .p rfl rfl (.mv rfl) ?_
      refine .p rfl rfl (.convW rfl rfl rfl (by omega)) ?_
      refine .p rfl rfl (.as rfl) ?_
      refine .nil (.code ?_)
      refine .ret _ rfl ?_
      have e : headF d = UInt32.ofNat (headN d) := by unfold headF; rw [if_pos ⟨by omega, Decidable.byContradiction c22⟩]
      rw [e]
      exact ⟨rfl, X1.trans (X11.trans (N19.ext.trans X20))⟩
theorem there_fn {w : World} {v : Value} {d : Disk} (h : tDisk.rep All w v d) : Fn Try.prog 50 [v] w (fun r w2 => r = i64 (thereF d) ∧ Ext (fun _ => False) w w2) := by
  obtain ⟨u, u', rfl, hd, hw, hc1, hc2⟩ := tDisk.val h
  refine Fn.enter (fun w => Try.call50 _ w) Try.func50 rfl ?_
  refine .seq (.region ?_)
  refine .v rfl rfl (.box rfl) ?_
  rintro _ w1 ⟨rfl, N1⟩
  refine .p rfl rfl (.as rfl) ?_
  refine .nil (.code (.seq (.seq (.keep [(1, _)] ⟨rfl, trivial⟩ (.region ?_)))))
  refine .p rfl rfl (.loadA (n := 3) rfl rfl rfl rfl rfl N1.blk.cells) ?_
  refine .call (first := []) (captured := []) rfl rfl rfl rfl (Check_fn (tDisk.ext0 h N1.ext)) ?_
  rintro _ w5 ⟨rfl, X5⟩
  have B5 := N1.blk.ext X5 (fun x => x)
  refine .p rfl rfl (.as rfl) ?_
  refine .nil (.code (.seq (.keep [(3, _), (1, _)] ⟨rfl, rfl, trivial⟩ (.region ?_))))
  refine .p rfl rfl (.mv rfl) ?_
  refine .p rfl rfl (.ne rfl rfl) ?_
  refine .nil (.code (.keep [(7, _), (3, _), (1, _)] ⟨rfl, rfl, rfl, trivial⟩ ?_))
  refine .condD rfl (fun c7 => ?_) (fun c7 => ?_)
  · refine .seq (.keep [(3, _)] ⟨rfl, trivial⟩ (.region ?_))
    refine .p rfl rfl (.mv rfl) ?_
    refine .p rfl rfl (.as rfl) ?_
    refine .nil (.code ?_)
    refine .ret _ rfl ?_
    exact ⟨by unfold thereF; rw [if_pos c7]; rfl, N1.ext.trans X5⟩
  · refine .skip (.code (.seq (.seq (.keep [(1, _)] ⟨rfl, trivial⟩ (.region ?_)))))
    refine .p rfl rfl (.fieldAddr rfl rfl rfl rfl) ?_
    refine .p rfl rfl (.load rfl rfl rfl (B5.cell 0)) ?_
    refine .p rfl rfl (.lt rfl rfl) ?_
    refine .nil (.code (.keep [(11, _)] ⟨rfl, trivial⟩ ?_))
    refine .condD rfl (fun c11 => ?_) (fun c11 => ?_)
    · refine .seq (.keep [] trivial (.region ?_))
      refine .p rfl rfl (.as rfl) ?_
      refine .nil (.code ?_)
      refine .ret _ rfl ?_
      exact ⟨by unfold thereF; rw [if_neg c7, if_pos (by omega)]; rfl, N1.ext.trans X5⟩
    · refine .skip (.code (.seq (.keep [] trivial (.region ?_))))
      refine .p rfl rfl (.as rfl) ?_
      refine .nil (.code ?_)
      refine .ret _ rfl ?_
      exact ⟨by unfold thereF; rw [if_neg c7, if_neg (by omega)]; rfl, N1.ext.trans X5⟩
end Go.Proofs.Ytapdacjpmmjlhaa
