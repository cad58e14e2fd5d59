import Derived.Test.YtpfehnopghffjaaGreatDoorT03
import Derived.Test.YtpfehnopghffjaaGreatDoorT02
import Derived.Defers
import Derived.RangeFuncRecord
import Derived.RangeFuncSeq
import Derived.RangeFuncCalls
import Derived.TacticsIn
set_option linter.unusedVariables false
set_option linter.unusedSimpArgs false
set_option maxRecDepth 20000
namespace Go.Proofs.YtpfehnopghffjaaGreatDoor
open Go disk
theorem May_fn {w : World} {v : Value} {d : Disk} (h : tDisk.rep All w v d) : Fn Tryz.prog 154 [v] w (fun r w2 => r = .bool (decide (checkF d = 0)) ∧ Ext (fun _ => False) w w2) := by
 obtain ⟨u, u', rfl, hd, hw, hc1, hc2⟩ := tDisk.val h
 obtain ⟨a, cap, rfl, hcap⟩ := Sl.val hd
 obtain ⟨aw, capw, rfl, hcapw⟩ := Sl.val hw
 have hlim := Sl.lim hd
 have hlimw := Sl.lim hw
 simp only [Lim] at hlim hlimw
 refine Fn.enter (fun w => Tryz.call154 _ w) Tryz.func154 rfl ?_
 refine .seq (.region ?_)
 refine .v rfl rfl (.box rfl) ?_
 rintro _ w1 ⟨rfl, N1⟩
 have B1 := N1.blk
 refine .p rfl rfl (.as rfl) (.nil (.code (.seq (.seq (.keep [(1, _)] ⟨rfl, trivial⟩ (.region ?_))))))
 refine .p rfl rfl (.fieldAddr rfl rfl rfl rfl) (.p rfl rfl (.load rfl rfl rfl (B1.cell 0)) (.p rfl rfl (.lt rfl rfl) (.p rfl rfl (.mv rfl) ?_)))
 refine .caseD 8 rfl (fun c8 => ?_) (fun c8 => ?_)
 ·refine .skip rfl rfl (.skip rfl rfl (.skip rfl rfl (.p rfl rfl (.pickT rfl rfl) (.p rfl rfl (.mv rfl) (.skip rfl rfl (.skip rfl rfl (.skip rfl rfl (.skip rfl rfl (.skip rfl rfl (.skip rfl rfl (.skip rfl rfl (.p rfl rfl (.pickT rfl rfl) (.p rfl rfl (.mv rfl) ?_)))))))))))))
  refine .skip rfl rfl (.skip rfl rfl (.skip rfl rfl (.skip rfl rfl (.p rfl rfl (.pickT rfl rfl) (.nil (.code (.keep [(27, _), (1, _)] ⟨rfl, rfl, trivial⟩ (.condT rfl (.seq (.keep [] trivial (.region ?_)))))))))))
  refine .p rfl rfl (.as rfl) (.nil (.code ?_))
  refine .ret _ rfl ?_
  have e : ¬ checkF d = 0 := by
   intro hz
   obtain ⟨k1, k2, k3, k4, k5⟩ := check_ok hz
   omega
  exact ⟨by rw [decide_eq_false e]; rfl, N1.ext⟩
 ·refine .p rfl rfl (.fieldAddr rfl rfl rfl rfl) (.p rfl rfl (.load rfl rfl rfl (B1.cell 0)) (.p rfl rfl (.gt rfl rfl) (.p rfl rfl (.pickF rfl rfl) (.p rfl rfl (.mv rfl) ?_))))
  refine .caseD 13 rfl (fun c13 => ?_) (fun c13 => ?_)
  ·refine .skip rfl rfl (.skip rfl rfl (.skip rfl rfl (.skip rfl rfl (.skip rfl rfl (.skip rfl rfl (.skip rfl rfl (.p rfl rfl (.pickT rfl rfl) (.p rfl rfl (.mv rfl) (.skip rfl rfl (.skip rfl rfl (.skip rfl rfl (.skip rfl rfl (.p rfl rfl (.pickT rfl rfl) ?_)))))))))))))
   refine .nil (.code (.keep [(27, _), (1, _)] ⟨rfl, rfl, trivial⟩ (.condT rfl (.seq (.keep [] trivial (.region ?_))))))
   refine .p rfl rfl (.as rfl) (.nil (.code ?_))
   refine .ret _ rfl ?_
   have e : ¬ checkF d = 0 := by
    intro hz
    obtain ⟨k1, k2, k3, k4, k5⟩ := check_ok hz
    omega
   exact ⟨by rw [decide_eq_false e]; rfl, N1.ext⟩
  ·refine .p rfl rfl (.fieldAddr rfl rfl rfl rfl) (.p rfl rfl (.load rfl rfl rfl (B1.cell 1)) (.p rfl rfl (.len rfl rfl) (.p rfl rfl (.fieldAddr rfl rfl rfl rfl) (.p rfl rfl (.load rfl rfl rfl (B1.cell 0)) (.p rfl rfl (.mul rfl rfl (by omega)) (.p rfl rfl (.ne rfl rfl) (.p rfl rfl (.pickF rfl rfl) (.p rfl rfl (.mv rfl) ?_))))))))
   refine .caseD 22 rfl (fun c22 => ?_) (fun c22 => ?_)
   ·refine .skip rfl rfl (.skip rfl rfl (.skip rfl rfl (.skip rfl rfl (.p rfl rfl (.pickT rfl rfl) (.nil (.code (.keep [(27, _), (1, _)] ⟨rfl, rfl, trivial⟩ (.condT rfl (.seq (.keep [] trivial (.region ?_)))))))))))
    refine .p rfl rfl (.as rfl) (.nil (.code ?_))
    refine .ret _ rfl ?_
    have e : ¬ checkF d = 0 := by
     intro hz
     obtain ⟨k1, k2, k3, k4, k5⟩ := check_ok hz
     omega
    exact ⟨by rw [decide_eq_false e]; rfl, N1.ext⟩
   ·refine .p rfl rfl (.fieldAddr rfl rfl rfl rfl) (.p rfl rfl (.load rfl rfl rfl (B1.cell 2)) (.p rfl rfl (.len rfl rfl) (.p rfl rfl (.gt rfl rfl) (.p rfl rfl (.pickF rfl rfl) (.nil (.code (.keep [(27, _), (1, _)] ⟨rfl, rfl, trivial⟩ ?_)))))))
    refine .condD rfl (fun c27 => ?_) (fun c27 => ?_)
    ·refine .seq (.keep [] trivial (.region ?_))
     refine .p rfl rfl (.as rfl) (.nil (.code ?_))
     refine .ret _ rfl ?_
     have e : ¬ checkF d = 0 := by
      intro hz
      obtain ⟨k1, k2, k3, k4, k5⟩ := check_ok hz
      omega
     exact ⟨by rw [decide_eq_false e]; rfl, N1.ext⟩
    ·refine .skip (.code (.seq (.seq (.keep [(1, _)] ⟨rfl, trivial⟩ (.region ?_)))))
     refine .p rfl rfl (.as rfl) (.nil (.code (.block ?_)))
     refine .loop (S := Nat × World) (fun s => [(1, .pointer (some ⟨w.heap.size, 0, none⟩)), (3, i64 s.1)]) (fun s => s.2) (fun s => s.1 ≤ d.waits.length ∧ Ext (fun _ => False) w1 s.2 ∧ (d.waits.take s.1).all (okPut d.count) = true) (fun s => d.waits.length - s.1) (0, w1) ⟨rfl, rfl, trivial⟩ rfl ⟨Nat.zero_le _, .refl _, rfl⟩ ?_
     rintro ⟨i, wi⟩ J ⟨hi', hX, hall⟩ again
     simp only at hi' hX hall
     have Bi := B1.ext hX (fun x => x)
     change G _ _ _ _ wi
     refine .seq (.seq (.region ?_))
     refine .p rfl rfl (.mv rfl) (.p rfl rfl (.fieldAddr rfl rfl rfl rfl) (.p rfl rfl (.load rfl rfl rfl (Bi.cell 2)) (.p rfl rfl (.len rfl rfl) (.p rfl rfl (.lt rfl rfl) (.nil (.code (.keep [(32, _), (1, _), (3, _)] ⟨rfl, rfl, rfl, trivial⟩ ?_)))))))
     refine .condD rfl (fun c32 => ?_) (fun c32 => ?_)
     ·have hi : i < d.waits.length := by omega
      obtain ⟨bw, ow, cw, ue, e, _, hcs, hre⟩ := Sl.at hw (List.getElem?_eq_getElem hi)
      cases e
      obtain ⟨ud, rfl, hud, hs1, hs2⟩ := tPut.val hre
      obtain ⟨ad, capd, rfl, _⟩ := Sl.val hud
      have hcs' := hcs.ext (N1.ext.trans hX) (fun x => x)
      refine .skip (.code (.seq (.block (.seq (.keep [(1, _), (3, _)] ⟨rfl, rfl, trivial⟩ (.region ?_))))))
      refine .p rfl rfl (.fieldAddr rfl rfl rfl rfl) (.p rfl rfl (.load rfl rfl rfl (Bi.cell 2)) (.p rfl rfl (.mv rfl) (.p rfl rfl (.indexAddr (s := 2) rfl rfl rfl rfl (by omega)) (.p rfl rfl (.loadA (n := 2) rfl rfl rfl rfl rfl hcs') (.v rfl rfl (.alloc rfl rfl) ?_)))))
      rintro _ w4 ⟨rfl, N4⟩
      refine .s rfl (.storeAll (n := 2) rfl rfl rfl rfl rfl N4.blk rfl) ?_
      intro w5 P5
      have X5 := N4.ext.then P5.ext (by rintro k rfl _; exact Nat.le_refl _)
      have B4 := P5.blk
      have B1' := Bi.ext X5 (fun x => x)
      refine .nil (.code (.seq (.keep [(4, _), (1, _), (3, _)] ⟨rfl, rfl, rfl, trivial⟩ (.region ?_))))
      refine .p rfl rfl (.fieldAddr rfl rfl rfl rfl) (.p rfl rfl (.load rfl rfl rfl (B4.cell 0)) (.p rfl rfl (.lt rfl rfl) (.p rfl rfl (.mv rfl) ?_)))
      refine .caseD 43 rfl (fun c43 => ?_) (fun c43 => ?_)
      ·refine .skip rfl rfl (.skip rfl rfl (.skip rfl rfl (.skip rfl rfl (.skip rfl rfl (.p rfl rfl (.pickT rfl rfl) (.p rfl rfl (.mv rfl) (.skip rfl rfl (.skip rfl rfl (.skip rfl rfl (.skip rfl rfl (.p rfl rfl (.pickT rfl rfl) (.nil (.code (.keep [(55, _), (1, _), (3, _)] ⟨rfl, rfl, rfl, trivial⟩ (.condT rfl (.seq (.keep [] trivial (.region ?_))))))))))))))))))
       refine .p rfl rfl (.as rfl) (.nil (.code ?_))
       refine .ret _ rfl ?_
       have e : ¬ checkF d = 0 := by
        intro hz
        obtain ⟨k1, k2, k3, k4, k5⟩ := check_ok hz
        have := k5 _ (List.getElem_mem hi)
        omega
       exact ⟨by rw [decide_eq_false e]; rfl, N1.ext.trans (hX.trans X5)⟩
      ·refine .p rfl rfl (.fieldAddr rfl rfl rfl rfl) (.p rfl rfl (.load rfl rfl rfl (B4.cell 0)) (.p rfl rfl (.fieldAddr rfl rfl rfl rfl) (.p rfl rfl (.load rfl rfl rfl (B1'.cell 0)) (.p rfl rfl (.ge rfl rfl) (.p rfl rfl (.pickF rfl rfl) (.p rfl rfl (.mv rfl) ?_))))))
       refine .caseD 50 rfl (fun c50 => ?_) (fun c50 => ?_)
       ·refine .skip rfl rfl (.skip rfl rfl (.skip rfl rfl (.skip rfl rfl (.p rfl rfl (.pickT rfl rfl) (.nil (.code (.keep [(55, _), (1, _), (3, _)] ⟨rfl, rfl, rfl, trivial⟩ (.condT rfl (.seq (.keep [] trivial (.region ?_)))))))))))
        refine .p rfl rfl (.as rfl) (.nil (.code ?_))
        refine .ret _ rfl ?_
        have e : ¬ checkF d = 0 := by
         intro hz
         obtain ⟨k1, k2, k3, k4, k5⟩ := check_ok hz
         have := k5 _ (List.getElem_mem hi)
         omega
        exact ⟨by rw [decide_eq_false e]; rfl, N1.ext.trans (hX.trans X5)⟩
       ·refine .p rfl rfl (.fieldAddr rfl rfl rfl rfl) (.p rfl rfl (.load rfl rfl rfl (B4.cell 1)) (.p rfl rfl (.len rfl rfl) (.p rfl rfl (.ne rfl rfl) (.p rfl rfl (.pickF rfl rfl) (.nil (.code (.keep [(55, _), (1, _), (3, _)] ⟨rfl, rfl, rfl, trivial⟩ ?_)))))))
        refine .condD rfl (fun c55 => ?_) (fun c55 => ?_)
        ·refine .seq (.keep [] trivial (.region ?_))
         refine .p rfl rfl (.as rfl) (.nil (.code ?_))
         refine .ret _ rfl ?_
         have e : ¬ checkF d = 0 := by
          intro hz
          obtain ⟨k1, k2, k3, k4, k5⟩ := check_ok hz
          have := k5 _ (List.getElem_mem hi)
          omega
         exact ⟨by rw [decide_eq_false e]; rfl, N1.ext.trans (hX.trans X5)⟩
        ·refine .skip (.blk (.code (.keep [(1, _), (3, _)] ⟨rfl, rfl, trivial⟩ (.region ?_))))
         refine .p rfl rfl (.mv rfl) (.p rfl rfl (.add rfl rfl (by omega)) (.p rfl rfl (.as rfl) (.nil ?_)))
         exact (again (i + 1, w5) ⟨by show i + 1 ≤ _; omega, hX.trans X5, all_take hi hall (by unfold okPut; rw [decide_eq_true_eq]; omega)⟩ (by show _ - (i + 1) < _ - i; omega)).of ⟨rfl, rfl, trivial⟩
     ·refine .exit rfl (.code (.seq (.keep [] trivial (.region ?_))))
      refine .p rfl rfl (.as rfl) (.nil (.code ?_))
      refine .ret _ rfl ?_
      obtain rfl : i = d.waits.length := by omega
      rw [List.take_length] at hall
      exact ⟨by rw [decide_eq_true (by unfold checkF; rw [if_neg (by omega), if_pos hall])]; rfl, N1.ext.trans hX⟩
theorem refBytes_fn {w : World} {v : Value} {l : Bs} (h : tBytes.rep All w v l) : Fn Tryz.prog 65 [v] w (fun r w2 => ∃ b, Own tByte (fun _ => False) 5 w2 r l b ∧ w.heap.size ≤ b ∧ Ext (fun _ => False) w w2) := by
 obtain ⟨a, cap, rfl, hcap⟩ := Sl.val h
 have hlim := Sl.lim h
 simp only [Lim] at hlim
 refine Fn.enter (fun w => Tryz.call65 _ w) Tryz.func65 rfl ?_
 refine .seq (.region ?_)
 refine .p rfl rfl (.as rfl) (.nil (.code (.seq (.keep [(0, _)] ⟨rfl, trivial⟩ (.region ?_)))))
 refine .p rfl rfl (.mv rfl) (.v rfl rfl (.append (t := tByte) (Q := fun _ => False) (b := w.heap.size) (eb := 1) rfl Own.nil rfl (Sl.holds h (fun _ _ h => h)) rfl rfl rfl rfl rfl rfl rfl (by simp; omega) (by simp [Lim]; omega) (fun _ h _ => h.elim)) ?_)
 rintro v4 w4 ⟨b4, O4, X4, hb4⟩
 have O4 := O4.mono (Q' := fun _ => False) (fun _ h _ => h.1)
 have Z4 := X4.mono (S' := fun _ => False) (fun k hk he => by have he : k = w.heap.size := he; omega)
 refine .p rfl rfl (.as rfl) (.nil (.code ?_))
 refine .ret _ rfl ?_
 exact ⟨b4, O4, by rcases hb4 with rfl | rfl <;> exact Nat.le_refl _, Z4⟩
theorem refCheck_fn {w : World} {v : Value} {d : Disk} (h : tDisk.rep All w v d) : Fn Tryz.prog 130 [v] w (fun r w2 => r = i64 (checkF d) ∧ Ext (fun _ => False) w w2) := by
 obtain ⟨u, u', rfl, hd, hw, hc1, hc2⟩ := tDisk.val h
 refine Fn.enter (fun w => Tryz.call130 _ w) Tryz.func130 rfl ?_
 refine .seq (.region ?_)
 refine .v rfl rfl (.box rfl) ?_
 rintro _ w1 ⟨rfl, N1⟩
 refine .p rfl rfl (.as rfl) (.nil (.code (.seq (.seq (.keep [(1, _)] ⟨rfl, trivial⟩ (.region ?_))))))
 refine .p rfl rfl (.loadA (n := 3) rfl rfl rfl rfl rfl N1.blk.cells) (.call (first := []) (captured := []) rfl rfl rfl rfl (May_fn (tDisk.ext0 h N1.ext)) ?_)
 rintro _ w4 ⟨rfl, X4⟩
 refine .p rfl rfl (.notD rfl) (.nil (.code (.keep [(5, _)] ⟨rfl, trivial⟩ ?_)))
 refine .condD rfl (fun c5 => ?_) (fun c5 => ?_)
 ·refine .seq (.keep [] trivial (.region ?_))
  refine .p rfl rfl (.as rfl) (.nil (.code ?_))
  refine .ret _ rfl ?_
  exact ⟨by rw [check_no c5]; rfl, N1.ext.trans X4⟩
 ·refine .skip (.code (.seq (.keep [] trivial (.region ?_))))
  refine .p rfl rfl (.as rfl) (.nil (.code ?_))
  refine .ret _ rfl ?_
  exact ⟨by rw [Decidable.not_not.1 c5]; rfl, N1.ext.trans X4⟩
theorem refsure_fn {w : World} {v : Value} {d : Disk} {n : Int} (h : tDisk.rep All w v d) (hA : askedF d n = 0) : Fn Tryz.prog 149 [v, i64 n] w (fun r w2 => ∃ b, Own tByte (fun _ => False) 5 w2 r ((d.data.drop (n.toNat * 128)).take 128) b ∧ w.heap.size ≤ b ∧ Ext (fun _ => False) w w2) := by
 obtain ⟨u, u', rfl, hd, hw, hc1, hc2⟩ := tDisk.val h
 obtain ⟨a, cap, rfl, hcap⟩ := Sl.val hd
 have hA2 := hA
 unfold askedF at hA2
 split at hA2
 ·omega
 split at hA2
 ·omega
 rename_i hck hrg
 obtain ⟨k1, k2, k3, k4, k5⟩ := check_ok (Decidable.byContradiction hck)
 obtain ⟨m, rfl⟩ := Int.eq_ofNat_of_zero_le (a := n) (by omega)
 obtain ⟨a3, cap3, hv12, hc12, R12⟩ := Sl.cutE hd (m * 128) (m * 128 + 128) (by omega) (by omega)
 rw [List.drop_take] at R12
 simp only [Nat.add_sub_cancel_left] at hv12 R12
 refine Fn.enter (fun w => Tryz.call149 _ w) Tryz.func149 rfl ?_
 refine .seq (.region ?_)
 refine .v rfl rfl (.box rfl) ?_
 rintro _ w2 ⟨rfl, N2⟩
 refine .p rfl rfl (.as rfl) (.nil (.code (.seq (.keep [(2, _), (1, _)] ⟨rfl, rfl, trivial⟩ (.region ?_)))))
 refine .p rfl rfl (.fieldAddr rfl rfl rfl rfl) (.p rfl rfl (.load rfl rfl rfl (N2.blk.cell 1)) (.p rfl rfl (.mv rfl) (.p rfl rfl (.mul rfl rfl (by omega)) (.p rfl rfl (.mv rfl) (.p rfl rfl (.mul rfl rfl (by omega)) (.p rfl rfl (.add rfl rfl (by omega)) (.p rfl rfl (.cast (.cut (s := 1) rfl rfl rfl rfl rfl (by omega)) (show cutV 1 a cap ((m : Int) * 128).toNat ((m : Int) * 128 + 128).toNat = .slice a3 128 cap3 by rw [show ((m : Int) * 128).toNat = m * 128 by omega, show ((m : Int) * 128 + 128).toNat = m * 128 + 128 by omega]; exact hv12)) (.call (first := []) (captured := []) rfl rfl rfl rfl (refBytes_fn (tBytes.ext0 R12 N2.ext)) ?_))))))))
 rintro r13 w13 ⟨b13, O13, hb13, X13⟩
 have z2 := N2.size
 refine .p rfl rfl (.as rfl) (.nil (.code ?_))
 refine .ret _ rfl ?_
 exact ⟨b13, O13, by omega, N2.ext.trans X13⟩
theorem refNow_fn {w : World} {v : Value} {d : Disk} {n : Int} (h : tDisk.rep All w v d) (hA : askedF d n = 0) : Fn Tryz.prog 123 [v, i64 n] w (fun r w2 => ∃ b, Own tByte (fun _ => False) 5 w2 r (readF d n) b ∧ w.heap.size ≤ b ∧ Ext (fun _ => False) w w2) := by
 obtain ⟨u, u', rfl, hd, hw, hc1, hc2⟩ := tDisk.val h
 obtain ⟨aw, capw, rfl, hcapw⟩ := Sl.val hw
 have hA2 := hA
 unfold askedF at hA2
 split at hA2
 ·omega
 split at hA2
 ·omega
 rename_i hck hrg
 obtain ⟨k1, k2, k3, k4, k5⟩ := check_ok (Decidable.byContradiction hck)
 refine Fn.enter (fun w => Tryz.call123 _ w) Tryz.func123 rfl ?_
 refine .seq (.region ?_)
 refine .v rfl rfl (.box rfl) ?_
 rintro _ w2 ⟨rfl, N2⟩
 refine .p rfl rfl (.as rfl) (.nil (.code (.seq (.seq (.keep [(2, _), (1, _)] ⟨rfl, rfl, trivial⟩ (.region ?_))))))
 refine .p rfl rfl (.fieldAddr rfl rfl rfl rfl) (.p rfl rfl (.load rfl rfl rfl (N2.blk.cell 2)) (.p rfl rfl (.len rfl rfl) (.p rfl rfl (.sub rfl rfl (by omega)) (.p rfl rfl (.as rfl) (.nil (.code (.block (.keep [(5, _), (2, _), (1, _)] ⟨rfl, rfl, rfl, trivial⟩ ?_))))))))
 rw [show ((d.waits.length : Int) - 1) = ((d.waits.length : Int) - 1 - ((0 : Nat) : Int)) by omega]
 refine .loop (S := Nat × World) (fun s => [(2, .pointer (some ⟨w.heap.size, 0, none⟩)), (5, i64 ((d.waits.length : Int) - 1 - (s.1 : Int))), (1, i64 n)]) (fun s => s.2) (fun s => s.1 ≤ d.waits.length ∧ Ext (fun _ => False) w2 s.2 ∧ ∀ j (hj : d.waits.length - 1 - j < d.waits.length), j < s.1 → ¬ (d.waits[d.waits.length - 1 - j]).sector = n) (fun s => d.waits.length - s.1) (0, w2) ⟨rfl, rfl, rfl, trivial⟩ rfl ⟨Nat.zero_le _, .refl _, fun j hj h => absurd h (Nat.not_lt_zero _)⟩ ?_
 rintro ⟨i, wi⟩ J ⟨hi', hX, hall⟩ again
 simp only at hi' hX hall
 change G _ _ _ _ wi
 refine .seq (.seq (.region ?_))
 refine .p rfl rfl (.mv rfl) (.p rfl rfl (.ge rfl rfl) (.nil (.code (.keep [(11, _), (2, _), (5, _), (1, _)] ⟨rfl, rfl, rfl, rfl, trivial⟩ ?_))))
 refine .condD rfl (fun c11 => ?_) (fun c11 => ?_)
 ·have hil : i < d.waits.length := by omega
  have hi : d.waits.length - 1 - i < d.waits.length := by omega
  have Bi := N2.blk.ext hX (fun x => x)
  obtain ⟨bw, ow, cw, ue, e, _, hcs, hre⟩ := Sl.at hw (List.getElem?_eq_getElem hi)
  cases e
  obtain ⟨ud, rfl, hud, hs1, hs2⟩ := tPut.val hre
  obtain ⟨ad, capd, rfl, _⟩ := Sl.val hud
  have e28 : ((d.waits.length : Int) - 1 - (i : Int)).toNat = d.waits.length - 1 - i := by omega
  have hcs' := hcs.ext (N2.ext.trans hX) (fun x => x)
  have e29 : ow + (d.waits.length - 1 - i) * tPut.size = ow + ((d.waits.length : Int) - 1 - (i : Int)).toNat * 2 := by rw [e28]; rfl
  rw [e29] at hcs'
  refine .skip (.code (.seq (.block (.seq (.keep [(2, _), (5, _), (1, _)] ⟨rfl, rfl, rfl, trivial⟩ (.region ?_))))))
  refine .p rfl rfl (.fieldAddr rfl rfl rfl rfl) (.p rfl rfl (.load rfl rfl rfl (Bi.cell 2)) (.p rfl rfl (.mv rfl) (.p rfl rfl (.indexAddr (s := 2) rfl rfl rfl rfl (by omega)) (.p rfl rfl (.fieldAddr rfl rfl rfl rfl) (.p rfl rfl (.load rfl rfl rfl (hcs' 0 _ rfl)) (.p rfl rfl (.mv rfl) (.p rfl rfl (.eq rfl rfl) (.nil (.code (.keep [(21, _), (2, _), (5, _), (1, _)] ⟨rfl, rfl, rfl, rfl, trivial⟩ ?_))))))))))
  refine .condD rfl (fun c21 => ?_) (fun c21 => ?_)
  ·refine .seq (.keep [(2, _), (5, _)] ⟨rfl, rfl, trivial⟩ (.region ?_))
   refine .p rfl rfl (.fieldAddr rfl rfl rfl rfl) (.p rfl rfl (.load rfl rfl rfl (Bi.cell 2)) (.p rfl rfl (.mv rfl) (.p rfl rfl (.indexAddr (s := 2) rfl rfl rfl rfl (by omega)) (.p rfl rfl (.fieldAddr rfl rfl rfl rfl) (.p rfl rfl (.load rfl rfl rfl (hcs' 1 _ rfl)) (.call (first := []) (captured := []) rfl rfl rfl rfl (refBytes_fn (tBytes.ext0 hud (N2.ext.trans hX))) ?_))))))
   rintro r28 w28 ⟨b28, O28, hb28, X28⟩
   refine .p rfl rfl (.as rfl) (.nil (.code ?_))
   refine .ret _ rfl ?_
   exact ⟨b28, by unfold readF; rw [last_some hi hil hall c21]; exact O28, by have := N2.size; have : w2.heap.size ≤ wi.heap.size := hX.size; omega, N2.ext.trans (hX.trans X28)⟩
  ·refine .skip (.blk (.code (.keep [(2, _), (5, _), (1, _)] ⟨rfl, rfl, rfl, trivial⟩ (.region ?_))))
   refine .p rfl rfl (.mv rfl) (.p rfl rfl (.sub rfl rfl (by omega)) (.p rfl rfl (.as rfl) (.nil ?_)))
   refine (again (i + 1, wi) ⟨by show i + 1 ≤ _; omega, hX, fun j hj hlt => ?_⟩ (by show _ - (i + 1) < _ - i; omega)).of ⟨rfl, by show some _ = some _; congr 2; simp; omega, rfl, trivial⟩
   rcases Nat.lt_or_ge j i with h | h
   ·exact hall j hj h
   ·obtain rfl : j = i := by omega
    exact c21
 ·refine .exit rfl (.code (.seq (.keep [(2, _), (1, _)] ⟨rfl, rfl, trivial⟩ (.region ?_))))
  refine .p rfl rfl (.loadA (n := 3) rfl rfl rfl rfl rfl (N2.blk.ext hX (fun x => x)).cells) (.p rfl rfl (.mv rfl) (.call (first := []) (captured := []) rfl rfl rfl rfl (refsure_fn (n := n) (tDisk.ext0 h (N2.ext.trans hX)) hA) ?_))
  rintro r31 w31 ⟨b31, O31, hb31, X31⟩
  refine .p rfl rfl (.as rfl) (.nil (.code ?_))
  refine .ret _ rfl ?_
  have hl : lastOf d.waits n = none := last_none (fun j hj hlt => hall j hj (by omega))
  exact ⟨b31, by unfold readF; rw [hl]; exact O31, by have := N2.size; have : w2.heap.size ≤ wi.heap.size := hX.size; omega, N2.ext.trans (hX.trans X31)⟩
end Go.Proofs.YtpfehnopghffjaaGreatDoor
namespace Go.Proofs.YtpfehnopghffjaaGreatDoor
open Go disk
theorem Own.pick {α : Type} {t : Ty α} {Q : Nat → Prop} {E : TypeId} {w : World} {v : Value} {xs : List α} {b : Nat} (h : Own t Q E w v xs b) (b0 : Nat) : (Own t Q E w v xs b ∧ b < w.heap.size) ∨ ∀ Q', Own t Q' E w v xs b0 := by
 have h' := h
 obtain ⟨hl, ⟨rfl, rfl⟩ | ⟨cap, us, sp, rfl, hc, he, hB, hn⟩⟩ := h'
 ·exact .inr (fun _ => Own.nil)
 ·exact .inl ⟨h, hB.lt⟩
theorem OwnB.of' {w : World} {v : Value} {l : Bs} {b : Nat} {P : Nat → Prop} (h : Own tByte (fun _ => False) 5 w v l b) (hb : b < w.heap.size → P b) : tOwnB.rep P w v l := by
 have h' := h
 obtain ⟨hl, ⟨rfl, rfl⟩ | ⟨cap, us, sp, rfl, hc, he, hB, hn⟩⟩ := h'
 ·exact .inl ⟨rfl, rfl⟩
 ·exact .inr ⟨b, hb hB.lt, hB.lt, h⟩
theorem refBytesA_fn {w : World} {v : Value} {l : Bs} {b0 : Nat} (h : tBytes.rep All w v l) (hb : b0 < w.heap.size) : Fn Tryz.prog 65 [v] w (fun r w2 => ∃ b, Own tByte (fun _ => False) 5 w2 r l b ∧ b < w2.heap.size ∧ (b = b0 ∨ w.heap.size ≤ b) ∧ Ext (fun _ => False) w w2) :=
 (refBytes_fn h).mono fun r w2 ⟨b, h1, h2, h3⟩ => by
  rcases h1.pick b0 with ⟨h4, h5⟩ | h4
  ·exact ⟨b, h4, h5, .inr h2, h3⟩
  ·exact ⟨b0, h4 _, Nat.lt_of_lt_of_le hb h3.size, .inl rfl, h3⟩
namespace disk
end disk
theorem refTwin_fn {w : World} {v : Value} {d : Disk} (h : tDisk.rep All w v d) (hwl : d.waits.length ≤ 100000) : Fn Tryz.prog 18 [v] w (fun r w2 => OwnD w2 r d (fun k => w.heap.size ≤ k) ∧ Ext (fun _ => False) w w2) := by
 obtain ⟨u, u', rfl, hd, hw, hc1, hc2⟩ := tDisk.val h
 obtain ⟨aw, capw, rfl, hcapw⟩ := Sl.val hw
 have hdR := tBytes.mono hd (P' := fun k => k < w.heap.size) (fun k _ hk => hk)
 refine Fn.enter (fun w => Tryz.call18 _ w) Tryz.func18 rfl ?_
 refine .seq (.region ?_)
 refine .v rfl rfl (.box rfl) ?_
 rintro _ w1 ⟨rfl, N1⟩
 refine .v rfl rfl (.alloc rfl rfl) ?_
 rintro _ w2 ⟨rfl, N2⟩
 have B1 := N1.blk.ext N2.ext (fun x => x)
 have z1 := N1.size
 have z2 := N2.size
 refine .nil (.code (.seq (.keep [(2, _), (1, _)] ⟨rfl, rfl, trivial⟩ ?_)))
 refine .meet (S := Nat × Nat × (Option Addr × Nat) × World) (fun s => [(3, .pointer (some ⟨s.1, 0, none⟩)), (1, .pointer (some ⟨w.heap.size, 0, none⟩)), (2, .pointer (some ⟨w1.heap.size, 0, none⟩))]) (fun s => s.2.2.2) (fun s => Blk s.2.2.2 s.1 44 [i64 d.count, .slice s.2.2.1.1 d.data.length s.2.2.1.2, .slice none 0 0] ∧ Own tByte (fun _ => False) 5 s.2.2.2 (.slice s.2.2.1.1 d.data.length s.2.2.1.2) d.data s.2.1 ∧ Ext (fun _ => False) w2 s.2.2.2 ∧ s.2.1 ≠ s.1 ∧ s.2.1 ≠ w1.heap.size ∧ w.heap.size ≤ s.2.1 ∧ s.2.1 < s.2.2.2.heap.size ∧ w2.heap.size ≤ s.1 ∧ s.1 < s.2.2.2.heap.size) ?_ ?_
 ·rintro ⟨p, bd, ⟨a9, cap9⟩, wm⟩ ⟨hBp0, hO0, hX, hne, hn1, hbw, hbl, hp, hpl⟩
  simp only at hBp0 hO0 hX hne hn1 hbw hbl hp hpl
  change A _ _ _ wm
  refine .code (.seq (.seq (.region ?_)))
  refine .p rfl rfl (.as rfl) (.nil (.code (.block ?_)))
  refine .loop (S := Nat × (Option Addr × Nat) × World) (fun s => [(1, .pointer (some ⟨w.heap.size, 0, none⟩)), (2, .pointer (some ⟨w1.heap.size, 0, none⟩)), (3, .pointer (some ⟨p, 0, none⟩)), (4, i64 s.1)]) (fun s => s.2.2) (fun s => s.1 ≤ d.waits.length ∧ Ext (fun _ => False) w2 s.2.2 ∧ Blk s.2.2 p 44 [i64 d.count, .slice a9 d.data.length cap9, .slice s.2.1.1 s.1 s.2.1.2] ∧ Own tByte (fun _ => False) 5 s.2.2 (.slice a9 d.data.length cap9) d.data bd ∧ wm.heap.size ≤ s.2.2.heap.size ∧ ((s.1 = 0 ∧ s.2.1.1 = none ∧ s.2.1.2 = 0) ∨ ∃ b, b < s.2.2.heap.size ∧ w2.heap.size ≤ b ∧ b ≠ p ∧ b ≠ bd ∧ Own tPutO (fun k => w2.heap.size ≤ k ∧ k ≠ p ∧ k ≠ bd ∧ k ≠ b) 76 s.2.2 (.slice s.2.1.1 s.1 s.2.1.2) (d.waits.take s.1) b)) (fun s => d.waits.length - s.1) (0, (none, 0), wm) ⟨rfl, rfl, rfl, rfl, trivial⟩ rfl ⟨Nat.zero_le _, hX, hBp0, hO0, Nat.le_refl _, .inl ⟨rfl, rfl, rfl⟩⟩ ?_
  rintro ⟨i, ⟨x2, y2⟩, wi⟩ J ⟨hi', hXi, hBp, hOd, hzi, hT⟩ again
  simp only at hi' hXi hBp hOd hzi hT
  have B1i := B1.ext hXi (fun x => x)
  have zi : w2.heap.size ≤ wi.heap.size := hXi.size
  change G _ _ _ _ wi
  refine .seq (.seq (.region ?_))
  refine .p rfl rfl (.mv rfl) (.p rfl rfl (.fieldAddr rfl rfl rfl rfl) (.p rfl rfl (.load rfl rfl rfl (B1i.cell 2)) (.p rfl rfl (.len rfl rfl) (.p rfl rfl (.lt rfl rfl) (.nil (.code (.keep [(15, _), (1, _), (2, _), (3, _), (4, _)] ⟨rfl, rfl, rfl, rfl, rfl, trivial⟩ ?_)))))))
  refine .condD rfl (fun c15 => ?_) (fun c15 => ?_)
  ·have hil : i < d.waits.length := by omega
   obtain ⟨ba, oa, ca, ue, e, hQa, hcs, hre⟩ := Sl.at ((Sl tPut).mono hw (P' := fun k => k < w.heap.size) (fun k _ hk => hk)) (List.getElem?_eq_getElem hil)
   cases e
   obtain ⟨ud, rfl, hud, hs1, hs2⟩ := tPut.val hre
   obtain ⟨ad, capd, rfl, _⟩ := Sl.val hud
   have hcs' := hcs.ext (N1.ext.trans (N2.ext.trans hXi)) (fun x => x)
   have hudi := tBytes.ext0 hud (N1.ext.trans (N2.ext.trans hXi))
   refine .skip (.code (.seq (.block (.keep [(1, _), (2, _), (3, _), (4, _)] ⟨rfl, rfl, rfl, rfl, trivial⟩ (.mix (fun k => w2.heap.size ≤ k ∧ k ≠ p) [14, 16, 17, 19] (by kernel_rfl) (by kernel_rfl) (by kernel_rfl) ?_)))))
   refine .p rfl rfl rfl (fun wx hx => .fieldAddr rfl rfl rfl rfl) (.p rfl rfl rfl (fun wx hx => .load rfl rfl rfl ((hBp.ext hx (fun h => h.2 rfl)).cell 2)) (.p rfl rfl rfl (fun wx hx => .fieldAddr rfl rfl rfl rfl) (.p rfl rfl rfl (fun wx hx => .load rfl rfl rfl ((B1i.ext hx (fun h => by have h : w2.heap.size ≤ w.heap.size := h.1; omega)).cell 2)) (.p rfl rfl rfl (fun wx hx => .mv rfl) (.p rfl rfl rfl (fun wx hx => .indexAddr (s := 2) rfl rfl rfl rfl (by omega)) (.p rfl rfl rfl (fun wx hx => .fieldAddr rfl rfl rfl rfl) (.p rfl rfl rfl (fun wx hx => .load rfl rfl rfl ((hcs'.ext hx (fun h => by have h := h.1; omega)) 0 _ rfl)) (.p rfl rfl rfl (fun wx hx => .fieldAddr rfl rfl rfl rfl) (.p rfl rfl rfl (fun wx hx => .load rfl rfl rfl ((B1i.ext hx (fun h => by have h : w2.heap.size ≤ w.heap.size := h.1; omega)).cell 2)) (.p rfl rfl rfl (fun wx hx => .mv rfl) (.p rfl rfl rfl (fun wx hx => .indexAddr (s := 2) rfl rfl rfl rfl (by omega)) (.p rfl rfl rfl (fun wx hx => .fieldAddr rfl rfl rfl rfl) (.p rfl rfl rfl (fun wx hx => .load rfl rfl rfl ((hcs'.ext hx (fun h => by have h := h.1; omega)) 1 _ rfl)) ?_)))))))))))))
   refine .call (first := []) (captured := []) rfl rfl rfl rfl rfl (refBytes_fn (allOf hudi)) (by rintro _ _ ⟨_, _, _, hx⟩; exact hx.mono (fun _ _ h => h.elim)) ?_
   rintro r32 w32 ⟨b32, O32, hb32, X32⟩
   have z32 : wi.heap.size ≤ w32.heap.size := X32.size
   have hb32 : wi.heap.size ≤ b32 := hb32
   obtain ⟨a32, cap32, rfl, hc32⟩ := O32.val
   refine .p rfl rfl rfl (fun wx hx => .build (cs := [i64 (d.waits[i].sector), .slice a32 (d.waits[i].data.length) cap32]) rfl (fun _ => by kernel_rfl)) (.v rfl rfl rfl (.lits rfl rfl (fun _ => by kernel_rfl)) (by rintro _ _ ⟨_, hN⟩; exact (X32.mono (fun _ _ h => h.elim)).trans hN.ext0) ?_)
   rintro _ w34 ⟨rfl, N34⟩
   have z34 : w34.heap.size = w32.heap.size + 1 := N34.size
   have X34 := X32.trans N34.ext
   obtain ⟨b, hOb, hb⟩ : ∃ b, Own tPutO (fun k => w2.heap.size ≤ k ∧ k ≠ p ∧ k ≠ bd ∧ k ≠ b) 76 w34 (.slice x2 i y2) (d.waits.take i) b ∧ (b = w34.heap.size ∨ (b < wi.heap.size ∧ w2.heap.size ≤ b ∧ b ≠ p ∧ b ≠ bd)) := by
    rcases hT with ⟨rfl, rfl, rfl⟩ | ⟨b, h1, h2, h3, h4, h5⟩
    ·exact ⟨w34.heap.size, Own.nil, .inl rfl⟩
    ·exact ⟨b, h5.ext0 X34, .inr ⟨h1, h2, h3, h4⟩⟩
   have htl : (d.waits.take i).length = i := by simp; omega
   refine .v rfl rfl rfl (.append (t := tPutO) (Q := fun k => w2.heap.size ≤ k ∧ k ≠ p ∧ k ≠ bd ∧ k ≠ b) (eb := 32) rfl hOb rfl (.inr (New.holds N34 (.cons (tPutO.mk (OwnB.of' O32 (fun hlt => by rcases hb with hb | hb <;> refine ⟨?_, ?_, ?_, ?_⟩ <;> omega)) ⟨hs1, hs2⟩) .nil) rfl)) rfl rfl rfl rfl rfl rfl rfl (by simp; omega) (by simp [Lim]; omega) (fun k h _ => h.2.2.2)) (by rintro _ _ ⟨_, _, hx, _⟩; exact (X34.mono (fun _ _ h => h.elim)).trans (hx.mono (by rintro k hk rfl; rcases hb with hb | hb <;> refine ⟨?_, ?_⟩ <;> omega))) ?_
   rintro r35 w35 ⟨b35, O35, X35, hb35⟩
   have z35 : w34.heap.size ≤ w35.heap.size := X35.size
   have l35 : b35 < w35.heap.size := O35.lt (List.append_ne_nil_of_right_ne_nil _ (List.cons_ne_nil _ _))
   rw [← List.take_succ_eq_append_getElem hil] at O35
   obtain ⟨a35, cap35, rfl, hc35⟩ := O35.val
   have htl2 : (d.waits.take (i + 1)).length = i + 1 := by simp; omega
   rw [htl2] at O35 hc35
   have Xb : Ext (fun k => k = b) wi w35 := (X34.mono (fun _ _ h => h.elim)).trans X35
   refine .p rfl rfl rfl (fun wx hx => .fieldAddr rfl rfl rfl rfl) (.sL rfl rfl (.store rfl rfl rfl rfl rfl (hBp.ext Xb (fun h => by have h : p = b := h; omega)) (by simp)) (by kernel_rfl) ?_)
   intro w37 P37
   have z37 : w37.heap.size = w35.heap.size := P37.size
   refine .nil (.blk (.code (.keep [(1, _), (2, _), (3, _), (4, _)] ⟨rfl, rfl, rfl, rfl, trivial⟩ (.region ?_))))
   refine .p rfl rfl (.mv rfl) (.p rfl rfl (.add rfl rfl (by omega)) (.p rfl rfl (.as rfl) (.nil ?_)))
   have hb35' : w2.heap.size ≤ b35 ∧ b35 ≠ p ∧ b35 ≠ bd := by rcases hb35 with rfl | rfl <;> rcases hb with hb | hb <;> refine ⟨?_, ?_, ?_⟩ <;> omega
   refine (again (i + 1, (a35, cap35), w37) ⟨by show i + 1 ≤ _; omega, (hXi.then Xb (by rintro k hk _; have hk : k = b := hk; omega)).then P37.ext (by rintro k rfl _; exact hp), ?_, ?_, by show wm.heap.size ≤ w37.heap.size; omega, .inr ⟨b35, by show b35 < w37.heap.size; omega, hb35'.1, hb35'.2.1, hb35'.2.2, (O35.mono (Q' := fun k => w2.heap.size ≤ k ∧ k ≠ p ∧ k ≠ bd ∧ k ≠ b35) (fun k h _ => ⟨h.1.1, h.1.2.1, h.1.2.2.1, h.2⟩)).ext P37.ext hb35'.2.1 (fun k h _ => h.2.1)⟩⟩ (by show _ - (i + 1) < _ - i; omega)).of ⟨rfl, rfl, rfl, rfl, trivial⟩
   ·have B37 := P37.blk
    rw [htl2] at B37
    exact B37
   ·exact (hOd.ext Xb (by rcases hb with hb | hb <;> omega) (fun _ h _ => h.elim)).ext P37.ext hne (fun _ h _ => h.elim)
  ·obtain rfl : i = d.waits.length := by omega
   rw [List.take_length] at hT
   refine .exit rfl (.code (.seq (.keep [(2, _), (3, _)] ⟨rfl, rfl, trivial⟩ (.region ?_))))
   refine .p rfl rfl (.loadA (n := 3) rfl rfl rfl rfl rfl hBp.cells) (.s rfl (.storeAll (n := 3) rfl rfl rfl rfl rfl (N2.blk.ext hXi (fun x => x)) rfl) ?_)
   intro w40 P40
   have z40 : w40.heap.size = wi.heap.size := P40.size
   refine .nil (.code ?_)
   refine .retR (.cell (n := 3) rfl rfl rfl rfl rfl (P40.blk.cells) .nil) ?_
   have D40 := hOd.ext P40.ext hn1 (fun _ h _ => h.elim)
   refine ⟨?_, (N1.ext.trans (N2.ext.trans hXi)).then P40.ext (by rintro k rfl _; show w.heap.size ≤ w1.heap.size; omega)⟩
   rcases hT with ⟨h0, rfl, rfl⟩ | ⟨b, h1, h2, h3, h4, h5⟩
   ·have hn0 := List.length_eq_zero_iff.1 h0
    exact ⟨_, _, bd, p, fun _ => False, rfl, ⟨hc1, hc2⟩, D40, by rw [hn0]; exact Own.nil, ⟨by omega, by omega, hne, hbw, by show w.heap.size ≤ p; omega⟩, fun k h _ => h.elim⟩
   ·exact ⟨_, _, bd, b, fun k => w2.heap.size ≤ k ∧ k ≠ p ∧ k ≠ bd ∧ k ≠ b, rfl, ⟨hc1, hc2⟩, D40, h5.ext P40.ext (by show ¬ b = w1.heap.size; omega) (fun k h _ he => by have h := h.1; have he : k = w1.heap.size := he; omega), ⟨by omega, by omega, fun he => h4 he.symm, hbw, by show w.heap.size ≤ b; omega⟩, fun k h _ => ⟨by have h := h.1; show w.heap.size ≤ k; omega, h.2.2.1, h.2.2.2⟩⟩
 ·intro meet
  refine .tree (fun k => w2.heap.size ≤ k) [4, 6, 7] (.op 0 (.op 1 (.op 2 (.op 3 (.alt 4 (.op 4 (.op 5 (.alt 6 (.op 6 (.alt 7 (.op 7 (.nil)) (.stop))) (.stop)))) (.alt 6 (.op 6 (.alt 4 (.op 4 (.op 5 (.alt 7 (.op 7 (.nil)) (.stop)))) (.stop))) (.stop))))))) (by kernel_rfl) (by kernel_rfl) (by kernel_rfl) (.p rfl rfl rfl rfl (fun wx hx => .fieldAddr rfl rfl rfl rfl) (.p rfl rfl rfl rfl (fun wx hx => .load rfl rfl rfl ((B1.ext hx (by show ¬ (w2.heap.size ≤ w.heap.size); omega)).cell 0)) ?_))
  refine .p rfl rfl rfl rfl (fun wx hx => .fieldAddr rfl rfl rfl rfl) (.p rfl rfl rfl rfl (fun wx hx => .load rfl rfl rfl ((B1.ext hx (by show ¬ (w2.heap.size ≤ w.heap.size); omega)).cell 1)) ?_)
  refine .alt ?_ ?_
  ·refine .call (first := []) (captured := []) rfl rfl rfl rfl rfl rfl (refBytesA_fn (b0 := w.heap.size) (allOf (tBytes.ext hdR ((N1.ext.trans N2.ext).mono (fun _ _ h => h.elim) |>.trans (Ext.refl _)) (by intro k hk _ he; have he : w2.heap.size ≤ k := he; omega))) (by omega)) (by rintro _ _ ⟨_, _, _, _, hx⟩; exact (Ext.refl _).trans (hx.mono (fun _ _ h => h.elim))) ?_
   rintro r9 w9 ⟨bd, O9, hl9, hb9, X9⟩
   have z9 := X9.size
   obtain ⟨a9, cap9, rfl, hc9⟩ := O9.val
   have hX9 : Ext (fun k => w2.heap.size ≤ k) _ _ := (Ext.refl _).trans (X9.mono (fun _ _ h => h.elim))
   refine .p rfl rfl rfl rfl (fun wx hx => .build (cs := [i64 d.count, .slice a9 d.data.length cap9, .slice none 0 0]) rfl (fun _ => by kernel_rfl)) ?_
   refine .alt ?_ ?_
   ·refine .v rfl rfl rfl rfl (.alloc rfl rfl) (by rintro _ _ ⟨_, hN⟩; exact hX9.trans hN.ext0) ?_
    rintro _ w3 ⟨rfl, N3⟩
    have z3 := N3.size
    have hX3 : Ext (fun k => w2.heap.size ≤ k) _ _ := hX9.trans (N3.ext0)
    refine .alt ?_ ?_
    ·refine .s rfl rfl rfl (.storeAll (n := 3) (E := 44) (cs := [i64 0, .slice none 0 0, .slice none 0 0]) rfl rfl rfl rfl rfl (by first | exact N3.blk | exact N3.blk.ext X9 (fun x => x)) rfl) (by intro wz hP; exact hX3.trans (hP.ext.mono (by rintro k _ rfl; show w2.heap.size ≤ _; omega))) ?_
     intro w7 P7
     have hXs7 : Ext (fun k => w2.heap.size ≤ k) _ _ := hX3.trans (P7.ext.mono (by rintro k _ rfl; show w2.heap.size ≤ _; omega))
     refine .nil ?_
     have hz7 := P7.size
     exact (meet (w9.heap.size, bd, (a9, cap9), w7) ⟨P7.blk, (O9.ext0 N3.ext).ext P7.ext (by show ¬ bd = w9.heap.size; omega) (fun _ h _ => h.elim), (Ext.refl w2).then hXs7 (fun k hk _ => hk), by show bd ≠ w9.heap.size; omega, by show bd ≠ w1.heap.size; omega, by show w.heap.size ≤ bd; omega, by show bd < w7.heap.size; omega, by show w2.heap.size ≤ w9.heap.size; omega, by show w9.heap.size < w7.heap.size; omega⟩).of ⟨rfl, rfl, rfl, trivial⟩
    exact .stop
   exact .stop
  refine .alt ?_ ?_
  ·refine .v rfl rfl rfl rfl (.alloc rfl rfl) (by rintro _ _ ⟨_, hN⟩; exact (Ext.refl _).trans hN.ext0) ?_
   rintro _ w3 ⟨rfl, N3⟩
   have z3 := N3.size
   have hX3 : Ext (fun k => w2.heap.size ≤ k) _ _ := (Ext.refl _).trans (N3.ext0)
   refine .alt ?_ ?_
   ·refine .call (first := []) (captured := []) rfl rfl rfl rfl rfl rfl (refBytesA_fn (b0 := w.heap.size) (allOf (tBytes.ext hdR ((N1.ext.trans N2.ext).mono (fun _ _ h => h.elim) |>.trans hX3) (by intro k hk _ he; have he : w2.heap.size ≤ k := he; omega))) (by omega)) (by rintro _ _ ⟨_, _, _, _, hx⟩; exact hX3.trans (hx.mono (fun _ _ h => h.elim))) ?_
    rintro r9 w9 ⟨bd, O9, hl9, hb9, X9⟩
    have z9 := X9.size
    obtain ⟨a9, cap9, rfl, hc9⟩ := O9.val
    have hX9 : Ext (fun k => w2.heap.size ≤ k) _ _ := hX3.trans (X9.mono (fun _ _ h => h.elim))
    refine .p rfl rfl rfl rfl (fun wx hx => .build (cs := [i64 d.count, .slice a9 d.data.length cap9, .slice none 0 0]) rfl (fun _ => by kernel_rfl)) ?_
    refine .alt ?_ ?_
    ·refine .s rfl rfl rfl (.storeAll (n := 3) (E := 44) (cs := [i64 0, .slice none 0 0, .slice none 0 0]) rfl rfl rfl rfl rfl (by first | exact N3.blk | exact N3.blk.ext X9 (fun x => x)) rfl) (by intro wz hP; exact hX9.trans (hP.ext.mono (by rintro k _ rfl; show w2.heap.size ≤ _; omega))) ?_
     intro w7 P7
     have hXs7 : Ext (fun k => w2.heap.size ≤ k) _ _ := hX9.trans (P7.ext.mono (by rintro k _ rfl; show w2.heap.size ≤ _; omega))
     refine .nil ?_
     have hz7 := P7.size
     exact (meet (w2.heap.size, bd, (a9, cap9), w7) ⟨P7.blk, O9.ext P7.ext (by show ¬ bd = w2.heap.size; omega) (fun _ h _ => h.elim), (Ext.refl w2).then hXs7 (fun k hk _ => hk), by show bd ≠ w2.heap.size; omega, by show bd ≠ w1.heap.size; omega, by show w.heap.size ≤ bd; omega, by show bd < w7.heap.size; omega, by show w2.heap.size ≤ w2.heap.size; omega, by show w2.heap.size < w7.heap.size; omega⟩).of ⟨rfl, rfl, rfl, trivial⟩
    exact .stop
   exact .stop
  exact .stop
end Go.Proofs.YtpfehnopghffjaaGreatDoor
namespace Go.Proofs.YtpfehnopghffjaaGreatDoor
open Go disk
namespace disk
theorem put_ext {p q : disk.Put} (h1 : p.sector = q.sector) (h2 : p.data = q.data) : p = q := by cases p; cases q; simp_all
end disk
theorem refSame_fn {w : World} {v u : Value} {a b : Disk} (ha : tDisk.rep All w v a) (hb : tDisk.rep All w u b) : Fn Tryz.prog 26 [v, u] w (fun r w2 => r = .bool (decide (a = b)) ∧ Ext (fun _ => False) w w2) := by
 obtain ⟨va, va', rfl, had, haw, _⟩ := tDisk.val ha
 obtain ⟨vb, vb', rfl, hbd, hbw, _⟩ := tDisk.val hb
 obtain ⟨ac, ad, aw⟩ := a
 obtain ⟨bc, bd, bw⟩ := b
 simp only at had haw hbd hbw
 obtain ⟨x2, y2, rfl, _⟩ := Sl.val haw
 obtain ⟨x4, y4, rfl, _⟩ := Sl.val hbw
 have hl1 := Sl.lim haw
 have hl2 := Sl.lim hbw
 simp only [Lim] at hl1 hl2
 refine Fn.enter (fun w => Tryz.call26 _ w) Tryz.func26 rfl ?_
 refine .seq (.region ?_)
 refine .v rfl rfl (.box rfl) ?_
 rintro _ w2 ⟨rfl, N2⟩
 refine .v rfl rfl (.box rfl) ?_
 rintro _ w3 ⟨rfl, N3⟩
 have B2 := N2.blk.ext N3.ext (fun x => x)
 have B3 := N3.blk
 have X3 := N2.ext.trans N3.ext
 refine .p rfl rfl (.as rfl) (.nil (.code (.seq (.seq (.keep [(3, _), (2, _)] ⟨rfl, rfl, trivial⟩ (.region ?_))))))
 refine .p rfl rfl (.fieldAddr rfl rfl rfl rfl) (.p rfl rfl (.load rfl rfl rfl (B2.cell 0)) (.p rfl rfl (.fieldAddr rfl rfl rfl rfl) (.p rfl rfl (.load rfl rfl rfl (B3.cell 0)) (.p rfl rfl (.ne rfl rfl) (.p rfl rfl (.mv rfl) ?_)))))
 refine .caseD 11 rfl (fun c11 => ?_) (fun c11 => ?_)
 ·refine .skip rfl rfl (.skip rfl rfl (.skip rfl rfl (.skip rfl rfl (.skip rfl rfl (.skip rfl rfl (.skip rfl rfl (.p rfl rfl (.pickT rfl rfl) (.p rfl rfl (.mv rfl) (.skip rfl rfl (.skip rfl rfl (.skip rfl rfl (.skip rfl rfl (.skip rfl rfl ?_)))))))))))))
  refine .skip rfl rfl (.skip rfl rfl (.p rfl rfl (.pickT rfl rfl) (.nil (.code (.keep [(28, _), (3, _), (2, _)] ⟨rfl, rfl, rfl, trivial⟩ (.condT rfl (.seq (.keep [] trivial (.region ?_)))))))))
  refine .p rfl rfl (.as rfl) (.nil (.code ?_))
  refine .ret _ rfl ?_
  exact ⟨by rw [decide_eq_false (fun h => c11 (by cases h; rfl))]; rfl, X3⟩
 ·refine .p rfl rfl (.fieldAddr rfl rfl rfl rfl) (.p rfl rfl (.load rfl rfl rfl (B2.cell 1)) (.p rfl rfl (.bytesStr rfl (tBytes.ext0 had X3) rfl rfl rfl) (.p rfl rfl (.fieldAddr rfl rfl rfl rfl) (.p rfl rfl (.load rfl rfl rfl (B3.cell 1)) (.p rfl rfl (.bytesStr rfl (tBytes.ext0 hbd X3) rfl rfl rfl) (.p rfl rfl (.neS rfl rfl) (.p rfl rfl (.pickF rfl rfl) (.p rfl rfl (.mv rfl) ?_))))))))
  refine .caseD 20 rfl (fun c20 => ?_) (fun c20 => ?_)
  ·refine .skip rfl rfl (.skip rfl rfl (.skip rfl rfl (.skip rfl rfl (.skip rfl rfl (.skip rfl rfl (.skip rfl rfl (.p rfl rfl (.pickT rfl rfl) (.nil (.code (.keep [(28, _), (3, _), (2, _)] ⟨rfl, rfl, rfl, trivial⟩ (.condT rfl (.seq (.keep [] trivial (.region ?_))))))))))))))
   refine .p rfl rfl (.as rfl) (.nil (.code ?_))
   refine .ret _ rfl ?_
   exact ⟨by rw [decide_eq_false (fun h => c20 (by cases h; rfl))]; rfl, X3⟩
  ·refine .p rfl rfl (.fieldAddr rfl rfl rfl rfl) (.p rfl rfl (.load rfl rfl rfl (B2.cell 2)) (.p rfl rfl (.len rfl rfl) (.p rfl rfl (.fieldAddr rfl rfl rfl rfl) (.p rfl rfl (.load rfl rfl rfl (B3.cell 2)) (.p rfl rfl (.len rfl rfl) (.p rfl rfl (.ne rfl rfl) (.p rfl rfl (.pickF rfl rfl) (.nil (.code (.keep [(28, _), (3, _), (2, _)] ⟨rfl, rfl, rfl, trivial⟩ ?_))))))))))
   refine .condD rfl (fun c28 => ?_) (fun c28 => ?_)
   ·refine .seq (.keep [] trivial (.region ?_))
    refine .p rfl rfl (.as rfl) (.nil (.code ?_))
    refine .ret _ rfl ?_
    exact ⟨by rw [decide_eq_false (fun h => c28 (by cases h; rfl))]; rfl, X3⟩
   ·refine .skip (.code (.seq (.seq (.keep [(3, _), (2, _)] ⟨rfl, rfl, trivial⟩ (.region ?_)))))
    refine .p rfl rfl (.as rfl) (.nil (.code (.block ?_)))
    have c11 : ac = bc := Decidable.not_not.1 c11
    have c20 : ad = bd := Decidable.not_not.1 c20
    subst c11
    subst c20
    have hlen : aw.length = bw.length := by omega
    refine .loop (S := Nat) (fun s => [(2, .pointer (some ⟨w.heap.size, 0, none⟩)), (3, .pointer (some ⟨w2.heap.size, 0, none⟩)), (5, i64 s)]) (fun s => w3) (fun s => s ≤ aw.length ∧ aw.take s = bw.take s) (fun s => aw.length - s) 0 ⟨rfl, rfl, rfl, trivial⟩ rfl ⟨Nat.zero_le _, rfl⟩ ?_
    rintro i J ⟨hi', htk⟩ again
    refine .seq (.seq (.region ?_))
    refine .p rfl rfl (.mv rfl) (.p rfl rfl (.fieldAddr rfl rfl rfl rfl) (.p rfl rfl (.load rfl rfl rfl (B2.cell 2)) (.p rfl rfl (.len rfl rfl) (.p rfl rfl (.lt rfl rfl) (.nil (.code (.keep [(33, _), (2, _), (3, _), (5, _)] ⟨rfl, rfl, rfl, rfl, trivial⟩ ?_)))))))
    refine .condD rfl (fun c33 => ?_) (fun c33 => ?_)
    ·have hil : i < aw.length := by omega
     have him : i < bw.length := by omega
     obtain ⟨b1, o1, q1, ue, e, _, hcs, hre⟩ := Sl.at haw (List.getElem?_eq_getElem hil)
     cases e
     obtain ⟨ud, rfl, hudl, hsl⟩ := tPut.val hre
     obtain ⟨adl, capd, rfl, _⟩ := Sl.val hudl
     have hcs' := hcs.ext X3 (fun x => x)
     obtain ⟨b2, o2, q2, ue2, e2, _, hcm, hrm⟩ := Sl.at hbw (List.getElem?_eq_getElem him)
     cases e2
     obtain ⟨um, rfl, hudm, hsm⟩ := tPut.val hrm
     obtain ⟨adm, capdm, rfl, _⟩ := Sl.val hudm
     have hcm' := hcm.ext X3 (fun x => x)
     refine .skip (.code (.seq (.block (.seq (.keep [(2, _), (3, _), (5, _)] ⟨rfl, rfl, rfl, trivial⟩ (.draws (by kernel_rfl) (by kernel_rfl) ?_))))))
     refine .p rfl rfl (.fieldAddr rfl rfl rfl rfl) (.p rfl rfl (.load rfl rfl rfl (B2.cell 2)) (.p rfl rfl (.mv rfl) (.p rfl rfl (.indexAddr (s := 2) rfl rfl rfl rfl (by omega)) (.p rfl rfl (.fieldAddr rfl rfl rfl rfl) (.p rfl rfl (.load rfl rfl rfl (hcs' 0 _ rfl)) (.p rfl rfl (.fieldAddr rfl rfl rfl rfl) (.p rfl rfl (.load rfl rfl rfl (B3.cell 2)) (.p rfl rfl (.mv rfl) (.p rfl rfl (.indexAddr (s := 2) rfl rfl rfl rfl (by omega)) (.p rfl rfl (.fieldAddr rfl rfl rfl rfl) (.p rfl rfl (.load rfl rfl rfl (hcm' 0 _ rfl)) (.p rfl rfl (.ne rfl rfl) (.p rfl rfl (.mv rfl) ?_)))))))))))))
     refine .caseD 49 rfl (fun c49 => ?_) (fun c49 => ?_)
     ·refine .skip rfl rfl (.skip rfl rfl (.skip rfl rfl (.skip rfl rfl (.skip rfl rfl (.skip rfl rfl (.skip rfl rfl (.skip rfl rfl (.skip rfl rfl (.skip rfl rfl (.skip rfl rfl (.skip rfl rfl (.skip rfl rfl (.skip rfl rfl ?_)))))))))))))
      refine .skip rfl rfl (.p rfl rfl (.pickT rfl rfl) (.nil (.code (.keep [(65, _), (2, _), (3, _), (5, _)] ⟨rfl, rfl, rfl, rfl, trivial⟩ (.condT rfl (.seq (.keep [] trivial (.region ?_))))))))
      refine .p rfl rfl (.as rfl) (.nil (.code ?_))
      refine .ret _ rfl ?_
      exact ⟨by rw [decide_eq_false (fun h => c49 (by cases h; rfl))]; rfl, X3⟩
     ·refine .p rfl rfl (.fieldAddr rfl rfl rfl rfl) (.p rfl rfl (.load rfl rfl rfl (B2.cell 2)) (.p rfl rfl (.mv rfl) (.p rfl rfl (.indexAddr (s := 2) rfl rfl rfl rfl (by omega)) (.p rfl rfl (.fieldAddr rfl rfl rfl rfl) (.p rfl rfl (.load rfl rfl rfl (hcs' 1 _ rfl)) (.p rfl rfl (.bytesStr rfl (tBytes.ext0 hudl X3) rfl rfl rfl) (.p rfl rfl (.fieldAddr rfl rfl rfl rfl) (.p rfl rfl (.load rfl rfl rfl (B3.cell 2)) (.p rfl rfl (.mv rfl) (.p rfl rfl (.indexAddr (s := 2) rfl rfl rfl rfl (by omega)) (.p rfl rfl (.fieldAddr rfl rfl rfl rfl) (.p rfl rfl (.load rfl rfl rfl (hcm' 1 _ rfl)) (.p rfl rfl (.bytesStr rfl (tBytes.ext0 hudm X3) rfl rfl rfl) ?_)))))))))))))
      refine .p rfl rfl (.neS rfl rfl) (.p rfl rfl (.pickF rfl rfl) (.nil (.code (.keep [(65, _), (2, _), (3, _), (5, _)] ⟨rfl, rfl, rfl, rfl, trivial⟩ ?_))))
      refine .condD rfl (fun c65 => ?_) (fun c65 => ?_)
      ·refine .seq (.keep [] trivial (.region ?_))
       refine .p rfl rfl (.as rfl) (.nil (.code ?_))
       refine .ret _ rfl ?_
       exact ⟨by rw [decide_eq_false (fun h => c65 (by cases h; rfl))]; rfl, X3⟩
      ·refine .skip (.blk (.code (.keep [(2, _), (3, _), (5, _)] ⟨rfl, rfl, rfl, trivial⟩ (.region ?_))))
       refine .p rfl rfl (.mv rfl) (.p rfl rfl (.add rfl rfl (by omega)) (.p rfl rfl (.as rfl) (.nil ?_)))
       have c49 : aw[i].sector = bw[i].sector := Decidable.not_not.1 c49
       exact (again (i + 1) ⟨by show i + 1 ≤ _; omega, by show aw.take (i + 1) = bw.take (i + 1); rw [List.take_succ_eq_append_getElem hil, List.take_succ_eq_append_getElem him, htk, put_ext c49 (Decidable.not_not.1 c65)]⟩ (by show _ - (i + 1) < _ - i; omega)).of ⟨rfl, rfl, rfl, trivial⟩
    ·refine .exit rfl (.code (.seq (.keep [] trivial (.region ?_))))
     refine .p rfl rfl (.as rfl) (.nil (.code ?_))
     refine .ret _ rfl ?_
     obtain rfl : i = aw.length := by omega
     rw [List.take_length, hlen, List.take_length] at htk
     subst htk
     exact ⟨by rw [decide_eq_true rfl]; rfl, X3⟩
end Go.Proofs.YtpfehnopghffjaaGreatDoor
namespace Go.Proofs.YtpfehnopghffjaaGreatDoor
open Go disk
namespace disk
def largeP (d : Disk) : Prop := (40000 < d.data.length ∧ 0 < d.count ∧ d.count ≤ 4096) ∨ 600000 < d.data.length ∨ (300 < d.waits.length ∧ d.waits.length < 4090) ∨ 4200 < d.waits.length
instance (d : Disk) : Decidable (largeP d) := by unfold largeP; infer_instance
end disk
theorem Blk.inj {w : World} {b : Nat} {E E' : TypeId} {cs cs' : List Value} (h : Blk w b E cs) (h' : Blk w b E' cs') : cs = cs' := by
 obtain ⟨f1, h1, _⟩ := h.heap
 obtain ⟨f2, h2, _⟩ := h'.heap
 rw [h1] at h2
 simp only [Option.some.injEq, Obj.cells.injEq] at h2
 exact List.toArray_inj h2.1
theorem flat_at {n : Nat} {us : List Value} {j t : Nat} {u : Value} (hs : ∀ x ∈ us, x.cells.size = n) (hj : us[j]? = some u) (ht : t < n) : (flat us)[j * n + t]? = u.cells.toList[t]? := by
 have hlt : j < us.length := (List.getElem?_eq_some_iff.1 hj).1
 have hu : us[j] = u := by rw [List.getElem?_eq_getElem hlt] at hj; simpa using hj
 have h1 : (flat us).drop (j * n) = u.cells.toList ++ flat (us.drop (j + 1)) := by
  rw [← flat_drop j hs, List.drop_eq_getElem_cons hlt, flat_cons, hu]
 have h2 : u.cells.toList.length = n := by rw [Array.length_toList]; exact hs u (hu ▸ List.getElem_mem hlt)
 rw [← List.getElem?_drop, h1, List.getElem?_append_left (by omega)]
def WrB (W : World) (Q : Nat → Prop) (v : Value) (n : Nat) : Prop := (n = 0 ∧ v = .slice none 0 0) ∨ ∃ b c ds, v = .slice (some ⟨b, 0, none⟩) n c ∧ Q b ∧ Blk W b 5 ds ∧ n ≤ ds.length
section
variable {W W2 : World} {Q : Nat → Prop} {v u : Value} {n k b bw : Nat} {ds : List Value} {S : Nat → Prop} {xs : List disk.Put}
theorem WrB.put (h : WrB W Q v n) (hB : Blk W b 5 ds) (P : Go.Proofs.YtpfehnopghffjaaGreatDoor.Put W W2 b 5 (ds.set k u)) : WrB W2 Q v n := by
 rcases h with h | ⟨b1, c, ds1, rfl, hq, hB1, hn⟩
 ·exact .inl h
 ·by_cases e : b1 = b
  ·subst e
   have := hB1.inj hB
   subst this
   exact .inr ⟨b1, c, _, rfl, hq, P.blk, by simpa using hn⟩
  ·exact .inr ⟨b1, c, ds1, rfl, hq, hB1.ext P.ext e, hn⟩
theorem WrB.ext (h : WrB W Q v n) (hx : Ext S W W2) (hs : ∀ k, Q k → ¬ S k) : WrB W2 Q v n := by
 rcases h with h | ⟨b1, c, ds1, rfl, hq, hB1, hn⟩
 ·exact .inl h
 ·exact .inr ⟨b1, c, ds1, rfl, hq, hB1.ext hx (hs b1 hq), hn⟩
theorem WrB.val (h : WrB W Q v n) : ∃ a c, v = .slice a n c := by
 rcases h with ⟨rfl, rfl⟩ | ⟨b1, c, ds1, rfl, _⟩
 ·exact ⟨none, 0, rfl⟩
 ·exact ⟨_, c, rfl⟩
theorem WrB.blk {a : Option Addr} {c : Nat} (h : WrB W Q (.slice a n c) n) (hk : k < n) : ∃ b ds, a = some ⟨b, 0, none⟩ ∧ Q b ∧ Blk W b 5 ds ∧ k < ds.length := by
 rcases h with ⟨rfl, _⟩ | ⟨b1, c, ds1, e, hq, hB1, hn⟩
 ·omega
 ·cases e
  exact ⟨b1, ds1, rfl, hq, hB1, by omega⟩
theorem WrB.of {P : Nat → Prop} {l : Bs} (h : Own tByte P 5 W v l b) (hb : b < W.heap.size → Q b) : WrB W Q v l.length := by
 rcases h.pick 0 with ⟨h1, h2⟩ | h1
 ·by_cases hne : l = []
  ·subst hne
   obtain ⟨hl, ⟨_, rfl⟩ | ⟨cap, us, sp, rfl, hc, he, hB, hn⟩⟩ := h1
   ·exact .inl ⟨rfl, rfl⟩
   ·exact .inr ⟨b, cap, _, rfl, hb h2, hB, Nat.zero_le _⟩
  ·obtain ⟨cap, sp, rfl, hc, hB, hn⟩ := h1.blk hne
   exact .inr ⟨b, cap, _, rfl, hb h2, hB, by simp⟩
 ·obtain ⟨hl, ⟨rfl, rfl⟩ | ⟨cap, us, sp, rfl, hc, he, hB, hn⟩⟩ := h
  ·exact .inl ⟨rfl, rfl⟩
  ·refine .inr ⟨b, cap, _, rfl, hb hB.lt, hB, ?_⟩
   have := hc
   rw [hn]
   show l.length ≤ cap * 1
   omega
theorem WrB.mono {Q' : Nat → Prop} (h : WrB W Q v n) (hq : ∀ k, Q k → Q' k) : WrB W Q' v n := by
 rcases h with h | ⟨b1, c, ds1, rfl, h1, hB1, hn⟩
 ·exact .inl h
 ·exact .inr ⟨b1, c, ds1, rfl, hq _ h1, hB1, hn⟩
def WrD (W : World) (bw : Nat) (Q : Nat → Prop) (xs : List disk.Put) : Prop := xs = [] ∨ ∃ cs, Blk W bw 76 cs ∧ ∀ j (h : j < xs.length), j * 2 + 1 < cs.length ∧ ∃ v, cs[j * 2 + 1]? = some v ∧ WrB W Q v xs[j].data.length
theorem WrD.data (h : WrD W bw Q xs) {i : Nat} (hi : i < xs.length) : ∃ a c, W.cell? ⟨bw, i * 2 + 1, none⟩ = some (.slice a xs[i].data.length c) ∧ WrB W Q (.slice a xs[i].data.length c) xs[i].data.length := by
 rcases h with rfl | ⟨cs, hB, h⟩
 ·exact absurd hi (Nat.not_lt_zero _)
 ·obtain ⟨h1, v, h2, h3⟩ := h i hi
  obtain ⟨a, c, rfl⟩ := h3.val
  exact ⟨a, c, by rw [hB.cell]; exact h2, h3⟩
theorem WrD.of (h : Own tPutO Q 76 W v xs b) : WrD W b Q xs := by
 obtain ⟨hl, ⟨rfl, rfl⟩ | ⟨cap, us, sp, rfl, hc, he, hB, hn⟩⟩ := h
 ·exact .inl rfl
 ·refine .inr ⟨_, hB, fun j hj => ?_⟩
  have hsz := he.mem (n := 2) (fun u x h => tPutO.sz h)
  obtain ⟨u, hu, hr⟩ := he.get (List.getElem?_eq_getElem hj)
  obtain ⟨ud, rfl, hud, _⟩ := tPutO.val hr
  have hlt : j < us.length := (List.getElem?_eq_some_iff.1 hu).1
  have hfl := flat_length hsz
  refine ⟨by rw [List.length_append, hfl]; omega, ud, ?_, ?_⟩
  ·rw [List.getElem?_append_left (by rw [hfl]; omega), flat_at hsz hu (by omega)]
   rfl
  ·rcases hud with ⟨h1, rfl⟩ | ⟨b1, h1, h2, h3⟩
   ·exact .inl ⟨by rw [h1]; rfl, rfl⟩
   ·exact WrB.of h3 (fun _ => h1)
end
end Go.Proofs.YtpfehnopghffjaaGreatDoor
namespace Go.Proofs.YtpfehnopghffjaaGreatDoor
open Go disk
theorem own_all {w : World} {v : Value} {l : Bs} {b : Nat} (h : Own tByte (fun _ => False) 5 w v l b) : tBytes.rep All w v l := h.rep trivial (fun _ h _ => h.elim)
theorem refSameT_fn {w : World} {v u : Value} {a : Disk} (ha : tDisk.rep All w v a) (hb : tDisk.rep All w u a) : Fn Tryz.prog 26 [v, u] w (fun r w2 => r = .bool true ∧ Ext (fun _ => False) w w2) :=
 (refSame_fn ha hb).mono fun r w2 ⟨h1, h2⟩ => ⟨h1.trans (by rw [decide_eq_true rfl]), h2⟩
theorem tDisk.shape {P : Nat → Prop} {w : World} {v : Value} {d : Disk} (h : tDisk.rep P w v d) : ∃ a1 c1 a2 c2, v = .agg #[i64 d.count, .slice a1 d.data.length c1, .slice a2 d.waits.length c2] := by
 obtain ⟨u, u', rfl, hd, hw, _⟩ := tDisk.val h
 obtain ⟨a, cap, rfl, _⟩ := Sl.val hd
 obtain ⟨aw, capw, rfl, _⟩ := Sl.val hw
 exact ⟨_, _, _, _, rfl⟩
end Go.Proofs.YtpfehnopghffjaaGreatDoor
namespace Go.Proofs.YtpfehnopghffjaaGreatDoor
open Go disk
namespace disk
theorem asked_of {d : Disk} {n : Int} (h : checkF d = 0) (h1 : 0 ≤ n) (h2 : n < d.count) : askedF d n = 0 := by
 unfold askedF
 rw [if_neg (by simp [h]), if_neg (by omega)]
def D0 : Disk := ⟨2, List.replicate 256 0, []⟩
def D1 : Disk := ⟨2, List.replicate 256 0, [⟨1, List.replicate 128 1⟩]⟩
end disk
end Go.Proofs.YtpfehnopghffjaaGreatDoor
namespace Go.Proofs.YtpfehnopghffjaaGreatDoor
open Go disk
theorem Read0_fn {w : World} {v : Value} {d : Disk} {n : Int} (h : tDisk.rep All w v d) (hA : askedF d n = 0) : Fn Tryz.prog 69 [v, i64 n] w (fun r w2 => ∃ s, r = .tuple #[s, i64 0] ∧ tBytes.rep All w2 s (readF d n) ∧ Ext (fun _ => False) w w2) :=
 (DiskRead_fn (n := n) h).mono fun r w2 ⟨s, b, h1, h2, _, h3⟩ => ⟨s, by rw [h1, hA], by rw [if_pos hA] at h2; exact own_all h2, h3⟩
end Go.Proofs.YtpfehnopghffjaaGreatDoor
namespace Go.Proofs.YtpfehnopghffjaaGreatDoor
open Go
def Fr.off (F : Fr) (d : Deferred) : Fr := ⟨F.P, ⟨F.z.n, d :: F.z.D⟩, F.R⟩
theorem post_off (F : Fr) (d : Deferred) : ∀ k : List It, post (F.off d) k = post F k
 | [] => rfl
 | .code c :: k => by simp only [post, post_off F d k]; rfl
 | .blk id :: k => by simp only [post, post_off F d k]
 | .inv J :: k => by simp only [post, post_off F d k]
 | .sco :: k => by simp only [post, post_off F d k]
section
variable {F : Fr} {e : Env} {k : List It} {w : World} {all rest : List Oper} {d : Nat} {op : Op} {ty : TypeId} {pos : String} {af : Array Edge} {g : Option (Nat × Bool)}
theorem O.defer {c : Operand} {f : FuncId} {xs : List Operand} {ats : Array TypeId} {vs captured : List Value} (hg : gd e all g = some true)
  (hf : look e c = some (.func (.func f) #[] captured.toArray)) (hx : xs.mapM (look e) = some vs)
  (next : O (F.off ⟨.fn (.func f) captured.toArray, vs.toArray⟩) e all rest k w) :
  O F e all (⟨none, .defer { callee := .value c, args := xs.toArray, argTypes := ats }, ty, pos, af, g⟩ :: rest) k w := by
 intro w' hw a ha
 refine wpList_step fun K hK => ?_
 rw [if_pos (gd_wanted ha hg)]
 unfold Oper.wp
 have hr : (execOp a.eval ⟨none, .defer { callee := .value c, args := xs.toArray, argTypes := ats }, ty, pos, af, g⟩).run F.P w' = .ok (.defer ⟨.fn (.func f) captured.toArray, vs.toArray⟩) w' := by
  have h1 := ha.ev hf
  have h2 := look_args (fun x u hx => ha.ev hx) xs vs hx
  simp [execOp, resolve, Deferred.ofValue, h1, h2, Sem.run_bind]
 rw [hr, Oper.upon_defer]
 refine hK _ _ ?_
 have := next w' hw { a with defers := ⟨.fn (.func f) captured.toArray, vs.toArray⟩ :: a.defers } ⟨by show _ :: a.defers = _; rw [ha.1]; rfl, ha.2.1, ha.2.2⟩
 rw [post_off] at this
 exact this
end
def FnD (P : Program) (f : FuncId) (args : List Value) (w : World) (Post : Value → World → Prop) : Prop :=
 (∀ w', (callFunc f args.toArray).run P w' = .ok (.enter f args.toArray) w') ∧ ∀ w', Same w w' → ∀ u, CallsD P f args.toArray u w' (fun e u' w2 => u' = u ∧ Ret Post e w2)
theorem FnD.enter {P : Program} {f : FuncId} {fn : Func} {c : Code} {args : List Value} {w : World} {Post : Value → World → Prop}
  (hc : ∀ w', (callFunc f args.toArray).run P w' = .ok (.enter f args.toArray) w') (hf : P.funcs[f]? = some fn) (hb : fn.body = some c)
  (h : G ⟨P, ⟨fn.ntmps, []⟩, bodyPost P fn (Ret Post)⟩ (argEnv 0 args) c [] w) : FnD P f args w Post := by
 refine ⟨hc, fun w' hw u => callsD_of_wp hf hb (h w' hw _ ⟨rfl, ?_, ?_⟩)⟩
 ·simp; omega
 ·intro t v ht
  obtain ⟨_, h2⟩ := argEnv_get args 0 t v ht
  simp only [Nat.sub_zero] at h2
  have hlt : t < args.length := (List.getElem?_eq_some_iff.1 h2).1
  rw [Array.getD_eq_getD_getElem?, Array.getElem?_append_left (by simpa using hlt)]
  simp [h2]
theorem Fn.enterD {P : Program} {f : FuncId} {fn : Func} {c : Code} {args : List Value} {w : World} {Post : Value → World → Prop}
  (hc : ∀ w', (callFunc f args.toArray).run P w' = .ok (.enter f args.toArray) w') (hf : P.funcs[f]? = some fn) (hb : fn.body = some c)
  (h : G ⟨P, ⟨fn.ntmps, []⟩, bodyPostD P fn (Ret Post)⟩ (argEnv 0 args) c [] w) : Fn P f args w Post := by
 refine ⟨hc, fun w' hw => calls_of_wp_defers hf hb (h w' hw _ ⟨rfl, ?_, ?_⟩)⟩
 ·simp; omega
 ·intro t v ht
  obtain ⟨_, h2⟩ := argEnv_get args 0 t v ht
  simp only [Nat.sub_zero] at h2
  have hlt : t < args.length := (List.getElem?_eq_some_iff.1 h2).1
  rw [Array.getD_eq_getD_getElem?, Array.getElem?_append_left (by simpa using hlt)]
  simp [h2]
inductive ResC (P : Program) (e : Env) (w : World) : List ResultVar → List Value → Prop where
 | nil : ResC P e w [] []
 | tmp {t : Nat} {v : Value} {r : List ResultVar} {vs : List Value} : e.get t = some v → ResC P e w r vs → ResC P e w (.tmp t :: r) (v :: vs)
 | cell {a : Nat} {p : Addr} {v : Value} {T : TypeId} {d : TypeDesc} {r : List ResultVar} {vs : List Value} : e.get a = some (.pointer (some p)) → P.underlying T = some d → aggD d = false → w.cell? p = some v → ResC P e w r vs →
   ResC P e w (.cell a T :: r) (v :: vs)
theorem ResC.run {P : Program} {e : Env} {w w' : World} {n : Sz} {a : Act} (hw : Same w w') (ha : ∀ t v, e.get t = some v → a.tmps.getD t undef = v) (f : ResultVar → Sem Value) (hf : ∀ t, f (.tmp t) = pure (a.tmps.getD t undef)) (hc : ∀ c T, f (.cell c T) = (do loadVar T (← asAddr (a.tmps.getD c undef)))) {l : List ResultVar} {vs : List Value} (h : ResC P e w l vs) :
  (l.mapM f).run P w' = .ok vs w' := by
 induction h with
 | nil => rfl
 | tmp h1 _ ih =>
  have := ha _ _ h1
  simp [List.mapM_cons, hf, this, ih]
 | cell h1 hT hd hcs _ ih =>
  have := ha _ _ h1
  have hl := (hw.cell _).trans hcs
  simp [List.mapM_cons, hc, this, ih, asAddr, loadVar, isAgg_run hT, hd, hl]
theorem results_c {P : Program} {e : Env} {w w' : World} {a : Act} {fn : Func} {vs : List Value} (hw : Same w w') (ha : ∀ t v, e.get t = some v → a.tmps.getD t undef = v) (h : ResC P e w fn.results.toList vs) : (results fn a.tmps).run P w' = .ok (outV vs) w' := by
 unfold results
 rw [Sem.run_bind, Array.mapM_eq_mapM_toList]
 rw [Sem.run_map, h.run (n := ⟨0, []⟩) hw ha _ (fun t => by rfl) (fun c T => by rfl)]
 simp only [Result.andThen_ok]
 match vs with
 | [] => rfl
 | [v] => rfl
 | v :: u :: r => simp [outV]
theorem G.retD {P : Program} {fn : Func} {n : Nat} {Post Mid : Value → World → Prop} {e : Env} {k : List It} {w : World} {f : FuncId} {captured args : List Value}
  (hd : FnD P f (args ++ captured) w Mid) (hp : ∀ r w2, Mid r w2 → ∃ vs, ResC P e w2 fn.results.toList vs ∧ Post (outV vs) w2) : G ⟨P, ⟨n, [⟨.fn (.func f) captured.toArray, args.toArray⟩]⟩, bodyPostD P fn (Ret Post)⟩ e .ret k w := by
 intro w' hw a ha
 refine wp_ret (post_ret k a w' ?_)
 show Leaves P fn a.tmps (Ret Post) a.defers .returning w'
 rw [ha.1]
 refine leaves_cons (f := f) (args := (args ++ captured).toArray) (by intro h; cases h) ?_ ?_
 ·have := hd.1 w'
  simpa [invoke] using this
 ·refine (hd.2 w' hw .returning).mono ?_
  rintro en u' w3 ⟨rfl, r, w2, hs, rfl, hm⟩
  obtain ⟨vs, hv, hpo⟩ := hp r w2 hm
  show Leaves P fn a.tmps (Ret Post) [] (settle .returning) w3
  exact ⟨_, results_c hs ha.2.2 hv, _, w2, hs, rfl, hpo⟩
end Go.Proofs.YtpfehnopghffjaaGreatDoor
namespace Go.Proofs.YtpfehnopghffjaaGreatDoor
open Go
theorem OwnO.ofOwn {α : Type} {t : Ty α} {Q B : Nat → Prop} {E : TypeId} {w : World} {v : Value} {xs : List α} {b : Nat} (h : Own t Q E w v xs b) (hb : b < w.heap.size → B b) : OwnO t Q E w v xs B := by
 have h' := h
 obtain ⟨hl, ⟨rfl, rfl⟩ | ⟨cap, us, sp, rfl, hc, he, hB, hn⟩⟩ := h'
 ·exact .inl ⟨rfl, rfl⟩
 ·exact .inr ⟨b, hb hB.lt, hB.lt, h⟩
theorem OwnO.lim {α : Type} {t : Ty α} {Q B : Nat → Prop} {E : TypeId} {w : World} {v : Value} {xs : List α} (h : OwnO t Q E w v xs B) : xs.length < Lim := by
 rcases h with ⟨rfl, _⟩ | ⟨b, _, _, h⟩
 ·show 0 < Lim; decide
 ·exact h.lim
section
variable {P : Program} {e : Env} {w : World} {x y : Operand} {T T' E : TypeId} {v u : Value} {α : Type} {t : Ty α} {Q : Nat → Prop} {xs ys : List α} {B : Nat → Prop}
theorem DoV.appendLo {i : TypeInfo} {z : Value} {eb : Nat} (hx : look e x = some v) (hv : OwnO t Q E w v xs B) (hlo : ∀ k, w.heap.size ≤ k → B k) (hy : look e y = some u) (hu : (∃ a cap, u = .slice a 0 cap ∧ ys = []) ∨ Holds t Q w u ys)
  (hT : P.underlying T = some (.slice E)) (hT' : P.underlying T' = some (.slice E)) (hi : P.info? E = some i) (hz : i.zero = some z) (hs : i.size = t.size) (hzs : z.cells.size = t.size) (hby : i.bytes = eb) (hlim : (xs.length + ys.length) * eb ≤ 140737488355328) (hlen : xs.length + ys.length < Lim) (hq : ∀ k, Q k → k < w.heap.size → ¬ B k) :
  DoV P e (.call { callee := .builtin .append, args := #[x, y], argTypes := #[T, T'] }) w (fun r w2 => OwnO t Q E w2 r (xs ++ ys) B ∧ Ext B w w2) := by
 have key : ∀ b, B b → Own t Q E w v xs b → DoV P e (.call { callee := .builtin .append, args := #[x, y], argTypes := #[T, T'] }) w (fun r w2 => OwnO t Q E w2 r (xs ++ ys) B ∧ Ext B w w2) := by
  intro b hb hO w' hw ρ hρ o ho
  obtain ⟨r, w2, w3, h1, h2, b', h3, h4, h5⟩ := DoV.append (P := P) hx hO hy hu hT hT' hi hz hs hzs hby hlim hlen (fun k hk hlt he => hq k hk hlt (he ▸ hb)) w' hw ρ hρ o ho
  exact ⟨r, w2, w3, h1, h2, OwnO.ofOwn (h3.mono (fun k hk _ => hk.1)) (fun _ => h5.elim (fun e => by rw [e]; exact hb) (fun e => by rw [e]; exact hlo _ (Nat.le_refl _))), h4.mono (fun k _ hk => by rw [hk]; exact hb)⟩
 rcases hv with ⟨rfl, rfl⟩ | ⟨b, hb, _, hO⟩
 ·exact key w.heap.size (hlo _ (Nat.le_refl _)) Own.nil
 ·exact key b hb hO
theorem DoV.appendSLo {i : TypeInfo} {z : Value} {bx l : Bs} (hx : look e x = some v) (hv : OwnO tByte Q E w v bx B) (hlo : ∀ k, w.heap.size ≤ k → B k) (hy : look e y = some (str l))
  (hT : P.underlying T = some (.slice E)) (hT' : P.underlying T' = some .string) (hi : P.info? E = some i) (hz : i.zero = some z) (hs : i.size = 1) (hzs : z.cells.size = 1) (hby : i.bytes = 1) (hlen : bx.length + l.length < Lim) (hq : ∀ k, Q k → k < w.heap.size → ¬ B k) :
  DoV P e (.call { callee := .builtin .append, args := #[x, y], argTypes := #[T, T'] }) w (fun r w2 => OwnO tByte Q E w2 r (bx ++ l) B ∧ Ext B w w2) := by
 have key : ∀ b, B b → Own tByte Q E w v bx b → DoV P e (.call { callee := .builtin .append, args := #[x, y], argTypes := #[T, T'] }) w (fun r w2 => OwnO tByte Q E w2 r (bx ++ l) B ∧ Ext B w w2) := by
  intro b hb hO w' hw ρ hρ o ho
  obtain ⟨r, w2, w3, h1, h2, b', h3, h4, h5⟩ := DoV.appendS (P := P) hx hO hy hT hT' hi hz hs hzs hby hlen (fun k hk hlt he => hq k hk hlt (he ▸ hb)) w' hw ρ hρ o ho
  exact ⟨r, w2, w3, h1, h2, OwnO.ofOwn (h3.mono (fun k hk _ => hk.1)) (fun _ => h5.elim (fun e => by rw [e]; exact hb) (fun e => by rw [e]; exact hlo _ (Nat.le_refl _))), h4.mono (fun k _ hk => by rw [hk]; exact hb)⟩
 rcases hv with ⟨rfl, rfl⟩ | ⟨b, hb, _, hO⟩
 ·exact key w.heap.size (hlo _ (Nat.le_refl _)) Own.nil
 ·exact key b hb hO
end
abbrev Gr (w : World) (v : Value) (l : Bs) (lo : Nat) : Prop := OwnO tByte (fun _ => False) 5 w v l (fun k => lo ≤ k)
theorem Gr.rep {w : World} {v : Value} {l : Bs} {lo : Nat} (h : Gr w v l lo) : tBytes.rep All w v l := OwnO.rep h (fun _ _ _ => trivial) (fun _ h _ => h.elim)
theorem Gr.rep' {w : World} {v : Value} {l : Bs} {lo : Nat} (h : Gr w v l lo) : tBytes.rep (fun k => lo ≤ k ∧ k < w.heap.size) w v l := OwnO.rep h (fun _ h1 h2 => ⟨h1, h2⟩) (fun _ h _ => h.elim)
theorem Gr.low {w : World} {v : Value} {l : Bs} {lo lo' : Nat} (h : Gr w v l lo) (hl : lo' ≤ lo) : Gr w v l lo' := OwnO.mono h (fun _ h _ => h) (fun k h _ => Nat.le_trans hl h)
theorem Gr.ext0 {w w' : World} {v : Value} {l : Bs} {lo : Nat} (h : Gr w v l lo) (hx : Ext (fun _ => False) w w') : Gr w' v l lo := OwnO.ext0 h hx
theorem Gr.holds {w : World} {v : Value} {l : Bs} {P : Nat → Prop} (h : tBytes.rep P w v l) : (∃ a cap, v = .slice a 0 cap ∧ l = []) ∨ Holds tByte (fun _ => False) w v l := Sl.holds h (fun _ _ h => h)
theorem Ev.cut3 {P : Program} {e : Env} {w : World} {x lo hi mx : Operand} {T E : TypeId} {a : Option Addr} {n cap s : Nat} {k k' k2 : IntKind} {l h m : Int} (hx : look e x = some (.slice a n cap)) (hl : look e lo = some (.int k l)) (hh : look e hi = some (.int k' h)) (hm : look e mx = some (.int k2 m)) (hT : P.underlying T = some (.slice E)) (hs : sizeIs P E s)
  (hb : 0 ≤ l ∧ l ≤ h ∧ h ≤ m ∧ m ≤ cap) : Ev P e (.slice T x (some lo) (some hi) (some mx)) w (cutV s a m.toNat l.toNat h.toNat) :=
 fun w' hw ρ hρ op ho => by
  have h1 : 0 ≤ h := by omega
  have h2 : ((h.toNat : Nat) : Int) = h := Int.toNat_of_nonneg h1
  have h3 : 0 ≤ m := by omega
  have h4 : ((m.toNat : Nat) : Int) = m := Int.toNat_of_nonneg h3
  simp [execOp, ho, hρ _ _ hx, hρ _ _ hl, hρ _ _ hh, hρ _ _ hm, Instr.sliceAt, Instr.slice, run_underlying hT, Instr.sliceBounds, run_sliceBound, hb.1, hb.2.1, hb.2.2.1, hb.2.2.2, h1, h2, h3, h4, hs.run, cutV]
theorem Ev.add8 {P : Program} {e : Env} {w : World} {x y : Operand} {T T' : TypeId} {a b : UInt8} (hx : look e x = some (u8 a)) (hy : look e y = some (u8 b)) : Ev P e (.binOp .add T x y T') w (u8 (a + b)) :=
 fun w' _ ρ hρ o ho => by
  have h : IntKind.u8.wrap ((a.toNat : Int) + (b.toNat : Int)) = ((a + b).toNat : Int) := by
   rw [IntKind.wrap_u8, UInt8.toNat_add]
   omega
  simp [execOp, ho, hρ _ _ hx, hρ _ _ hy, eqGuard, binOp, Op.intArith]
  exact h
end Go.Proofs.YtpfehnopghffjaaGreatDoor
namespace Go.Proofs.YtpfehnopghffjaaGreatDoor
open Go
theorem rowsIn_of {P : Program} {row : String} {args : Array Value} {w : World} {R : Value → World → Prop} {l n : Nat} (h : Rows P row args w R) : RowsIn (Fence.wide.inRound l) n P row args w R :=
 fun c cs _ => let ⟨v, w', r, s⟩ := h c cs; ⟨v, w', r, (stepsIn_wide (P := P)).2 s⟩
theorem operIn_of {P : Program} {o : Oper} {a : Act} {w : World} {K K' : Act → World → Prop} {Q : Exit → Act → World → Prop} {l n : Nat} (hnd : ∀ c, o.op ≠ .defer c) (hk : ∀ a w, K a w → K' a w) (h : o.wp P a w K Q) : o.wpIn (Fence.wide.inRound l) n P a w K' Q := by
 refine ⟨fun _ _ => trivial, ?_⟩
 show o.uponIn _ n P a K' Q ((o.semAt (some l) a.eval).run P w)
 rw [Oper.semAt_eq _ _ _ hnd]
 unfold Oper.wp at h
 generalize (execOp a.eval o).run P w = r at h
 cases r with
 | ok x w' =>
  cases x with
  | value v => exact hk _ _ h
  | skip => exact hk _ _ h
  | defer d => exact hk _ _ h
  | enter f args =>
   rw [Oper.upon_enter] at h
   refine ⟨(fun h => by cases h), CallsIn.inRound l (callsIn_wide.2 (Calls.mono h ?_))⟩
   intro e w'' he
   cases e with
   | returned v => exact hk _ _ he
   | panicked c => exact he
   | outgrown => exact he
  | row r args =>
   rw [Oper.upon_row] at h
   exact ⟨(fun h => by cases h), rowsIn_of (Rows.mono h (fun v w'' he => hk _ _ he))⟩
  | _ => exact (h : False).elim
 | halt x w' => cases x <;> simp only [Oper.upon] at h <;> simp only [Oper.uponIn] <;> exact h
theorem opsIn_of {P : Program} {ops : Array Oper} {Q : Exit → Act → World → Prop} {l n : Nat} (hno : ¬ LetsOut Q) (hnd : ∀ o ∈ ops.toList, ∀ c, o.op ≠ .defer c) :
  ∀ (is : List Nat) (a : Act) (w : World), wpOps P ops Q is a w → wpOpsIn (Fence.wide.inRound l) n P ops Q is a w
 | [], _, _, h => h
 | i :: rest, a, w, h => by
  simp only [wpOps] at h
  simp only [wpOpsIn]
  cases ho : ops[i]? with
  | none => simp only [ho] at h; exact opsIn_of hno hnd rest a w h
  | some o =>
   simp only [ho] at h
   have hm : o ∈ ops.toList := by
    have := Array.getElem?_toList (xs := ops) (i := i)
    rw [ho] at this
    exact List.mem_of_getElem? this
   by_cases hw : Region.wanted o (yielded ops a.tmps) = true
   ·simp only [hw, if_true] at h ⊢
    rcases h with h | h
    ·exact operIn_of (hnd o hm) (opsIn_of hno hnd rest) h
    ·exact absurd h.2 hno
   ·simp only [hw, Bool.false_eq_true, if_false] at h ⊢
    exact ⟨fun _ _ => trivial, opsIn_of hno hnd rest _ w h⟩
def noDefer (l : List Oper) : Bool := l.all (fun o => match o.op with | .defer _ => false | _ => true)
theorem noDefer_of {l : List Oper} (h : noDefer l = true) : ∀ o ∈ l, ∀ c, o.op ≠ .defer c := by
 intro o ho c he
 have := List.all_eq_true.1 h o ho
 rw [he] at this
 cases this
section
variable {F : Fr} {e : Env} {w : World}
theorem roundRegion {id l n : Nat} {ops : List Oper} (hno : ¬ LetsOut F.R) (hd : noDefer ops = true) (h : O F e ops ops [] w) {w' : World} (hw : Same w w') {a : Act} (ha : Ag F.z e a) : (Code.region id ops.toArray false).wpIn (Fence.wide.inRound l) n F.P F.R a w' := by
 have h1 := h w' hw a ha
 refine wpIn_region (opsIn_of hno (by simpa using noDefer_of hd) _ _ _ ?_)
 rw [List.range_eq_range', ← Array.length_toList, wpOps_eq_wpList ops.toArray.toList 0 (by simp)]
 have h2 : wpList F.P ops.toArray F.R ops a w' := h1
 simpa using h2
theorem roundMix {id l n : Nat} {ops : List Oper} (S : Nat → Prop) (al : List Nat) (hm : F.P.follows .mixedOrders = true) (hB : Region.lexB .any ops.toArray = true) (hA : actB .any ops.toArray (fun j => al.contains j) = true)
  (hno : ¬ LetsOut F.R) (hd : noDefer ops = true) (h : M F S w al e ops 0 ops [] w) {w' : World} (hw : Same w w') {a : Act} (ha : Ag F.z e a) : (Code.region id ops.toArray true).wpIn (Fence.wide.inRound l) n F.P F.R a w' := by
 refine wpIn_region_draw fun t => opsIn_of hno (by simpa using noDefer_of hd) _ _ _ ?_
 simp only [Region.schedule, hm, Bool.true_or, if_true]
 refine wpAny_sound _ t _ a _ ?_
 simp only [Region.lexB, Bool.and_eq_true] at hB
 refine wpAny_of_M (C := Ext S w) (act := fun j => al.contains j) (Q := fun a' w' => F.R .normal a' w') (fun _ _ h => h) _ _ _ _ ?_
 have := wpAnyM_lex (C := Ext S w) (md := .any) hB.1 hA ops.toArray.toList 0 (Array.replicate ops.toArray.size false) a _ (by simp) (.inl (.same (hw.trans (same_draw w')))) ⟨by simp, fun j oj hj hl => by rw [getD_replicate_false] at hl; cases hl⟩ (by simpa using hB.2) (show wpMix F.P .any ops.toArray (Ext S w) (fun j => al.contains j) (fun a' w2 => F.R .normal a' w2) ops.toArray.toList 0 a w'.drew from h (.refl _) _ (hw.trans (same_draw w')) a ha)
 simpa using this
end
def OI (F : Fr) (e : Env) (all ops : List Oper) (k : List It) (w : World) : Prop := ∀ w', Same w w' → ∀ a, Ag F.z e a → wpListIn Fence.wide 0 F.P all.toArray (post F k) ops a w'
section
variable {F : Fr} {e : Env} {k : List It} {w : World} {all rest : List Oper} {d : Nat} {op : Op} {ty : TypeId} {pos : String} {af : Array Edge} {g : Option (Nat × Bool)}
theorem G.regionI {id : Nat} {l : List Oper} (h : OI F e l l k w) : G F e (.region id l.toArray false) k w := fun w' hw a ha => wpIn_wide.1 (wpIn_region_lit (h w' hw a ha))
theorem OI.nil (h : A F e k w) : OI F e all [] k w := fun w' hw a ha => h w' hw a ha
theorem OI.p {v : Value} (hd : Nat.blt d F.n = true) (hg : gd e all g = some true) (h : Ev F.P e op w v) (next : OI F ((d, v) :: e) all rest k w) : OI F e all (⟨some d, op, ty, pos, af, g⟩ :: rest) k w := by
 intro w' hw a ha
 refine wpListIn_step fun K hK => ?_
 rw [if_pos (gd_wanted ha hg)]
 refine ⟨fun _ _ => trivial, ?_⟩
 show Oper.uponIn _ 0 _ _ a _ _ ((Oper.semAt none a.eval _).run F.P w')
 rw [Oper.semAt_none, h w' (.same hw) a.eval (fun x u hx => ha.ev hx) _ rfl]
 exact hK _ _ (next w' hw _ (ha.put hd v))
theorem OI.yield {c : Operand} {l : Nat} {xs : List Operand} {ats : Array TypeId} {vs : List Value} {Post : Bool → World → Prop} (hd : Nat.blt d F.n = true) (hg : gd e all g = some true)
  (hf : look e c = some (.func (.yield l) #[] #[])) (hx : xs.mapM (look e) = some vs)
  (hc : ∀ w', Same w w' → YieldAt Fence.wide 0 F.P l vs.toArray w' (fun en w3 => ∃ b w2, Same w2 w3 ∧ en = .returned (.bool b) ∧ Post b w2))
  (next : ∀ b w2, Post b w2 → OI F ((d, .bool b) :: e) all rest k w2) :
  OI F e all (⟨some d, .call { callee := .value c, args := xs.toArray, argTypes := ats }, ty, pos, af, g⟩ :: rest) k w := by
 intro w' hw a ha
 refine wpListIn_step fun K hK => ?_
 rw [if_pos (gd_wanted ha hg)]
 refine ⟨fun _ _ => trivial, ?_⟩
 show Oper.uponIn _ 0 _ _ a _ _ ((Oper.semAt none a.eval _).run F.P w')
 rw [Oper.semAt_none]
 obtain ⟨fn, tmps, asg, body, hy, hR⟩ := hc w' hw
 have h1 := ha.ev hf
 have h2 := look_args (fun x u hx => ha.ev hx) xs vs hx
 have hr : (execOp a.eval ⟨some d, .call { callee := .value c, args := xs.toArray, argTypes := ats }, ty, pos, af, g⟩).run F.P w' = (Instr.yield l vs.toArray).run F.P w' := by
  simp [execOp, resolve, Deferred.ofValue, h1, h2, invoke, Sem.run_bind]
 rw [hr, hy, Oper.uponIn_round]
 refine ⟨(fun h => by cases h), hR.mono ?_⟩
 rintro en w3 ⟨b, w2, hs, rfl, hp⟩
 exact hK _ _ (next b w2 hp w3 hs _ (ha.put hd (.bool b)))
end
def recOf (fn : FuncId) (tmps : Array Value) (ps : Array Tmp) (assign body : Code) (D : Nat) (st : LoopState) : Obj := .loop { state := st, pending := none, fn, tmps, params := ps, assign, body, defers := D }
def Between (fn : FuncId) (tmps : Array Value) (ps : Array Tmp) (assign body : Code) (D : Nat) (J : World → Prop) (W : World) : Prop :=
 ∃ W0, Same W0 W ∧ W0.heap[D + 1]? = some (recOf fn tmps ps assign body D .ready) ∧ W0.heap[D]? = some (.deferred (some [])) ∧ J W0
theorem Same.putObj {w w' : World} (h : Same w w') (r : Nat) (o : Obj) : Same (w.putObj r o) (w'.putObj r o) := ⟨by simp [World.putObj, h.heap], h.os, h.tape, h.output⟩
theorem Same.at {w w' : World} (h : Same w w') (k : Nat) : w'.heap[k]? = w.heap[k]? := by rw [h.heap]
theorem Ext.putObj {S : Nat → Prop} (w : World) {r : Nat} (hr : S r) (o : Obj) : Ext S w (w.putObj r o) :=
 ⟨rfl, rfl, rfl, by simp, fun k hk hs => World.putObj_heap_other (fun e => hs (e ▸ hr))⟩
theorem yield_round {F : Fence} {P : Program} {fn : FuncId} {tmps : Array Value} {ps : Array Tmp} {assign body : Code} {D : Nat} {args : Array Value} {J J' : World → Prop} {W : World}
  (hF : F = Fence.wide) (hb : Between fn tmps ps assign body D J W) (hs : args.size = ps.size)
  (hbody : ∀ W0 W', Same W0 W' → W0.heap[D + 1]? = some (recOf fn tmps ps assign body D .ready) → W0.heap[D]? = some (.deferred (some [])) → J W0 →
   assign.wpIn (Fence.wide.inRound (D + 1)) 0 P (Exit.then (fun a₁ w₁ => Same W0 w₁ ∧ ∀ W2, Same (W0.putObj (D + 1) (recOf fn tmps ps assign body D .busy)) W2 →
    body.wpIn (Fence.wide.inRound (D + 1)) 0 P (fun ex _ w3 => ex = .normal ∧ ∃ W3, Same W3 w3 ∧ W3.heap[D + 1]? = some (recOf fn tmps ps assign body D .busy) ∧ W3.heap[D]? = some (.deferred (some [])) ∧ J' (W3.putObj (D + 1) (recOf fn tmps ps assign body D .ready))) a₁ W2) (fun _ _ _ => False))
    { tmps := (ps.zip args).foldl (fun t (p, v) => t.setIfInBounds p v) tmps, defers := [] } W') :
  YieldAt Fence.wide 0 P (D + 1) args W (fun en w3 => en = .returned (.bool true) ∧ Between fn tmps ps assign body D J' w3) := by
 obtain ⟨W0, hW, hl, hk, hJ⟩ := hb
 have hl' : W.heap[D + 1]? = some (recOf fn tmps ps assign body D .ready) := (hW.at _).trans hl
 refine ⟨fn, _, assign, body, run_yield (P := P) hl' hs, roundIn_of_wpIn trivial (wpIn_mono (hbody W0 W hW hl hk hJ) ?_)⟩
 rintro ex a₁ w₁ hq
 cases ex with
 | normal =>
  obtain ⟨hs1, hq⟩ := hq
  refine ⟨_, run_beginRound ((hs1.at _).trans hl) rfl, wpIn_mono (hq _ (hs1.putObj _ _)) ?_⟩
  rintro ex a3 w3 ⟨rfl, W3, hs3, hl3, hk3, hJ3⟩
  have hl3' : w3.heap[D + 1]? = some (recOf fn tmps ps assign body D .busy) := (hs3.at _).trans hl3
  refine ⟨_, _, run_endRound none hl3', rfl, _, hs3.putObj _ _, World.putObj_heap_same (Array.getElem?_eq_some_iff.1 hl3).1, (World.putObj_heap_other (by omega)).trans hk3, hJ3⟩
 | exit _ => exact hq.elim
 | goto _ => exact hq.elim
 | ret => exact hq.elim
 | panic _ => exact hq.elim
 | outgrown => exact hq.elim
theorem Between.blk {fn : FuncId} {tmps : Array Value} {ps : Array Tmp} {assign body : Code} {D : Nat} {J : World → Prop} {W : World} {b : Nat} {E : TypeId} {cs : List Value} (h : Between fn tmps ps assign body D J W) (hJ : ∀ W, J W → Blk W b E cs) : Blk W b E cs := by
 obtain ⟨W0, hs, _, _, h0⟩ := h
 exact (hJ W0 h0).keep (by rw [hs.heap])
theorem Between.same {fn : FuncId} {tmps : Array Value} {ps : Array Tmp} {assign body : Code} {D : Nat} {J : World → Prop} {W W' : World} (h : Between fn tmps ps assign body D J W) (hs : Same W W') : Between fn tmps ps assign body D J W' := by
 obtain ⟨W0, hs0, h1, h2, h3⟩ := h
 exact ⟨W0, hs0.trans hs, h1, h2, h3⟩
theorem yield_mix {P : Program} {n D p : Nat} {e : Env} {fn : FuncId} {tmps : Array Value} {v : Value} {i1 i2 bid : Nat} {ops1 ops2 : List Oper} {J J' : World → Prop} {W : World} (hag : Ag ⟨n, []⟩ e ⟨tmps, []⟩) (hp : Nat.blt p n = true)
  (hb : Between fn tmps #[p] (.region i1 ops1.toArray false) (.block bid (.region i2 ops2.toArray true)) D J W)
  (hm : P.follows .mixedOrders = true) (al : List Nat) (hB : Region.lexB .any ops2.toArray = true) (hA : actB .any ops2.toArray (fun j => al.contains j) = true) (hd1 : noDefer ops1 = true) (hd2 : noDefer ops2 = true) (S : World → Nat → Prop) {e1 : Env}
  (h1 : ∀ W0 R, A ⟨P, ⟨n, []⟩, R⟩ e1 [] W0 → O ⟨P, ⟨n, []⟩, R⟩ ((p, v) :: e) ops1 ops1 [] W0)
  (h2 : ∀ W0 W1 R, W0.heap[D + 1]? = some (recOf fn tmps #[p] (.region i1 ops1.toArray false) (.block bid (.region i2 ops2.toArray true)) D .ready) → W0.heap[D]? = some (.deferred (some [])) → J W0 → W1 = W0.putObj (D + 1) (recOf fn tmps #[p] (.region i1 ops1.toArray false) (.block bid (.region i2 ops2.toArray true)) D .busy) →
   W1.heap[D + 1]? = some (recOf fn tmps #[p] (.region i1 ops1.toArray false) (.block bid (.region i2 ops2.toArray true)) D .busy) → W1.heap[D]? = some (.deferred (some [])) →
   (∀ e2 W3, W3.heap[D + 1]? = some (recOf fn tmps #[p] (.region i1 ops1.toArray false) (.block bid (.region i2 ops2.toArray true)) D .busy) → W3.heap[D]? = some (.deferred (some [])) → J' (W3.putObj (D + 1) (recOf fn tmps #[p] (.region i1 ops1.toArray false) (.block bid (.region i2 ops2.toArray true)) D .ready)) → A ⟨P, ⟨n, []⟩, R⟩ e2 [] W3) →
   M ⟨P, ⟨n, []⟩, R⟩ (S W1) W1 al e1 ops2 0 ops2 [] W1) :
  YieldAt Fence.wide 0 P (D + 1) #[v] W (fun en w3 => en = .returned (.bool true) ∧ Between fn tmps #[p] (.region i1 ops1.toArray false) (.block bid (.region i2 ops2.toArray true)) D J' w3) := by
 refine yield_round rfl hb rfl ?_
 intro W0 W' hs hl hk hJ
 have hag2 : Ag ⟨n, []⟩ ((p, v) :: e) ⟨(#[p].zip #[v]).foldl (fun t (q : Nat × Value) => t.setIfInBounds q.1 q.2) tmps, []⟩ := by
  have := hag.put hp v
  simpa [Act.put] using this
 refine roundRegion (F := ⟨P, ⟨n, []⟩, _⟩) (e := (p, v) :: e) (w := W0) ?_ hd1 (h1 W0 _ ?_) hs hag2
 ·rintro ⟨a, w, h⟩; exact h
 intro w1 hs1 a1 ha1
 refine ⟨hs1, fun W2 hs2 => ?_⟩
 have hlt : D + 1 < W0.heap.size := (Array.getElem?_eq_some_iff.1 hl).1
 refine wpIn_block (roundMix (F := ⟨P, ⟨n, []⟩, _⟩) (e := e1) (w := W0.putObj (D + 1) (recOf fn tmps #[p] (.region i1 ops1.toArray false) (.block bid (.region i2 ops2.toArray true)) D .busy)) (S _) al hm hB hA ?_ hd2 (h2 W0 _ _ hl hk hJ rfl (World.putObj_heap_same hlt) ((World.putObj_heap_other (by omega)).trans hk) ?_) hs2 ha1)
 ·rintro ⟨a, w, h⟩
  have h : (Exit.outgrown : Exit) = .normal ∧ _ := h
  cases h.1
 ·intro e2 W3 hl3 hk3 hJ3 w3 hs3 a3 ha3
  exact ⟨rfl, W3, hs3, hl3, hk3, hJ3⟩
theorem G.rangeFunc {F : Fr} {e : Env} {k : List It} {w : World} {gf : Nat} {lb : List Value} {c : Operand} {ps : Array Tmp} {assign body : Code} {Jn : World → Prop}
  (hg : look e c = some (.func (.func gf) #[] lb.toArray)) (eg : ∀ args w, (callFunc gf args).run F.P w = .ok (.enter gf args) w)
  (hc : ∀ fn tmps, Ag F.z e ⟨tmps, F.z.D⟩ → ∀ w', Same ((w.alloc (.deferred (some []))).alloc (recOf fn tmps ps assign body w.heap.size .ready)) w' →
   Calls F.P gf (.func (.yield (w.heap.size + 1)) #[] #[] :: lb).toArray w' (fun en w3 => (∃ v, en = .returned v) ∧ Between fn tmps ps assign body w.heap.size Jn w3))
  (next : ∀ fn tmps W, Jn W → W.heap[w.heap.size]? = some (.deferred (some [])) → w.heap.size + 1 < W.heap.size →
   A (F.off ⟨.collected w.heap.size, #[]⟩) e k (W.putObj (w.heap.size + 1) (recOf fn tmps ps assign body w.heap.size .exhausted))) :
  G F e (.rangeFunc c ps assign body) k w := by
 intro w' hw a ha
 refine (wpIn_wide (n := 0)).1 (wpIn_rangeFunc ?_)
 intro fn _
 have hsz : w'.heap.size = w.heap.size := by rw [hw.heap]
 refine ⟨w'.heap.size + 1, _, ((w'.alloc (.deferred (some []))).alloc (recOf fn a.tmps ps assign body w'.heap.size .ready)), ⟨.fn (.func gf) lb.toArray, #[.func (.yield (w'.heap.size + 1)) #[] #[]]⟩, ((w'.alloc (.deferred (some []))).alloc (recOf fn a.tmps ps assign body w'.heap.size .ready)), gf, (.func (.yield (w'.heap.size + 1)) #[] #[] :: lb).toArray, ((w'.alloc (.deferred (some []))).alloc (recOf fn a.tmps ps assign body w'.heap.size .ready)), run_enterLoop_outer _ _ _ _ _, ?_, fun _ _ => trivial, ?_, (fun h => by cases h), ?_⟩
 ·have h1 := ha.ev hg
  simp only [resolve, rangeCall, h1, Deferred.ofValue]
  simp [Act.eval]
 ·have := eg (.func (.yield (w'.heap.size + 1)) #[] #[] :: lb).toArray
  simpa [invoke] using this _
 ·rw [hsz]
  refine callsIn_wide.2 ((hc fn a.tmps ⟨rfl, ha.2.1, ha.2.2⟩ _ ?_).mono ?_)
  ·exact (hw.alloc _).alloc _
  ·rintro en w3 ⟨⟨v, rfl⟩, W0, hs, hl, hk, hJ⟩
   have hl' : w3.heap[w.heap.size + 1]? = some (recOf fn a.tmps ps assign body w.heap.size .ready) := (hs.at _).trans hl
   refine ⟨none, _, run_endLoop hl' (by intro h; cases h), ?_⟩
   have := next fn a.tmps W0 hJ hk (Array.getElem?_eq_some_iff.1 hl).1 _ (hs.putObj _ _) { a with defers := ⟨.collected w.heap.size, #[]⟩ :: a.defers } ⟨by show _ :: a.defers = _; rw [ha.1]; rfl, ha.2.1, ha.2.2⟩
   rw [post_off] at this
   exact this
def markPost (P : Program) (fn : Func) (Post : Value → World → Prop) : Exit → Act → World → Prop := bodyPostM Fence.wide 0 P fn (Ret Post)
theorem Fn.enterM {P : Program} {f : FuncId} {fn : Func} {c : Code} {args : List Value} {w : World} {Post : Value → World → Prop}
  (hc : ∀ w', (callFunc f args.toArray).run P w' = .ok (.enter f args.toArray) w') (hf : P.funcs[f]? = some fn) (hb : fn.body = some c)
  (h : G ⟨P, ⟨fn.ntmps, []⟩, markPost P fn Post⟩ (argEnv 0 args) c [] w) : Fn P f args w Post := by
 refine ⟨hc, fun w' hw => (callsIn_wide (n := 0)).1 (callsIn_of_wp_marks hf hb trivial ((wpIn_wide (n := 0)).2 (h w' hw _ ⟨rfl, ?_, ?_⟩)))⟩
 ·simp; omega
 ·intro t v ht
  obtain ⟨_, h2⟩ := argEnv_get args 0 t v ht
  simp only [Nat.sub_zero] at h2
  have hlt : t < args.length := (List.getElem?_eq_some_iff.1 h2).1
  rw [Array.getD_eq_getD_getElem?, Array.getElem?_append_left (by simpa using hlt)]
  simp [h2]
theorem G.retM0 {P : Program} {fn : Func} {n : Nat} {Post : Value → World → Prop} {e : Env} {k : List It} {w : World} {vs : List Value}
  (hv : ResEv P e w fn.results.toList vs) (hp : Post (outV vs) w) : G ⟨P, ⟨n, []⟩, markPost P fn Post⟩ e .ret k w := by
 intro w' hw a ha
 refine wp_ret (post_ret k a w' ?_)
 show LeavesInM Fence.wide 0 P fn a.tmps (Ret Post) a.defers .returning w'
 rw [ha.1]
 exact ⟨_, results_ev hw ha hv, _, w, hw, rfl, hp⟩
theorem G.retM {P : Program} {fn : Func} {n D : Nat} {Post : Value → World → Prop} {e : Env} {k : List It} {w : World} {vs : List Value}
  (hD : w.heap[D]? = some (.deferred (some []))) (hv : ResEv P e (w.putObj D (.deferred none)) fn.results.toList vs) (hp : Post (outV vs) (w.putObj D (.deferred none))) : G ⟨P, ⟨n, [⟨.collected D, #[]⟩]⟩, markPost P fn Post⟩ e .ret k w := by
 intro w' hw a ha
 refine wp_ret (post_ret k a w' ?_)
 show LeavesInM Fence.wide 0 P fn a.tmps (Ret Post) a.defers .returning w'
 rw [ha.1]
 refine ⟨(fun h => by cases h), .inl ⟨D, _, rfl, run_takeDeferred ((hw.at D).trans hD), ?_⟩⟩
 exact ⟨_, results_ev (hw.putObj D _) ha hv, _, _, hw.putObj D _, rfl, hp⟩
end Go.Proofs.YtpfehnopghffjaaGreatDoor
