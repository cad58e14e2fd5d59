
/-
  The document's own disk: what may be, copies, sectors.
-/
import Derived.Test.YtapdacjpmmjlhaaDisk5
set_option linter.unusedVariables false
set_option linter.unusedSimpArgs false
set_option maxRecDepth 20000
namespace Go.Proofs.Ytapdacjpmmjlhaa
open Go disk
theorem May_fn {w : World} {v : Value} {d : Disk} (h : tDisk.rep All w v d) : Fn Try.prog 65 [v] w (fun r w2 => r = .bool (decide (checkF d = 0)) ∧ Ext (fun _ => False) w w2) := by
  obtain ⟨u, u', rfl, hd, hw, hc1, hc2⟩ := tDisk.val h
  obtain ⟨a, cap, rfl, hcap⟩ := Sl.val hd
  obtain ⟨aw, capw, rfl, hcapw⟩ := Sl.val hw
  have hlim := Sl.lim hd
  have hlimw := Sl.lim hw
  simp only [Lim] at hlim hlimw
  refine Fn.enter (fun w => Try.call65 _ w) Try.func65 rfl ?_
  refine .seq (.region ?_)
  refine .v rfl rfl (.box rfl) ?_
  rintro _ w1 ⟨rfl, N1⟩
  have B1 := N1.blk
  refine .p rfl rfl (.as rfl) ?_
  refine .nil (.code (.seq (.seq (.keep [(1, _)] ⟨rfl, trivial⟩ (.region ?_)))))
  refine .p rfl rfl (.fieldAddr rfl rfl rfl rfl) ?_
  refine .p rfl rfl (.load rfl rfl rfl (B1.cell 0)) ?_
  refine .p rfl rfl (.lt rfl rfl) ?_
  refine .p rfl rfl (.mv rfl) ?_
  refine .caseD 8 rfl (fun c8 => ?_) (fun c8 => ?_)
  · refine .skip rfl rfl ?_
    refine .skip rfl rfl ?_
    refine .skip rfl rfl ?_
    refine .p rfl rfl (.pickT rfl rfl) ?_
    refine .p rfl rfl (.mv rfl) ?_
    refine .skip rfl rfl ?_
    refine .skip rfl rfl ?_
    refine .skip rfl rfl ?_
    refine .skip rfl rfl ?_
    refine .skip rfl rfl ?_
    refine .skip rfl rfl ?_
    refine .skip rfl rfl ?_
    refine .p rfl rfl (.pickT rfl rfl) ?_
    refine .p rfl rfl (.mv rfl) ?_
    refine .skip rfl rfl ?_
    refine .skip rfl rfl ?_
    refine .skip rfl rfl ?_
    refine .skip rfl rfl ?_
    refine .p rfl rfl (.pickT rfl rfl) ?_
    refine .nil (.code (.keep [(27, _), (1, _)] ⟨rfl, rfl, trivial⟩ (.condT rfl (.seq (.keep [] trivial (.region ?_))))))
    refine .p rfl rfl (.as rfl) ?_
    refine .nil (.code ?_)
    refine .ret _ rfl ?_
    have e : ¬ checkF d = 0 := by
      intro hz
      obtain ⟨k1, k2, k3, k4, k5⟩ := check_ok hz
      omega
    exact ⟨by rw [decide_eq_false e]; rfl, N1.ext⟩
  · refine .p rfl rfl (.fieldAddr rfl rfl rfl rfl) ?_
    refine .p rfl rfl (.load rfl rfl rfl (B1.cell 0)) ?_
    refine .p rfl rfl (.gt rfl rfl) ?_
    refine .p rfl rfl (.pickF rfl rfl) ?_
    refine .p rfl rfl (.mv rfl) ?_
    refine .caseD 13 rfl (fun c13 => ?_) (fun c13 => ?_)
    · refine .skip rfl rfl ?_
      refine .skip rfl rfl ?_
      refine .skip rfl rfl ?_
      refine .skip rfl rfl ?_
      refine .skip rfl rfl ?_
      refine .skip rfl rfl ?_
      refine .skip rfl rfl ?_
      refine .p rfl rfl (.pickT rfl rfl) ?_
      refine .p rfl rfl (.mv rfl) ?_
      refine .skip rfl rfl ?_
      refine .skip rfl rfl ?_
      refine .skip rfl rfl ?_
      refine .skip rfl rfl ?_
      refine .p rfl rfl (.pickT rfl rfl) ?_
      refine .nil (.code (.keep [(27, _), (1, _)] ⟨rfl, rfl, trivial⟩ (.condT rfl (.seq (.keep [] trivial (.region ?_))))))
      refine .p rfl rfl (.as rfl) ?_
      refine .nil (.code ?_)
      refine .ret _ rfl ?_
      have e : ¬ checkF d = 0 := by
        intro hz
        obtain ⟨k1, k2, k3, k4, k5⟩ := check_ok hz
        omega
      exact ⟨by rw [decide_eq_false e]; rfl, N1.ext⟩
    · refine .p rfl rfl (.fieldAddr rfl rfl rfl rfl) ?_
      refine .p rfl rfl (.load rfl rfl rfl (B1.cell 1)) ?_
      refine .p rfl rfl (.len rfl rfl) ?_
      refine .p rfl rfl (.fieldAddr rfl rfl rfl rfl) ?_
      refine .p rfl rfl (.load rfl rfl rfl (B1.cell 0)) ?_
      refine .p rfl rfl (.mul rfl rfl (by omega)) ?_
      refine .p rfl rfl (.ne rfl rfl) ?_
      refine .p rfl rfl (.pickF rfl rfl) ?_
      refine .p rfl rfl (.mv rfl) ?_
      refine .caseD 22 rfl (fun c22 => ?_) (fun c22 => ?_)
      · refine .skip rfl rfl ?_
        refine .skip rfl rfl ?_
        refine .skip rfl rfl ?_
        refine .skip rfl rfl ?_
        refine .p rfl rfl (.pickT rfl rfl) ?_
        refine .nil (.code (.keep [(27, _), (1, _)] ⟨rfl, rfl, trivial⟩ (.condT rfl (.seq (.keep [] trivial (.region ?_))))))
        refine .p rfl rfl (.as rfl) ?_
        refine .nil (.code ?_)
        refine .ret _ rfl ?_
        have e : ¬ checkF d = 0 := by
          intro hz
          obtain ⟨k1, k2, k3, k4, k5⟩ := check_ok hz
          omega
        exact ⟨by rw [decide_eq_false e]; rfl, N1.ext⟩
      · refine .p rfl rfl (.fieldAddr rfl rfl rfl rfl) ?_
        refine .p rfl rfl (.load rfl rfl rfl (B1.cell 2)) ?_
        refine .p rfl rfl (.len rfl rfl) ?_
        refine .p rfl rfl (.gt rfl rfl) ?_
        refine .p rfl rfl (.pickF rfl rfl) ?_
        refine .nil (.code (.keep [(27, _), (1, _)] ⟨rfl, rfl, trivial⟩ ?_))
        refine .condD rfl (fun c27 => ?_) (fun c27 => ?_)
        · refine .seq (.keep [] trivial (.region ?_))
          refine .p rfl rfl (.as rfl) ?_
          refine .nil (.code ?_)
          refine .ret _ rfl ?_
          have e : ¬ checkF d = 0 := by
            intro hz
            obtain ⟨k1, k2, k3, k4, k5⟩ := check_ok hz
            omega
          exact ⟨by rw [decide_eq_false e]; rfl, N1.ext⟩
        · refine .skip (.code (.seq (.seq (.keep [(1, _)] ⟨rfl, trivial⟩ (.region ?_)))))
          refine .p rfl rfl (.as rfl) ?_
          refine .nil (.code (.block ?_))
          refine .loop (S := Nat × World) (fun s => [(1, .pointer (some ⟨w.heap.size, 0, none⟩)), (3, i64 s.1)]) (fun s => s.2) (fun s => s.1 ≤ d.waits.length ∧ Ext (fun _ => False) w1 s.2 ∧ (d.waits.take s.1).all (okPut d.count) = true) (fun s => d.waits.length - s.1) (0, w1) ⟨rfl, rfl, trivial⟩ rfl ⟨Nat.zero_le _, .refl _, rfl⟩ ?_
          rintro ⟨i, wi⟩ J ⟨hi', hX, hall⟩ again
          simp only at hi' hX hall
          have Bi := B1.ext hX (fun x => x)
          change G _ _ _ _ wi
          refine .seq (.seq (.region ?_))
          refine .p rfl rfl (.mv rfl) ?_
          refine .p rfl rfl (.fieldAddr rfl rfl rfl rfl) ?_
          refine .p rfl rfl (.load rfl rfl rfl (Bi.cell 2)) ?_
          refine .p rfl rfl (.len rfl rfl) ?_
          refine .p rfl rfl (.lt rfl rfl) ?_
          refine .nil (.code (.keep [(32, _), (1, _), (3, _)] ⟨rfl, rfl, rfl, trivial⟩ ?_))
          refine .condD rfl (fun c32 => ?_) (fun c32 => ?_)
          · have hi : i < d.waits.length := by omega
            obtain ⟨bw, ow, cw, ue, e, _, hcs, hre⟩ := Sl.at hw (List.getElem?_eq_getElem hi)
            cases e
            obtain ⟨ud, rfl, hud, hs1, hs2⟩ := tPut.val hre
            obtain ⟨ad, capd, rfl, _⟩ := Sl.val hud
            have hcs' := hcs.ext (N1.ext.trans hX) (fun x => x)
            refine .skip (.code (.seq (.block (.seq (.keep [(1, _), (3, _)] ⟨rfl, rfl, trivial⟩ (.region ?_))))))
            refine .p rfl rfl (.fieldAddr rfl rfl rfl rfl) ?_
            refine .p rfl rfl (.load rfl rfl rfl (Bi.cell 2)) ?_
            refine .p rfl rfl (.mv rfl) ?_
            refine .p rfl rfl (.indexAddr (s := 2) rfl rfl rfl rfl (by omega)) ?_
            refine .p rfl rfl (.loadA (n := 2) rfl rfl rfl rfl rfl hcs') ?_
            refine .v rfl rfl (.alloc rfl rfl) ?_
            rintro _ w4 ⟨rfl, N4⟩
            refine .s rfl (.storeAll (n := 2) rfl rfl rfl rfl rfl N4.blk rfl) ?_
            intro w5 P5
            have X5 := N4.ext.then P5.ext (by rintro k rfl _; exact Nat.le_refl _)
            have B4 := P5.blk
            have B1' := Bi.ext X5 (fun x => x)
            refine .nil (.code (.seq (.keep [(4, _), (1, _), (3, _)] ⟨rfl, rfl, rfl, trivial⟩ (.region ?_))))
            refine .p rfl rfl (.fieldAddr rfl rfl rfl rfl) ?_
            refine .p rfl rfl (.load rfl rfl rfl (B4.cell 0)) ?_
            refine .p rfl rfl (.lt rfl rfl) ?_
            refine .p rfl rfl (.mv rfl) ?_
            refine .caseD 43 rfl (fun c43 => ?_) (fun c43 => ?_)
            · refine .skip rfl rfl ?_
              refine .skip rfl rfl ?_
              refine .skip rfl rfl ?_
              refine .skip rfl rfl ?_
              refine .skip rfl rfl ?_
              refine .p rfl rfl (.pickT rfl rfl) ?_
              refine .p rfl rfl (.mv rfl) ?_
              refine .skip rfl rfl ?_
              refine .skip rfl rfl ?_
              refine .skip rfl rfl ?_
              refine .skip rfl rfl ?_
              refine .p rfl rfl (.pickT rfl rfl) ?_
              refine .nil (.code (.keep [(55, _), (1, _), (3, _)] ⟨rfl, rfl, rfl, trivial⟩ (.condT rfl (.seq (.keep [] trivial (.region ?_))))))
              refine .p rfl rfl (.as rfl) ?_
              refine .nil (.code ?_)
              refine .ret _ rfl ?_
              have e : ¬ checkF d = 0 := by
                intro hz
                obtain ⟨k1, k2, k3, k4, k5⟩ := check_ok hz
                have := k5 _ (List.getElem_mem hi)
                omega
              exact ⟨by rw [decide_eq_false e]; rfl, N1.ext.trans (hX.trans X5)⟩
            · refine .p rfl rfl (.fieldAddr rfl rfl rfl rfl) ?_
              refine .p rfl rfl (.load rfl rfl rfl (B4.cell 0)) ?_
              refine .p rfl rfl (.fieldAddr rfl rfl rfl rfl) ?_
              refine .p rfl rfl (.load rfl rfl rfl (B1'.cell 0)) ?_
              refine .p rfl rfl (.ge rfl rfl) ?_
              refine .p rfl rfl (.pickF rfl rfl) ?_
              refine .p rfl rfl (.mv rfl) ?_
              refine .caseD 50 rfl (fun c50 => ?_) (fun c50 => ?_)
              · refine .skip rfl rfl ?_
                refine .skip rfl rfl ?_
                refine .skip rfl rfl ?_
                refine .skip rfl rfl ?_
                refine .p rfl rfl (.pickT rfl rfl) ?_
                refine .nil (.code (.keep [(55, _), (1, _), (3, _)] ⟨rfl, rfl, rfl, trivial⟩ (.condT rfl (.seq (.keep [] trivial (.region ?_))))))
                refine .p rfl rfl (.as rfl) ?_
                refine .nil (.code ?_)
                refine .ret _ rfl ?_
                have e : ¬ checkF d = 0 := by
                  intro hz
                  obtain ⟨k1, k2, k3, k4, k5⟩ := check_ok hz
                  have := k5 _ (List.getElem_mem hi)
                  omega
                exact ⟨by rw [decide_eq_false e]; rfl, N1.ext.trans (hX.trans X5)⟩
              · refine .p rfl rfl (.fieldAddr rfl rfl rfl rfl) ?_
                refine .p rfl rfl (.load rfl rfl rfl (B4.cell 1)) ?_
                refine .p rfl rfl (.len rfl rfl) ?_
                refine .p rfl rfl (.ne rfl rfl) ?_
                refine .p rfl rfl (.pickF rfl rfl) ?_
                refine .nil (.code (.keep [(55, _), (1, _), (3, _)] ⟨rfl, rfl, rfl, trivial⟩ ?_))
                refine .condD rfl (fun c55 => ?_) (fun c55 => ?_)
                · refine .seq (.keep [] trivial (.region ?_))
                  refine .p rfl rfl (.as rfl) ?_
                  refine .nil (.code ?_)
                  refine .ret _ rfl ?_
                  have e : ¬ checkF d = 0 := by
                    intro hz
                    obtain ⟨k1, k2, k3, k4, k5⟩ := check_ok hz
                    have := k5 _ (List.getElem_mem hi)
                    omega
                  exact ⟨by rw [decide_eq_false e]; rfl, N1.ext.trans (hX.trans X5)⟩
                · refine .skip (.blk (.code (.keep [(1, _), (3, _)] ⟨rfl, rfl, trivial⟩ (.region ?_))))
                  refine .p rfl rfl (.mv rfl) ?_
                  refine .p rfl rfl (.add rfl rfl (by omega)) ?_
                  refine .p rfl rfl (.as rfl) ?_
                  refine .nil ?_
                  exact (again (i + 1, w5) ⟨by show i + 1 ≤ _; omega, hX.trans X5, all_take hi hall (by unfold okPut; rw [decide_eq_true_eq]; omega)⟩ (by show _ - (i + 1) < _ - i; omega)).of ⟨rfl, rfl, trivial⟩
          · refine .exit rfl (.code (.seq (.keep [] trivial (.region ?_))))
            refine .p rfl rfl (.as rfl) ?_
            refine .nil (.code ?_)
            refine .ret _ rfl ?_
            obtain rfl : i = d.waits.length := by omega
            rw [List.take_length] at hall
            exact ⟨by rw [decide_eq_true (by unfold checkF; rw [if_neg (by omega), if_pos hall])]; rfl, N1.ext.trans hX⟩
theorem refBytes_fn {w : World} {v : Value} {l : Bs} (h : tBytes.rep All w v l) : Fn Try.prog 44 [v] w (fun r w2 => ∃ b, Own tByte (fun _ => False) 5 w2 r l b ∧ w.heap.size ≤ b ∧ Ext (fun _ => False) w w2) := by
  obtain ⟨a, cap, rfl, hcap⟩ := Sl.val h
  have hlim := Sl.lim h
  simp only [Lim] at hlim
  refine Fn.enter (fun w => Try.call44 _ w) Try.func44 rfl ?_
  refine .seq (.region ?_)
  refine .p rfl rfl (.as rfl) ?_
  refine .nil (.code (.seq (.keep [(0, _)] ⟨rfl, trivial⟩ (.region ?_))))
  refine .p rfl rfl (.mv rfl) ?_
  refine .v rfl rfl (.append (t := tByte) (Q := fun _ => False) (b := w.heap.size) (eb := 1) rfl Own.nil rfl (Sl.holds h (fun _ _ h => h)) rfl rfl rfl rfl rfl rfl rfl (by simp; omega) (by simp [Lim]; omega) (fun _ h _ => h.elim)) ?_
  rintro v4 w4 ⟨b4, O4, X4, hb4⟩
  have O4 := O4.mono (Q' := fun _ => False) (fun _ h _ => h.1)
  have Z4 := X4.mono (S' := fun _ => False) (fun k hk he => by have he : k = w.heap.size := he; omega)
  refine .p rfl rfl (.as rfl) ?_
  refine .nil (.code ?_)
  refine .ret _ rfl ?_
  exact ⟨b4, O4, by rcases hb4 with rfl | rfl <;> exact Nat.le_refl _, Z4⟩
theorem refCheck_fn {w : World} {v : Value} {d : Disk} (h : tDisk.rep All w v d) : Fn Try.prog 52 [v] w (fun r w2 => r = i64 (checkF d) ∧ Ext (fun _ => False) w w2) := by
  obtain ⟨u, u', rfl, hd, hw, hc1, hc2⟩ := tDisk.val h
  refine Fn.enter (fun w => Try.call52 _ w) Try.func52 rfl ?_
  refine .seq (.region ?_)
  refine .v rfl rfl (.box rfl) ?_
  rintro _ w1 ⟨rfl, N1⟩
  refine .p rfl rfl (.as rfl) ?_
  refine .nil (.code (.seq (.seq (.keep [(1, _)] ⟨rfl, trivial⟩ (.region ?_)))))
  refine .p rfl rfl (.loadA (n := 3) rfl rfl rfl rfl rfl N1.blk.cells) ?_
  refine .call (first := []) (captured := []) rfl rfl rfl rfl (May_fn (tDisk.ext0 h N1.ext)) ?_
  rintro _ w4 ⟨rfl, X4⟩
  refine .p rfl rfl (.notD rfl) ?_
  refine .nil (.code (.keep [(5, _)] ⟨rfl, trivial⟩ ?_))
  refine .condD rfl (fun c5 => ?_) (fun c5 => ?_)
  · refine .seq (.keep [] trivial (.region ?_))
    refine .p rfl rfl (.as rfl) ?_
    refine .nil (.code ?_)
    refine .ret _ rfl ?_
    exact ⟨by rw [check_no c5]; rfl, N1.ext.trans X4⟩
  · refine .skip (.code (.seq (.keep [] trivial (.region ?_))))
    refine .p rfl rfl (.as rfl) ?_
    refine .nil (.code ?_)
    refine .ret _ rfl ?_
    exact ⟨by rw [Decidable.not_not.1 c5]; rfl, N1.ext.trans X4⟩
theorem refsure_fn {w : World} {v : Value} {d : Disk} {n : Int} (h : tDisk.rep All w v d) (hA : askedF d n = 0) : Fn Try.prog 64 [v, i64 n] w (fun r w2 => ∃ b, Own tByte (fun _ => False) 5 w2 r ((d.data.drop (n.toNat * 128)).take 128) b ∧ w.heap.size ≤ b ∧ Ext (fun _ => False) w w2) := by
  obtain ⟨u, u', rfl, hd, hw, hc1, hc2⟩ := tDisk.val h
  obtain ⟨a, cap, rfl, hcap⟩ := Sl.val hd
  have hA2 := hA
  unfold askedF at hA2
  split at hA2
  · omega
  split at hA2
  · omega
  rename_i hck hrg
  obtain ⟨k1, k2, k3, k4, k5⟩ := check_ok (Decidable.byContradiction hck)
  obtain ⟨m, rfl⟩ := Int.eq_ofNat_of_zero_le (a := n) (by omega)
  obtain ⟨a3, cap3, hv12, hc12, R12⟩ := Sl.cutE hd (m * 128) (m * 128 + 128) (by omega) (by omega)
  rw [List.drop_take] at R12
  simp only [Nat.add_sub_cancel_left] at hv12 R12
  refine Fn.enter (fun w => Try.call64 _ w) Try.func64 rfl ?_
  refine .seq (.region ?_)
  refine .v rfl rfl (.box rfl) ?_
  rintro _ w2 ⟨rfl, N2⟩
  refine .p rfl rfl (.as rfl) ?_
  refine .nil (.code (.seq (.keep [(2, _), (1, _)] ⟨rfl, rfl, trivial⟩ (.region ?_))))
  refine .p rfl rfl (.fieldAddr rfl rfl rfl rfl) ?_
  refine .p rfl rfl (.load rfl rfl rfl (N2.blk.cell 1)) ?_
  refine .p rfl rfl (.mv rfl) ?_
  refine .p rfl rfl (.mul rfl rfl (by omega)) ?_
  refine .p rfl rfl (.mv rfl) ?_
  refine .p rfl rfl (.mul rfl rfl (by omega)) ?_
  refine .p rfl rfl (.add rfl rfl (by omega)) ?_
  refine .p rfl rfl (.cast (.cut (s := 1) rfl rfl rfl rfl rfl (by omega)) (show cutV 1 a cap ((m : Int) * 128).toNat ((m : Int) * 128 + 128).toNat = .slice a3 128 cap3 by rw [show ((m : Int) * 128).toNat = m * 128 by omega, show ((m : Int) * 128 + 128).toNat = m * 128 + 128 by omega]; exact hv12)) ?_
  refine .call (first := []) (captured := []) rfl rfl rfl rfl (refBytes_fn (tBytes.ext0 R12 N2.ext)) ?_
  rintro r13 w13 ⟨b13, O13, hb13, X13⟩
  have z2 := N2.size
  refine .p rfl rfl (.as rfl) ?_
  refine .nil (.code ?_)
  refine .ret _ rfl ?_
  exact ⟨b13, O13, by omega, N2.ext.trans X13⟩
theorem refNow_fn {w : World} {v : Value} {d : Disk} {n : Int} (h : tDisk.rep All w v d) (hA : askedF d n = 0) : Fn Try.prog 49 [v, i64 n] w (fun r w2 => ∃ b, Own tByte (fun _ => False) 5 w2 r (readF d n) b ∧ w.heap.size ≤ b ∧ Ext (fun _ => False) w w2) := by
  obtain ⟨u, u', rfl, hd, hw, hc1, hc2⟩ := tDisk.val h
  obtain ⟨aw, capw, rfl, hcapw⟩ := Sl.val hw
  have hA2 := hA
  unfold askedF at hA2
  split at hA2
  · omega
  split at hA2
  · omega
  rename_i hck hrg
  obtain ⟨k1, k2, k3, k4, k5⟩ := check_ok (Decidable.byContradiction hck)
  refine Fn.enter (fun w => Try.call49 _ w) Try.func49 rfl ?_
  refine .seq (.region ?_)
  refine .v rfl rfl (.box rfl) ?_
  rintro _ w2 ⟨rfl, N2⟩
  refine .p rfl rfl (.as rfl) ?_
  refine .nil (.code (.seq (.seq (.keep [(2, _), (1, _)] ⟨rfl, rfl, trivial⟩ (.region ?_)))))
  refine .p rfl rfl (.fieldAddr rfl rfl rfl rfl) ?_
  refine .p rfl rfl (.load rfl rfl rfl (N2.blk.cell 2)) ?_
  refine .p rfl rfl (.len rfl rfl) ?_
  refine .p rfl rfl (.sub rfl rfl (by omega)) ?_
  refine .p rfl rfl (.as rfl) ?_
  refine .nil (.code (.block (.keep [(5, _), (2, _), (1, _)] ⟨rfl, rfl, rfl, trivial⟩ ?_)))
  rw [show ((d.waits.length : Int) - 1) = ((d.waits.length : Int) - 1 - ((0 : Nat) : Int)) by omega]
  refine .loop (S := Nat × World) (fun s => [(2, .pointer (some ⟨w.heap.size, 0, none⟩)), (5, i64 ((d.waits.length : Int) - 1 - (s.1 : Int))), (1, i64 n)]) (fun s => s.2) (fun s => s.1 ≤ d.waits.length ∧ Ext (fun _ => False) w2 s.2 ∧ ∀ j (hj : d.waits.length - 1 - j < d.waits.length), j < s.1 → ¬ (d.waits[d.waits.length - 1 - j]).sector = n) (fun s => d.waits.length - s.1) (0, w2) ⟨rfl, rfl, rfl, trivial⟩ rfl ⟨Nat.zero_le _, .refl _, fun j hj h => absurd h (Nat.not_lt_zero _)⟩ ?_
  rintro ⟨i, wi⟩ J ⟨hi', hX, hall⟩ again
  simp only at hi' hX hall
  change G _ _ _ _ wi
  refine .seq (.seq (.region ?_))
  refine .p rfl rfl (.mv rfl) ?_
  refine .p rfl rfl (.ge rfl rfl) ?_
  refine .nil (.code (.keep [(11, _), (2, _), (5, _), (1, _)] ⟨rfl, rfl, rfl, rfl, trivial⟩ ?_))
  refine .condD rfl (fun c11 => ?_) (fun c11 => ?_)
  · have hil : i < d.waits.length := by omega
    have hi : d.waits.length - 1 - i < d.waits.length := by omega
    have Bi := N2.blk.ext hX (fun x => x)
    obtain ⟨bw, ow, cw, ue, e, _, hcs, hre⟩ := Sl.at hw (List.getElem?_eq_getElem hi)
    cases e
    obtain ⟨ud, rfl, hud, hs1, hs2⟩ := tPut.val hre
    obtain ⟨ad, capd, rfl, _⟩ := Sl.val hud
    have e28 : ((d.waits.length : Int) - 1 - (i : Int)).toNat = d.waits.length - 1 - i := by omega
    have hcs' := hcs.ext (N2.ext.trans hX) (fun x => x)
    have e29 : ow + (d.waits.length - 1 - i) * tPut.size = ow + ((d.waits.length : Int) - 1 - (i : Int)).toNat * 2 := by rw [e28]; rfl
    rw [e29] at hcs'
    refine .skip (.code (.seq (.block (.seq (.keep [(2, _), (5, _), (1, _)] ⟨rfl, rfl, rfl, trivial⟩ (.region ?_))))))
    refine .p rfl rfl (.fieldAddr rfl rfl rfl rfl) ?_
    refine .p rfl rfl (.load rfl rfl rfl (Bi.cell 2)) ?_
    refine .p rfl rfl (.mv rfl) ?_
    refine .p rfl rfl (.indexAddr (s := 2) rfl rfl rfl rfl (by omega)) ?_
    refine .p rfl rfl (.fieldAddr rfl rfl rfl rfl) ?_
    refine .p rfl rfl (.load rfl rfl rfl (hcs' 0 _ rfl)) ?_
    refine .p rfl rfl (.mv rfl) ?_
    refine .p rfl rfl (.eq rfl rfl) ?_
    refine .nil (.code (.keep [(21, _), (2, _), (5, _), (1, _)] ⟨rfl, rfl, rfl, rfl, trivial⟩ ?_))
    refine .condD rfl (fun c21 => ?_) (fun c21 => ?_)
    · refine .seq (.keep [(2, _), (5, _)] ⟨rfl, rfl, trivial⟩ (.region ?_))
      refine .p rfl rfl (.fieldAddr rfl rfl rfl rfl) ?_
      refine .p rfl rfl (.load rfl rfl rfl (Bi.cell 2)) ?_
      refine .p rfl rfl (.mv rfl) ?_
      refine .p rfl rfl (.indexAddr (s := 2) rfl rfl rfl rfl (by omega)) ?_
      refine .p rfl rfl (.fieldAddr rfl rfl rfl rfl) ?_
      refine .p rfl rfl (.load rfl rfl rfl (hcs' 1 _ rfl)) ?_
      refine .call (first := []) (captured := []) rfl rfl rfl rfl (refBytes_fn (tBytes.ext0 hud (N2.ext.trans hX))) ?_
      rintro r28 w28 ⟨b28, O28, hb28, X28⟩
      refine .p rfl rfl (.as rfl) ?_
      refine .nil (.code ?_)
      refine .ret _ rfl ?_
      exact ⟨b28, by unfold readF; rw [last_some hi hil hall c21]; exact O28, by have := N2.size; have : w2.heap.size ≤ wi.heap.size := hX.size; omega, N2.ext.trans (hX.trans X28)⟩
    · refine .skip (.blk (.code (.keep [(2, _), (5, _), (1, _)] ⟨rfl, rfl, rfl, trivial⟩ (.region ?_))))
      refine .p rfl rfl (.mv rfl) ?_
      refine .p rfl rfl (.sub rfl rfl (by omega)) ?_
      refine .p rfl rfl (.as rfl) ?_
      refine .nil ?_
      refine (again (i + 1, wi) ⟨by show i + 1 ≤ _; omega, hX, fun j hj hlt => ?_⟩ (by show _ - (i + 1) < _ - i; omega)).of ⟨rfl, by show some _ = some _; congr 2; simp; omega, rfl, trivial⟩
      rcases Nat.lt_or_ge j i with h | h
      · exact hall j hj h
      · obtain rfl : j = i := by omega
        exact c21
  · refine .exit rfl (.code (.seq (.keep [(2, _), (1, _)] ⟨rfl, rfl, trivial⟩ (.region ?_))))
    refine .p rfl rfl (.loadA (n := 3) rfl rfl rfl rfl rfl (N2.blk.ext hX (fun x => x)).cells) ?_
    refine .p rfl rfl (.mv rfl) ?_
    refine .call (first := []) (captured := []) rfl rfl rfl rfl (refsure_fn (n := n) (tDisk.ext0 h (N2.ext.trans hX)) hA) ?_
    rintro r31 w31 ⟨b31, O31, hb31, X31⟩
    refine .p rfl rfl (.as rfl) ?_
    refine .nil (.code ?_)
    refine .ret _ rfl ?_
    have hl : lastOf d.waits n = none := last_none (fun j hj hlt => hall j hj (by omega))
    exact ⟨b31, by unfold readF; rw [hl]; exact O31, by have := N2.size; have : w2.heap.size ≤ wi.heap.size := hX.size; omega, N2.ext.trans (hX.trans X31)⟩
end Go.Proofs.Ytapdacjpmmjlhaa
