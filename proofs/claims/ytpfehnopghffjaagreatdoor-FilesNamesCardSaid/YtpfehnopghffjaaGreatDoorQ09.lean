import Derived.Test.YtpfehnopghffjaaGreatDoorQ08
set_option linter.unusedVariables false
set_option linter.unusedSimpArgs false
set_option maxRecDepth 20000
/-
  The document's own disk: what may be, copies, sectors.
-/
namespace Go.Proofs.YtpfehnopghffjaaGreatDoor
open Go disk
theorem May_fn {w : World} {v : Value} {d : Disk} (h : tDisk.rep All w v d) : Fn Tryz.prog 154 [v] w (fun r w2 => r = .bool (decide (checkF d = 0)) ∧ Ext (fun _ => False) w w2) := by
  obtain ⟨u, u', rfl, hd, hw, hc1, hc2⟩ := tDisk.val h
  obtain ⟨a, cap, rfl, hcap⟩ := Sl.val hd
  obtain ⟨aw, capw, rfl, hcapw⟩ := Sl.val hw
  have hlim := Sl.lim hd
  have hlimw := Sl.lim hw
  simp only [Lim] at hlim hlimw
  refine Fn.enter (fun w => Tryz.call154 _ w) Tryz.func154 rfl ?_
  refine .seq (.region ?_)
  refine .v rfl rfl (.box rfl) ?_
  rintro _ w1 ⟨rfl, N1⟩
  have B1 := N1.blk
  refine .p rfl rfl (.as rfl) ?_
  refine .nil (.code (.seq (.seq (.keep [(1, _)] ⟨rfl, trivial⟩ (.region ?_)))))
  refine .p rfl rfl (.fieldAddr rfl rfl rfl rfl) ?_
  refine .p rfl rfl (.load rfl rfl rfl (B1.cell 0)) ?_
  refine .p rfl rfl (.lt rfl rfl) ?_
  refine .p rfl rfl (.mv rfl) ?_
  refine .caseD 8 rfl (fun c8 => ?_) (fun c8 => ?_)
  · refine .skip rfl rfl ?_
    refine .skip rfl rfl ?_
    refine .skip rfl rfl ?_
    refine .p rfl rfl (.pickT rfl rfl) ?_
    refine .p rfl rfl (.mv rfl) ?_
    refine .skip rfl rfl ?_
    refine .skip rfl rfl ?_
    refine .skip rfl rfl ?_
    refine .skip rfl rfl ?_
    refine .skip rfl rfl ?_
    refine .skip rfl rfl ?_
    refine .skip rfl rfl ?_
    refine .p rfl rfl (.pickT rfl rfl) ?_
    refine .p rfl rfl (.mv rfl) ?_
    refine .skip rfl rfl ?_
    refine .skip rfl rfl ?_
    refine .skip rfl rfl ?_
    refine .skip rfl rfl ?_
    refine .p rfl rfl (.pickT rfl rfl) ?_
    refine .nil (.code (.keep [(27, _), (1, _)] ⟨rfl, rfl, trivial⟩ (.condT rfl (.seq (.keep [] trivial (.region ?_))))))
    refine .p rfl rfl (.as rfl) ?_
    refine .nil (.code ?_)
    refine .ret _ rfl ?_
    have e : ¬ checkF d = 0 := by
      intro hz
      obtain ⟨k1, k2, k3, k4, k5⟩ := check_ok hz
      omega
    exact ⟨by rw [decide_eq_false e]; rfl, N1.ext⟩
  · refine .p rfl rfl (.fieldAddr rfl rfl rfl rfl) ?_
    refine .p rfl rfl (.load rfl rfl rfl (B1.cell 0)) ?_
    refine .p rfl rfl (.gt rfl rfl) ?_
    refine .p rfl rfl (.pickF rfl rfl) ?_
    refine .p rfl rfl (.mv rfl) ?_
    refine .caseD 13 rfl (fun c13 => ?_) (fun c13 => ?_)
    · refine .skip rfl rfl ?_
      refine .skip rfl rfl ?_
      refine .skip rfl rfl ?_
      refine .skip rfl rfl ?_
      refine .skip rfl rfl ?_
      refine .skip rfl rfl ?_
      refine .skip rfl rfl ?_
      refine .p rfl rfl (.pickT rfl rfl) ?_
      refine .p rfl rfl (.mv rfl) ?_
      refine .skip rfl rfl ?_
      refine .skip rfl rfl ?_
      refine .skip rfl rfl ?_
      refine .skip rfl rfl ?_
      refine .p rfl rfl (.pickT rfl rfl) ?_
      refine .nil (.code (.keep [(27, _), (1, _)] ⟨rfl, rfl, trivial⟩ (.condT rfl (.seq (.keep [] trivial (.region ?_))))))
      refine .p rfl rfl (.as rfl) ?_
      refine .nil (.code ?_)
      refine .ret _ rfl ?_
      have e : ¬ checkF d = 0 := by
        intro hz
        obtain ⟨k1, k2, k3, k4, k5⟩ := check_ok hz
        omega
      exact ⟨by rw [decide_eq_false e]; rfl, N1.ext⟩
    · refine .p rfl rfl (.fieldAddr rfl rfl rfl rfl) ?_
      refine .p rfl rfl (.load rfl rfl rfl (B1.cell 1)) ?_
      refine .p rfl rfl (.len rfl rfl) ?_
      refine .p rfl rfl (.fieldAddr rfl rfl rfl rfl) ?_
      refine .p rfl rfl (.load rfl rfl rfl (B1.cell 0)) ?_
      refine .p rfl rfl (.mul rfl rfl (by omega)) ?_
      refine .p rfl rfl (.ne rfl rfl) ?_
      refine .p rfl rfl (.pickF rfl rfl) ?_
      refine .p rfl rfl (.mv rfl) ?_
      refine .caseD 22 rfl (fun c22 => ?_) (fun c22 => ?_)
      · refine .skip rfl rfl ?_
        refine .skip rfl rfl ?_
        refine .skip rfl rfl ?_
        refine .skip rfl rfl ?_
        refine .p rfl rfl (.pickT rfl rfl) ?_
        refine .nil (.code (.keep [(27, _), (1, _)] ⟨rfl, rfl, trivial⟩ (.condT rfl (.seq (.keep [] trivial (.region ?_))))))
        refine .p rfl rfl (.as rfl) ?_
        refine .nil (.code ?_)
        refine .ret _ rfl ?_
        have e : ¬ checkF d = 0 := by
          intro hz
          obtain ⟨k1, k2, k3, k4, k5⟩ := check_ok hz
          omega
        exact ⟨by rw [decide_eq_false e]; rfl, N1.ext⟩
      · refine .p rfl rfl (.fieldAddr rfl rfl rfl rfl) ?_
        refine .p rfl rfl (.load rfl rfl rfl (B1.cell 2)) ?_
        refine .p rfl rfl (.len rfl rfl) ?_
        refine .p rfl rfl (.gt rfl rfl) ?_
        refine .p rfl rfl (.pickF rfl rfl) ?_
        refine .nil (.code (.keep [(27, _), (1, _)] ⟨rfl, rfl, trivial⟩ ?_))
        refine .condD rfl (fun c27 => ?_) (fun c27 => ?_)
        · refine .seq (.keep [] trivial (.region ?_))
          refine .p rfl rfl (.as rfl) ?_
          refine .nil (.code ?_)
          refine .ret _ rfl ?_
          have e : ¬ checkF d = 0 := by
            intro hz
            obtain ⟨k1, k2, k3, k4, k5⟩ := check_ok hz
            omega
          exact ⟨by rw [decide_eq_false e]; rfl, N1.ext⟩
        · refine .skip (.code (.seq (.seq (.keep [(1, _)] ⟨rfl, trivial⟩ (.region ?_)))))
          refine .p rfl rfl (.as rfl) ?_
          refine .nil (.code (.block ?_))
          refine .loop (S := Nat × World) (fun s => [(1, .pointer (some ⟨w.heap.size, 0, none⟩)), (3, i64 s.1)]) (fun s => s.2) (fun s => s.1 ≤ d.waits.length ∧ Ext (fun _ => False) w1 s.2 ∧ (d.waits.take s.1).all (okPut d.count) = true) (fun s => d.waits.length - s.1) (0, w1) ⟨rfl, rfl, trivial⟩ rfl ⟨Nat.zero_le _, .refl _, rfl⟩ ?_
          rintro ⟨i, wi⟩ J ⟨hi', hX, hall⟩ again
          simp only at hi' hX hall
          have Bi := B1.ext hX (fun x => x)
          change G _ _ _ _ wi
          refine .seq (.seq (.region ?_))
          refine .p rfl rfl (.mv rfl) ?_
          refine .p rfl rfl (.fieldAddr rfl rfl rfl rfl) ?_
          refine .p rfl rfl (.load rfl rfl rfl (Bi.cell 2)) ?_
          refine .p rfl rfl (.len rfl rfl) ?_
          refine .p rfl rfl (.lt rfl rfl) ?_
          refine .nil (.code (.keep [(32, _), (1, _), (3, _)] ⟨rfl, rfl, rfl, trivial⟩ ?_))
          refine .condD rfl (fun c32 => ?_) (fun c32 => ?_)
          · have hi : i < d.waits.length := by omega
            obtain ⟨bw, ow, cw, ue, e, _, hcs, hre⟩ := Sl.at hw (List.getElem?_eq_getElem hi)
            cases e
            obtain ⟨ud, rfl, hud, hs1, hs2⟩ := tPut.val hre
            obtain ⟨ad, capd, rfl, _⟩ := Sl.val hud
            have hcs' := hcs.ext (N1.ext.trans hX) (fun x => x)
            refine .skip (.code (.seq (.block (.seq (.keep [(1, _), (3, _)] ⟨rfl, rfl, trivial⟩ (.region ?_))))))
            refine .p rfl rfl (.fieldAddr rfl rfl rfl rfl) ?_
            refine .p rfl rfl (.load rfl rfl rfl (Bi.cell 2)) ?_
            refine .p rfl rfl (.mv rfl) ?_
            refine .p rfl rfl (.indexAddr (s := 2) rfl rfl rfl rfl (by omega)) ?_
            refine .p rfl rfl (.loadA (n := 2) rfl rfl rfl rfl rfl hcs') ?_
            refine .v rfl rfl (.alloc rfl rfl) ?_
            rintro _ w4 ⟨rfl, N4⟩
            refine .s rfl (.storeAll (n := 2) rfl rfl rfl rfl rfl N4.blk rfl) ?_
            intro w5 P5
            have X5 := N4.ext.then P5.ext (by rintro k rfl _; exact Nat.le_refl _)
            have B4 := P5.blk
            have B1' := Bi.ext X5 (fun x => x)
            refine .nil (.code (.seq (.keep [(4, _), (1, _), (3, _)] ⟨rfl, rfl, rfl, trivial⟩ (.region ?_))))
            refine .p rfl rfl (.fieldAddr rfl rfl rfl rfl) ?_
            refine .p rfl rfl (.load rfl rfl rfl (B4.cell 0)) ?_
            refine .p rfl rfl (.lt rfl rfl) ?_
            refine .p rfl rfl (.mv rfl) ?_
            refine .caseD 43 rfl (fun c43 => ?_) (fun c43 => ?_)
            · refine .skip rfl rfl ?_
              refine .skip rfl rfl ?_
              refine .skip rfl rfl ?_
              refine .skip rfl rfl ?_
              refine .skip rfl rfl ?_
              refine .p rfl rfl (.pickT rfl rfl) ?_
              refine .p rfl rfl (.mv rfl) ?_
              refine .skip rfl rfl ?_
              refine .skip rfl rfl ?_
              refine .skip rfl rfl ?_
              refine .skip rfl rfl ?_
              refine .p rfl rfl (.pickT rfl rfl) ?_
              refine .nil (.code (.keep [(55, _), (1, _), (3, _)] ⟨rfl, rfl, rfl, trivial⟩ (.condT rfl (.seq (.keep [] trivial (.region ?_))))))
              refine .p rfl rfl (.as rfl) ?_
              refine .nil (.code ?_)
              refine .ret _ rfl ?_
              have e : ¬ checkF d = 0 := by
                intro hz
                obtain ⟨k1, k2, k3, k4, k5⟩ := check_ok hz
                have := k5 _ (List.getElem_mem hi)
                omega
              exact ⟨by rw [decide_eq_false e]; rfl, N1.ext.trans (hX.trans X5)⟩
            · refine .p rfl rfl (.fieldAddr rfl rfl rfl rfl) ?_
              refine .p rfl rfl (.load rfl rfl rfl (B4.cell 0)) ?_
              refine .p rfl rfl (.fieldAddr rfl rfl rfl rfl) ?_
              refine .p rfl rfl (.load rfl rfl rfl (B1'.cell 0)) ?_
              refine .p rfl rfl (.ge rfl rfl) ?_
              refine .p rfl rfl (.pickF rfl rfl) ?_
              refine .p rfl rfl (.mv rfl) ?_
              refine .caseD 50 rfl (fun c50 => ?_) (fun c50 => ?_)
              · refine .skip rfl rfl ?_
                refine .skip rfl rfl ?_
                refine .skip rfl rfl ?_
                refine .skip rfl rfl ?_
                refine .p rfl rfl (.pickT rfl rfl) ?_
                refine .nil (.code (.keep [(55, _), (1, _), (3, _)] ⟨rfl, rfl, rfl, trivial⟩ (.condT rfl (.seq (.keep [] trivial (.region ?_))))))
                refine .p rfl rfl (.as rfl) ?_
                refine .nil (.code ?_)
                refine .ret _ rfl ?_
                have e : ¬ checkF d = 0 := by
                  intro hz
                  obtain ⟨k1, k2, k3, k4, k5⟩ := check_ok hz
                  have := k5 _ (List.getElem_mem hi)
                  omega
                exact ⟨by rw [decide_eq_false e]; rfl, N1.ext.trans (hX.trans X5)⟩
              · refine .p rfl rfl (.fieldAddr rfl rfl rfl rfl) ?_
                refine .p rfl rfl (.load rfl rfl rfl (B4.cell 1)) ?_
                refine .p rfl rfl (.len rfl rfl) ?_
                refine .p rfl rfl (.ne rfl rfl) ?_
                refine .p rfl rfl (.pickF rfl rfl) ?_
                refine .nil (.code (.keep [(55, _), (1, _), (3, _)] ⟨rfl, rfl, rfl, trivial⟩ ?_))
                refine .condD rfl (fun c55 => ?_) (fun c55 => ?_)
                · refine .seq (.keep [] trivial (.region ?_))
                  refine .p rfl rfl (.as rfl) ?_
                  refine .nil (.code ?_)
                  refine .ret _ rfl ?_
                  have e : ¬ checkF d = 0 := by
                    intro hz
                    obtain ⟨k1, k2, k3, k4, k5⟩ := check_ok hz
                    have := k5 _ (List.getElem_mem hi)
                    omega
                  exact ⟨by rw [decide_eq_false e]; rfl, N1.ext.trans (hX.trans X5)⟩
                · refine .skip (.blk (.code (.keep [(1, _), (3, _)] ⟨rfl, rfl, trivial⟩ (.region ?_))))
                  refine .p rfl rfl (.mv rfl) ?_
                  refine .p rfl rfl (.add rfl rfl (by omega)) ?_
                  refine .p rfl rfl (.as rfl) ?_
                  refine .nil ?_
                  exact (again (i + 1, w5) ⟨by show i + 1 ≤ _; omega, hX.trans X5, all_take hi hall (by unfold okPut; rw [decide_eq_true_eq]; omega)⟩ (by show _ - (i + 1) < _ - i; omega)).of ⟨rfl, rfl, trivial⟩
          · refine .exit rfl (.code (.seq (.keep [] trivial (.region ?_))))
            refine .p rfl rfl (.as rfl) ?_
            refine .nil (.code ?_)
            refine .ret _ rfl ?_
            obtain rfl : i = d.waits.length := by omega
            rw [List.take_length] at hall
            exact ⟨by rw [decide_eq_true (by unfold checkF; rw [if_neg (by omega), if_pos hall])]; rfl, N1.ext.trans hX⟩
theorem refBytes_fn {w : World} {v : Value} {l : Bs} (h : tBytes.rep All w v l) : Fn Tryz.prog 65 [v] w (fun r w2 => ∃ b, Own tByte (fun _ => False) 5 w2 r l b ∧ w.heap.size ≤ b ∧ Ext (fun _ => False) w w2) := by
  obtain ⟨a, cap, rfl, hcap⟩ := Sl.val h
  have hlim := Sl.lim h
  simp only [Lim] at hlim
  refine Fn.enter (fun w => Tryz.call65 _ w) Tryz.func65 rfl ?_
  refine .seq (.region ?_)
  refine .p rfl rfl (.as rfl) ?_
  refine .nil (.code (.seq (.keep [(0, _)] ⟨rfl, trivial⟩ (.region ?_))))
  refine .p rfl rfl (.mv rfl) ?_
  refine .v rfl rfl (.append (t := tByte) (Q := fun _ => False) (b := w.heap.size) (eb := 1) rfl Own.nil rfl (Sl.holds h (fun _ _ h => h)) rfl rfl rfl rfl rfl rfl rfl (by simp; omega) (by simp [Lim]; omega) (fun _ h _ => h.elim)) ?_
  rintro v4 w4 ⟨b4, O4, X4, hb4⟩
  have O4 := O4.mono (Q' := fun _ => False) (fun _ h _ => h.1)
  have Z4 := X4.mono (S' := fun _ => False) (fun k hk he => by have he : k = w.heap.size := he; omega)
  refine .p rfl rfl (.as rfl) ?_
  refine .nil (.code ?_)
  refine .ret _ rfl ?_
  exact ⟨b4, O4, by rcases hb4 with rfl | rfl <;> exact Nat.le_refl _, Z4⟩
theorem refCheck_fn {w : World} {v : Value} {d : Disk} (h : tDisk.rep All w v d) : Fn Tryz.prog 130 [v] w (fun r w2 => r = i64 (checkF d) ∧ Ext (fun _ => False) w w2) := by
  obtain ⟨u, u', rfl, hd, hw, hc1, hc2⟩ := tDisk.val h
  refine Fn.enter (fun w => Tryz.call130 _ w) Tryz.func130 rfl ?_
  refine .seq (.region ?_)
  refine .v rfl rfl (.box rfl) ?_
  rintro _ w1 ⟨rfl, N1⟩
  refine .p rfl rfl (.as rfl) ?_
  refine .nil (.code (.seq (.seq (.keep [(1, _)] ⟨rfl, trivial⟩ (.region ?_)))))
  refine .p rfl rfl (.loadA (n := 3) rfl rfl rfl rfl rfl N1.blk.cells) ?_
  refine .call (first := []) (captured := []) rfl rfl rfl rfl (May_fn (tDisk.ext0 h N1.ext)) ?_
  rintro _ w4 ⟨rfl, X4⟩
  refine .p rfl rfl (.notD rfl) ?_
  refine .nil (.code (.keep [(5, _)] ⟨rfl, trivial⟩ ?_))
  refine .condD rfl (fun c5 => ?_) (fun c5 => ?_)
  · refine .seq (.keep [] trivial (.region ?_))
    refine .p rfl rfl (.as rfl) ?_
    refine .nil (.code ?_)
    refine .ret _ rfl ?_
    exact ⟨by rw [check_no c5]; rfl, N1.ext.trans X4⟩
  · refine .skip (.code (.seq (.keep [] trivial (.region ?_))))
    refine .p rfl rfl (.as rfl) ?_
    refine .nil (.code ?_)
    refine .ret _ rfl ?_
    exact ⟨by rw [Decidable.not_not.1 c5]; rfl, N1.ext.trans X4⟩
theorem refNew_fn {w : World} {n : Int} : Fn Tryz.prog 79 [i64 n] w (fun r w2 => ∃ v, r = .tuple #[v, i64 (newF n).2] ∧ tDisk.rep (fun k => w.heap.size ≤ k) w2 v (newF n).1 ∧ Ext (fun _ => False) w w2) := by
  refine Fn.enter (fun w => Tryz.call79 _ w) Tryz.func79 rfl ?_
  refine .seq (.region ?_)
  refine .v rfl rfl (.alloc rfl rfl) ?_
  rintro _ w2 ⟨rfl, N2⟩
  refine .p rfl rfl (.as rfl) ?_
  refine .nil (.code (.seq (.seq (.keep [(2, _), (0, _)] ⟨rfl, rfl, trivial⟩ (.region ?_)))))
  refine .p rfl rfl (.mv rfl) ?_
  refine .p rfl rfl (.lt rfl rfl) ?_
  refine .p rfl rfl (.mv rfl) ?_
  refine .caseD 6 rfl (fun c6 => ?_) (fun c6 => ?_)
  · refine .skip rfl rfl ?_
    refine .skip rfl rfl ?_
    refine .p rfl rfl (.pickT rfl rfl) ?_
    refine .nil (.code (.keep [(9, _), (2, _), (0, _)] ⟨rfl, rfl, rfl, trivial⟩ (.condT rfl (.seq (.keep [(2, _)] ⟨rfl, trivial⟩ (.region ?_))))))
    refine .p rfl rfl (.build (cs := [i64 0, .slice none 0 0, .slice none 0 0]) rfl (fun _ => by kernel_rfl)) ?_
    refine .s rfl (.storeAll (n := 3) rfl rfl rfl rfl rfl N2.blk rfl) ?_
    intro w10 P10
    have X10 := N2.ext.then P10.ext (by rintro k rfl _; exact Nat.le_refl _)
    refine .p rfl rfl (.as rfl) ?_
    refine .nil (.code ?_)
    refine .retR (.cell (n := 3) rfl rfl rfl rfl rfl (P10.blk.cells) (.tmp rfl .nil)) ?_
    exact ⟨_, by unfold newF; rw [if_pos (by omega)]; rfl, by unfold newF; rw [if_pos (by omega)]; exact tDisk.mk (d := nodisk) Sl.nil Sl.nil (by decide), X10⟩
  · refine .p rfl rfl (.mv rfl) ?_
    refine .p rfl rfl (.gt rfl rfl) ?_
    refine .p rfl rfl (.pickF rfl rfl) ?_
    refine .nil (.code (.keep [(9, _), (2, _), (0, _)] ⟨rfl, rfl, rfl, trivial⟩ ?_))
    refine .condD rfl (fun c9 => ?_) (fun c9 => ?_)
    · refine .seq (.keep [(2, _)] ⟨rfl, trivial⟩ (.region ?_))
      refine .p rfl rfl (.build (cs := [i64 0, .slice none 0 0, .slice none 0 0]) rfl (fun _ => by kernel_rfl)) ?_
      refine .s rfl (.storeAll (n := 3) rfl rfl rfl rfl rfl N2.blk rfl) ?_
      intro w10 P10
      have X10 := N2.ext.then P10.ext (by rintro k rfl _; exact Nat.le_refl _)
      refine .p rfl rfl (.as rfl) ?_
      refine .nil (.code ?_)
      refine .retR (.cell (n := 3) rfl rfl rfl rfl rfl (P10.blk.cells) (.tmp rfl .nil)) ?_
      exact ⟨_, by unfold newF; rw [if_pos (by omega)]; rfl, by unfold newF; rw [if_pos (by omega)]; exact tDisk.mk (d := nodisk) Sl.nil Sl.nil (by decide), X10⟩
    · refine .skip (.code (.seq (.keep [(2, _), (0, _)] ⟨rfl, rfl, trivial⟩ (.region ?_))))
      refine .p rfl rfl (.mv rfl) ?_
      refine .p rfl rfl (.mv rfl) ?_
      refine .p rfl rfl (.mul rfl rfl (by omega)) ?_
      refine .v rfl rfl (.make (eb := 1) rfl rfl rfl rfl rfl rfl rfl rfl (by omega)) ?_
      rintro _ w14 ⟨rfl, N14⟩
      refine .p rfl rfl (.build (cs := [i64 n, .slice (some ⟨w2.heap.size, 0, none⟩) (n * 128).toNat (n * 128).toNat, .slice none 0 0]) rfl (fun _ => by kernel_rfl)) ?_
      refine .s rfl (.storeAll (n := 3) rfl rfl rfl rfl rfl (N2.blk.ext N14.ext (fun x => x)) rfl) ?_
      intro w15 P15
      have X15 := (N2.ext.trans N14.ext).then P15.ext (by rintro k rfl _; exact Nat.le_refl _)
      have hz := N2.size
      refine .p rfl rfl (.as rfl) ?_
      refine .nil (.code ?_)
      refine .retR (.cell (n := 3) rfl rfl rfl rfl rfl (P15.blk.cells) (.tmp rfl .nil)) ?_
      have e : newF n = (⟨n, List.replicate (n * 128).toNat 0, []⟩, 0) := by unfold newF; rw [if_neg (by omega), show (n * 128).toNat = n.toNat * 128 by omega]
      rw [e]
      have R := zeros_own (Q := (· = w2.heap.size)) N14 (by simp only [Lim]; omega) rfl rfl
      have R2 := tBytes.ext R P15.ext (by rintro k rfl _ he; have he : w2.heap.size = w.heap.size := he; omega)
      exact ⟨_, rfl, tDisk.mk (d := ⟨n, List.replicate (n * 128).toNat 0, []⟩) (tBytes.mono R2 (by rintro k rfl _; show w.heap.size ≤ w2.heap.size; omega)) Sl.nil (by show -9223372036854775808 ≤ n ∧ n ≤ 9223372036854775807; omega), X15⟩
theorem refsure_fn {w : World} {v : Value} {d : Disk} {n : Int} (h : tDisk.rep All w v d) (hA : askedF d n = 0) : Fn Tryz.prog 149 [v, i64 n] w (fun r w2 => ∃ b, Own tByte (fun _ => False) 5 w2 r ((d.data.drop (n.toNat * 128)).take 128) b ∧ w.heap.size ≤ b ∧ Ext (fun _ => False) w w2) := by
  obtain ⟨u, u', rfl, hd, hw, hc1, hc2⟩ := tDisk.val h
  obtain ⟨a, cap, rfl, hcap⟩ := Sl.val hd
  have hA2 := hA
  unfold askedF at hA2
  split at hA2
  · omega
  split at hA2
  · omega
  rename_i hck hrg
  obtain ⟨k1, k2, k3, k4, k5⟩ := check_ok (Decidable.byContradiction hck)
  obtain ⟨m, rfl⟩ := Int.eq_ofNat_of_zero_le (a := n) (by omega)
  obtain ⟨a3, cap3, hv12, hc12, R12⟩ := Sl.cutE hd (m * 128) (m * 128 + 128) (by omega) (by omega)
  rw [List.drop_take] at R12
  simp only [Nat.add_sub_cancel_left] at hv12 R12
  refine Fn.enter (fun w => Tryz.call149 _ w) Tryz.func149 rfl ?_
  refine .seq (.region ?_)
  refine .v rfl rfl (.box rfl) ?_
  rintro _ w2 ⟨rfl, N2⟩
  refine .p rfl rfl (.as rfl) ?_
  refine .nil (.code (.seq (.keep [(2, _), (1, _)] ⟨rfl, rfl, trivial⟩ (.region ?_))))
  refine .p rfl rfl (.fieldAddr rfl rfl rfl rfl) ?_
  refine .p rfl rfl (.load rfl rfl rfl (N2.blk.cell 1)) ?_
  refine .p rfl rfl (.mv rfl) ?_
  refine .p rfl rfl (.mul rfl rfl (by omega)) ?_
  refine .p rfl rfl (.mv rfl) ?_
  refine .p rfl rfl (.mul rfl rfl (by omega)) ?_
  refine .p rfl rfl (.add rfl rfl (by omega)) ?_
  refine .p rfl rfl (.cast (.cut (s := 1) rfl rfl rfl rfl rfl (by omega)) (show cutV 1 a cap ((m : Int) * 128).toNat ((m : Int) * 128 + 128).toNat = .slice a3 128 cap3 by rw [show ((m : Int) * 128).toNat = m * 128 by omega, show ((m : Int) * 128 + 128).toNat = m * 128 + 128 by omega]; exact hv12)) ?_
  refine .call (first := []) (captured := []) rfl rfl rfl rfl (refBytes_fn (tBytes.ext0 R12 N2.ext)) ?_
  rintro r13 w13 ⟨b13, O13, hb13, X13⟩
  have z2 := N2.size
  refine .p rfl rfl (.as rfl) ?_
  refine .nil (.code ?_)
  refine .ret _ rfl ?_
  exact ⟨b13, O13, by omega, N2.ext.trans X13⟩
theorem refNow_fn {w : World} {v : Value} {d : Disk} {n : Int} (h : tDisk.rep All w v d) (hA : askedF d n = 0) : Fn Tryz.prog 123 [v, i64 n] w (fun r w2 => ∃ b, Own tByte (fun _ => False) 5 w2 r (readF d n) b ∧ w.heap.size ≤ b ∧ Ext (fun _ => False) w w2) := by
  obtain ⟨u, u', rfl, hd, hw, hc1, hc2⟩ := tDisk.val h
  obtain ⟨aw, capw, rfl, hcapw⟩ := Sl.val hw
  have hA2 := hA
  unfold askedF at hA2
  split at hA2
  · omega
  split at hA2
  · omega
  rename_i hck hrg
  obtain ⟨k1, k2, k3, k4, k5⟩ := check_ok (Decidable.byContradiction hck)
  refine Fn.enter (fun w => Tryz.call123 _ w) Tryz.func123 rfl ?_
  refine .seq (.region ?_)
  refine .v rfl rfl (.box rfl) ?_
  rintro _ w2 ⟨rfl, N2⟩
  refine .p rfl rfl (.as rfl) ?_
  refine .nil (.code (.seq (.seq (.keep [(2, _), (1, _)] ⟨rfl, rfl, trivial⟩ (.region ?_)))))
  refine .p rfl rfl (.fieldAddr rfl rfl rfl rfl) ?_
  refine .p rfl rfl (.load rfl rfl rfl (N2.blk.cell 2)) ?_
  refine .p rfl rfl (.len rfl rfl) ?_
  refine .p rfl rfl (.sub rfl rfl (by omega)) ?_
  refine .p rfl rfl (.as rfl) ?_
  refine .nil (.code (.block (.keep [(5, _), (2, _), (1, _)] ⟨rfl, rfl, rfl, trivial⟩ ?_)))
  rw [show ((d.waits.length : Int) - 1) = ((d.waits.length : Int) - 1 - ((0 : Nat) : Int)) by omega]
  refine .loop (S := Nat × World) (fun s => [(2, .pointer (some ⟨w.heap.size, 0, none⟩)), (5, i64 ((d.waits.length : Int) - 1 - (s.1 : Int))), (1, i64 n)]) (fun s => s.2) (fun s => s.1 ≤ d.waits.length ∧ Ext (fun _ => False) w2 s.2 ∧ ∀ j (hj : d.waits.length - 1 - j < d.waits.length), j < s.1 → ¬ (d.waits[d.waits.length - 1 - j]).sector = n) (fun s => d.waits.length - s.1) (0, w2) ⟨rfl, rfl, rfl, trivial⟩ rfl ⟨Nat.zero_le _, .refl _, fun j hj h => absurd h (Nat.not_lt_zero _)⟩ ?_
  rintro ⟨i, wi⟩ J ⟨hi', hX, hall⟩ again
  simp only at hi' hX hall
  change G _ _ _ _ wi
  refine .seq (.seq (.region ?_))
  refine .p rfl rfl (.mv rfl) ?_
  refine .p rfl rfl (.ge rfl rfl) ?_
  refine .nil (.code (.keep [(11, _), (2, _), (5, _), (1, _)] ⟨rfl, rfl, rfl, rfl, trivial⟩ ?_))
  refine .condD rfl (fun c11 => ?_) (fun c11 => ?_)
  · have hil : i < d.waits.length := by omega
    have hi : d.waits.length - 1 - i < d.waits.length := by omega
    have Bi := N2.blk.ext hX (fun x => x)
    obtain ⟨bw, ow, cw, ue, e, _, hcs, hre⟩ := Sl.at hw (List.getElem?_eq_getElem hi)
    cases e
    obtain ⟨ud, rfl, hud, hs1, hs2⟩ := tPut.val hre
    obtain ⟨ad, capd, rfl, _⟩ := Sl.val hud
    have e28 : ((d.waits.length : Int) - 1 - (i : Int)).toNat = d.waits.length - 1 - i := by omega
    have hcs' := hcs.ext (N2.ext.trans hX) (fun x => x)
    have e29 : ow + (d.waits.length - 1 - i) * tPut.size = ow + ((d.waits.length : Int) - 1 - (i : Int)).toNat * 2 := by rw [e28]; rfl
    rw [e29] at hcs'
    refine .skip (.code (.seq (.block (.seq (.keep [(2, _), (5, _), (1, _)] ⟨rfl, rfl, rfl, trivial⟩ (.region ?_))))))
    refine .p rfl rfl (.fieldAddr rfl rfl rfl rfl) ?_
    refine .p rfl rfl (.load rfl rfl rfl (Bi.cell 2)) ?_
    refine .p rfl rfl (.mv rfl) ?_
    refine .p rfl rfl (.indexAddr (s := 2) rfl rfl rfl rfl (by omega)) ?_
    refine .p rfl rfl (.fieldAddr rfl rfl rfl rfl) ?_
    refine .p rfl rfl (.load rfl rfl rfl (hcs' 0 _ rfl)) ?_
    refine .p rfl rfl (.mv rfl) ?_
    refine .p rfl rfl (.eq rfl rfl) ?_
    refine .nil (.code (.keep [(21, _), (2, _), (5, _), (1, _)] ⟨rfl, rfl, rfl, rfl, trivial⟩ ?_))
    refine .condD rfl (fun c21 => ?_) (fun c21 => ?_)
    · refine .seq (.keep [(2, _), (5, _)] ⟨rfl, rfl, trivial⟩ (.region ?_))
      refine .p rfl rfl (.fieldAddr rfl rfl rfl rfl) ?_
      refine .p rfl rfl (.load rfl rfl rfl (Bi.cell 2)) ?_
      refine .p rfl rfl (.mv rfl) ?_
      refine .p rfl rfl (.indexAddr (s := 2) rfl rfl rfl rfl (by omega)) ?_
      refine .p rfl rfl (.fieldAddr rfl rfl rfl rfl) ?_
      refine .p rfl rfl (.load rfl rfl rfl (hcs' 1 _ rfl)) ?_
      refine .call (first := []) (captured := []) rfl rfl rfl rfl (refBytes_fn (tBytes.ext0 hud (N2.ext.trans hX))) ?_
      rintro r28 w28 ⟨b28, O28, hb28, X28⟩
      refine .p rfl rfl (.as rfl) ?_
      refine .nil (.code ?_)
      refine .ret _ rfl ?_
      exact ⟨b28, by unfold readF; rw [last_some hi hil hall c21]; exact O28, by have := N2.size; have : w2.heap.size ≤ wi.heap.size := hX.size; omega, N2.ext.trans (hX.trans X28)⟩
    · refine .skip (.blk (.code (.keep [(2, _), (5, _), (1, _)] ⟨rfl, rfl, rfl, trivial⟩ (.region ?_))))
      refine .p rfl rfl (.mv rfl) ?_
      refine .p rfl rfl (.sub rfl rfl (by omega)) ?_
      refine .p rfl rfl (.as rfl) ?_
      refine .nil ?_
      refine (again (i + 1, wi) ⟨by show i + 1 ≤ _; omega, hX, fun j hj hlt => ?_⟩ (by show _ - (i + 1) < _ - i; omega)).of ⟨rfl, by show some _ = some _; congr 2; simp; omega, rfl, trivial⟩
      rcases Nat.lt_or_ge j i with h | h
      · exact hall j hj h
      · obtain rfl : j = i := by omega
        exact c21
  · refine .exit rfl (.code (.seq (.keep [(2, _), (1, _)] ⟨rfl, rfl, trivial⟩ (.region ?_))))
    refine .p rfl rfl (.loadA (n := 3) rfl rfl rfl rfl rfl (N2.blk.ext hX (fun x => x)).cells) ?_
    refine .p rfl rfl (.mv rfl) ?_
    refine .call (first := []) (captured := []) rfl rfl rfl rfl (refsure_fn (n := n) (tDisk.ext0 h (N2.ext.trans hX)) hA) ?_
    rintro r31 w31 ⟨b31, O31, hb31, X31⟩
    refine .p rfl rfl (.as rfl) ?_
    refine .nil (.code ?_)
    refine .ret _ rfl ?_
    have hl : lastOf d.waits n = none := last_none (fun j hj hlt => hall j hj (by omega))
    exact ⟨b31, by unfold readF; rw [hl]; exact O31, by have := N2.size; have : w2.heap.size ≤ wi.heap.size := hX.size; omega, N2.ext.trans (hX.trans X31)⟩
end Go.Proofs.YtpfehnopghffjaaGreatDoor
/-
  The document's own disk: copies, writes, writes made sure, acts, comparing.
-/
namespace Go.Proofs.YtpfehnopghffjaaGreatDoor
open Go disk
theorem Own.pick {α : Type} {t : Ty α} {Q : Nat → Prop} {E : TypeId} {w : World} {v : Value} {xs : List α} {b : Nat} (h : Own t Q E w v xs b) (b0 : Nat) : (Own t Q E w v xs b ∧ b < w.heap.size) ∨ ∀ Q', Own t Q' E w v xs b0 := by
  have h' := h
  obtain ⟨hl, ⟨rfl, rfl⟩ | ⟨cap, us, sp, rfl, hc, he, hB, hn⟩⟩ := h'
  · exact .inr (fun _ => Own.nil)
  · exact .inl ⟨h, hB.lt⟩
theorem OwnB.of' {w : World} {v : Value} {l : Bs} {b : Nat} {P : Nat → Prop} (h : Own tByte (fun _ => False) 5 w v l b) (hb : b < w.heap.size → P b) : tOwnB.rep P w v l := by
  have h' := h
  obtain ⟨hl, ⟨rfl, rfl⟩ | ⟨cap, us, sp, rfl, hc, he, hB, hn⟩⟩ := h'
  · exact .inl ⟨rfl, rfl⟩
  · exact .inr ⟨b, hb hB.lt, hB.lt, h⟩
theorem refBytesA_fn {w : World} {v : Value} {l : Bs} {b0 : Nat} (h : tBytes.rep All w v l) (hb : b0 < w.heap.size) : Fn Tryz.prog 65 [v] w (fun r w2 => ∃ b, Own tByte (fun _ => False) 5 w2 r l b ∧ b < w2.heap.size ∧ (b = b0 ∨ w.heap.size ≤ b) ∧ Ext (fun _ => False) w w2) :=
  (refBytes_fn h).mono fun r w2 ⟨b, h1, h2, h3⟩ => by
    rcases h1.pick b0 with ⟨h4, h5⟩ | h4
    · exact ⟨b, h4, h5, .inr h2, h3⟩
    · exact ⟨b0, h4 _, Nat.lt_of_lt_of_le hb h3.size, .inl rfl, h3⟩
namespace disk
theorem patch_set {l x : Bs} {sp : List Value} {o k : Nat} (h : o + x.length ≤ l.length) (hk : k < x.length) : ((patch l o (x.take k)).map u8 ++ sp).set (o + k) (u8 x[k]) = (patch l o (x.take (k + 1))).map u8 ++ sp := by
  have e1 : patch l o (x.take k) = (l.take o ++ x.take k) ++ (l[o + k]'(by omega) :: l.drop (o + k + 1)) := by
    unfold patch
    rw [List.length_take, Nat.min_eq_left (by omega), List.drop_eq_getElem_cons (show o + k < l.length by omega)]
  have e2 : patch l o (x.take (k + 1)) = (l.take o ++ x.take k) ++ (x[k] :: l.drop (o + k + 1)) := by
    unfold patch
    rw [List.length_take, Nat.min_eq_left (by omega), List.take_succ_eq_append_getElem hk]
    simp only [List.append_assoc, List.singleton_append, Nat.add_assoc]
  have e3 : (l.take o ++ x.take k).length = o + k := by simp; omega
  rw [e1, e2]
  generalize l.take o ++ x.take k = A at e3
  rw [List.map_append, List.map_append, List.map_cons, List.map_cons, List.append_assoc, List.append_assoc, List.set_append_right _ _ (by rw [List.length_map]; omega), List.length_map, e3, Nat.sub_self, List.cons_append, List.cons_append, List.set_cons_zero]
theorem patch_none {l : Bs} {o : Nat} : patch l o [] = l := by unfold patch; simp
end disk
theorem refTwin_fn {w : World} {v : Value} {d : Disk} (h : tDisk.rep All w v d) (hwl : d.waits.length ≤ 100000) : Fn Tryz.prog 18 [v] w (fun r w2 => OwnD w2 r d (fun k => w.heap.size ≤ k) ∧ Ext (fun _ => False) w w2) := by
  obtain ⟨u, u', rfl, hd, hw, hc1, hc2⟩ := tDisk.val h
  obtain ⟨aw, capw, rfl, hcapw⟩ := Sl.val hw
  have hdR := tBytes.mono hd (P' := fun k => k < w.heap.size) (fun k _ hk => hk)
  refine Fn.enter (fun w => Tryz.call18 _ w) Tryz.func18 rfl ?_
  refine .seq (.region ?_)
  refine .v rfl rfl (.box rfl) ?_
  rintro _ w1 ⟨rfl, N1⟩
  refine .v rfl rfl (.alloc rfl rfl) ?_
  rintro _ w2 ⟨rfl, N2⟩
  have B1 := N1.blk.ext N2.ext (fun x => x)
  have z1 := N1.size
  have z2 := N2.size
  refine .nil (.code (.seq (.keep [(2, _), (1, _)] ⟨rfl, rfl, trivial⟩ ?_)))
  refine .meet (S := Nat × Nat × (Option Addr × Nat) × World) (fun s => [(3, .pointer (some ⟨s.1, 0, none⟩)), (1, .pointer (some ⟨w.heap.size, 0, none⟩)), (2, .pointer (some ⟨w1.heap.size, 0, none⟩))]) (fun s => s.2.2.2) (fun s => Blk s.2.2.2 s.1 44 [i64 d.count, .slice s.2.2.1.1 d.data.length s.2.2.1.2, .slice none 0 0] ∧ Own tByte (fun _ => False) 5 s.2.2.2 (.slice s.2.2.1.1 d.data.length s.2.2.1.2) d.data s.2.1 ∧ Ext (fun _ => False) w2 s.2.2.2 ∧ s.2.1 ≠ s.1 ∧ s.2.1 ≠ w1.heap.size ∧ w.heap.size ≤ s.2.1 ∧ s.2.1 < s.2.2.2.heap.size ∧ w2.heap.size ≤ s.1 ∧ s.1 < s.2.2.2.heap.size) ?_ ?_
  · rintro ⟨p, bd, ⟨a9, cap9⟩, wm⟩ ⟨hBp0, hO0, hX, hne, hn1, hbw, hbl, hp, hpl⟩
    simp only at hBp0 hO0 hX hne hn1 hbw hbl hp hpl
    change A _ _ _ wm
    refine .code (.seq (.seq (.region ?_)))
    refine .p rfl rfl (.as rfl) ?_
    refine .nil (.code (.block ?_))
    refine .loop (S := Nat × (Option Addr × Nat) × World) (fun s => [(1, .pointer (some ⟨w.heap.size, 0, none⟩)), (2, .pointer (some ⟨w1.heap.size, 0, none⟩)), (3, .pointer (some ⟨p, 0, none⟩)), (4, i64 s.1)]) (fun s => s.2.2) (fun s => s.1 ≤ d.waits.length ∧ Ext (fun _ => False) w2 s.2.2 ∧ Blk s.2.2 p 44 [i64 d.count, .slice a9 d.data.length cap9, .slice s.2.1.1 s.1 s.2.1.2] ∧ Own tByte (fun _ => False) 5 s.2.2 (.slice a9 d.data.length cap9) d.data bd ∧ wm.heap.size ≤ s.2.2.heap.size ∧ ((s.1 = 0 ∧ s.2.1.1 = none ∧ s.2.1.2 = 0) ∨ ∃ b, b < s.2.2.heap.size ∧ w2.heap.size ≤ b ∧ b ≠ p ∧ b ≠ bd ∧ Own tPutO (fun k => w2.heap.size ≤ k ∧ k ≠ p ∧ k ≠ bd ∧ k ≠ b) 76 s.2.2 (.slice s.2.1.1 s.1 s.2.1.2) (d.waits.take s.1) b)) (fun s => d.waits.length - s.1) (0, (none, 0), wm) ⟨rfl, rfl, rfl, rfl, trivial⟩ rfl ⟨Nat.zero_le _, hX, hBp0, hO0, Nat.le_refl _, .inl ⟨rfl, rfl, rfl⟩⟩ ?_
    rintro ⟨i, ⟨x2, y2⟩, wi⟩ J ⟨hi', hXi, hBp, hOd, hzi, hT⟩ again
    simp only at hi' hXi hBp hOd hzi hT
    have B1i := B1.ext hXi (fun x => x)
    have zi : w2.heap.size ≤ wi.heap.size := hXi.size
    change G _ _ _ _ wi
    refine .seq (.seq (.region ?_))
    refine .p rfl rfl (.mv rfl) ?_
    refine .p rfl rfl (.fieldAddr rfl rfl rfl rfl) ?_
    refine .p rfl rfl (.load rfl rfl rfl (B1i.cell 2)) ?_
    refine .p rfl rfl (.len rfl rfl) ?_
    refine .p rfl rfl (.lt rfl rfl) ?_
    refine .nil (.code (.keep [(15, _), (1, _), (2, _), (3, _), (4, _)] ⟨rfl, rfl, rfl, rfl, rfl, trivial⟩ ?_))
    refine .condD rfl (fun c15 => ?_) (fun c15 => ?_)
    · have hil : i < d.waits.length := by omega
      obtain ⟨ba, oa, ca, ue, e, hQa, hcs, hre⟩ := Sl.at ((Sl tPut).mono hw (P' := fun k => k < w.heap.size) (fun k _ hk => hk)) (List.getElem?_eq_getElem hil)
      cases e
      obtain ⟨ud, rfl, hud, hs1, hs2⟩ := tPut.val hre
      obtain ⟨ad, capd, rfl, _⟩ := Sl.val hud
      have hcs' := hcs.ext (N1.ext.trans (N2.ext.trans hXi)) (fun x => x)
      have hudi := tBytes.ext0 hud (N1.ext.trans (N2.ext.trans hXi))
      refine .skip (.code (.seq (.block (.keep [(1, _), (2, _), (3, _), (4, _)] ⟨rfl, rfl, rfl, rfl, trivial⟩ (.mix (fun k => w2.heap.size ≤ k ∧ k ≠ p) [14, 16, 17, 19] (by kernel_rfl) (by kernel_rfl) (by kernel_rfl) ?_)))))
      refine .p rfl rfl rfl (fun wx hx => .fieldAddr rfl rfl rfl rfl) ?_
      refine .p rfl rfl rfl (fun wx hx => .load rfl rfl rfl ((hBp.ext hx (fun h => h.2 rfl)).cell 2)) ?_
      refine .p rfl rfl rfl (fun wx hx => .fieldAddr rfl rfl rfl rfl) ?_
      refine .p rfl rfl rfl (fun wx hx => .load rfl rfl rfl ((B1i.ext hx (fun h => by have h : w2.heap.size ≤ w.heap.size := h.1; omega)).cell 2)) ?_
      refine .p rfl rfl rfl (fun wx hx => .mv rfl) ?_
      refine .p rfl rfl rfl (fun wx hx => .indexAddr (s := 2) rfl rfl rfl rfl (by omega)) ?_
      refine .p rfl rfl rfl (fun wx hx => .fieldAddr rfl rfl rfl rfl) ?_
      refine .p rfl rfl rfl (fun wx hx => .load rfl rfl rfl ((hcs'.ext hx (fun h => by have h := h.1; omega)) 0 _ rfl)) ?_
      refine .p rfl rfl rfl (fun wx hx => .fieldAddr rfl rfl rfl rfl) ?_
      refine .p rfl rfl rfl (fun wx hx => .load rfl rfl rfl ((B1i.ext hx (fun h => by have h : w2.heap.size ≤ w.heap.size := h.1; omega)).cell 2)) ?_
      refine .p rfl rfl rfl (fun wx hx => .mv rfl) ?_
      refine .p rfl rfl rfl (fun wx hx => .indexAddr (s := 2) rfl rfl rfl rfl (by omega)) ?_
      refine .p rfl rfl rfl (fun wx hx => .fieldAddr rfl rfl rfl rfl) ?_
      refine .p rfl rfl rfl (fun wx hx => .load rfl rfl rfl ((hcs'.ext hx (fun h => by have h := h.1; omega)) 1 _ rfl)) ?_
      refine .call (first := []) (captured := []) rfl rfl rfl rfl rfl (refBytes_fn (allOf hudi)) (by rintro _ _ ⟨_, _, _, hx⟩; exact hx.mono (fun _ _ h => h.elim)) ?_
      rintro r32 w32 ⟨b32, O32, hb32, X32⟩
      have z32 : wi.heap.size ≤ w32.heap.size := X32.size
      have hb32 : wi.heap.size ≤ b32 := hb32
      obtain ⟨a32, cap32, rfl, hc32⟩ := O32.val
      refine .p rfl rfl rfl (fun wx hx => .build (cs := [i64 (d.waits[i].sector), .slice a32 (d.waits[i].data.length) cap32]) rfl (fun _ => by kernel_rfl)) ?_
      refine .v rfl rfl rfl (.lits rfl rfl (fun _ => by kernel_rfl)) (by rintro _ _ ⟨_, hN⟩; exact (X32.mono (fun _ _ h => h.elim)).trans hN.ext0) ?_
      rintro _ w34 ⟨rfl, N34⟩
      have z34 : w34.heap.size = w32.heap.size + 1 := N34.size
      have X34 := X32.trans N34.ext
      obtain ⟨b, hOb, hb⟩ : ∃ b, Own tPutO (fun k => w2.heap.size ≤ k ∧ k ≠ p ∧ k ≠ bd ∧ k ≠ b) 76 w34 (.slice x2 i y2) (d.waits.take i) b ∧ (b = w34.heap.size ∨ (b < wi.heap.size ∧ w2.heap.size ≤ b ∧ b ≠ p ∧ b ≠ bd)) := by
        rcases hT with ⟨rfl, rfl, rfl⟩ | ⟨b, h1, h2, h3, h4, h5⟩
        · exact ⟨w34.heap.size, Own.nil, .inl rfl⟩
        · exact ⟨b, h5.ext0 X34, .inr ⟨h1, h2, h3, h4⟩⟩
      have htl : (d.waits.take i).length = i := by simp; omega
      refine .v rfl rfl rfl (.append (t := tPutO) (Q := fun k => w2.heap.size ≤ k ∧ k ≠ p ∧ k ≠ bd ∧ k ≠ b) (eb := 32) rfl hOb rfl (.inr (New.holds N34 (.cons (tPutO.mk (OwnB.of' O32 (fun hlt => by rcases hb with hb | hb <;> refine ⟨?_, ?_, ?_, ?_⟩ <;> omega)) ⟨hs1, hs2⟩) .nil) rfl)) rfl rfl rfl rfl rfl rfl rfl (by simp; omega) (by simp [Lim]; omega) (fun k h _ => h.2.2.2)) (by rintro _ _ ⟨_, _, hx, _⟩; exact (X34.mono (fun _ _ h => h.elim)).trans (hx.mono (by rintro k hk rfl; rcases hb with hb | hb <;> refine ⟨?_, ?_⟩ <;> omega))) ?_
      rintro r35 w35 ⟨b35, O35, X35, hb35⟩
      have z35 : w34.heap.size ≤ w35.heap.size := X35.size
      have l35 : b35 < w35.heap.size := O35.lt (List.append_ne_nil_of_right_ne_nil _ (List.cons_ne_nil _ _))
      rw [← List.take_succ_eq_append_getElem hil] at O35
      obtain ⟨a35, cap35, rfl, hc35⟩ := O35.val
      have htl2 : (d.waits.take (i + 1)).length = i + 1 := by simp; omega
      rw [htl2] at O35 hc35
      have Xb : Ext (fun k => k = b) wi w35 := (X34.mono (fun _ _ h => h.elim)).trans X35
      refine .p rfl rfl rfl (fun wx hx => .fieldAddr rfl rfl rfl rfl) ?_
      refine .sL rfl rfl (.store rfl rfl rfl rfl rfl (hBp.ext Xb (fun h => by have h : p = b := h; omega)) (by simp)) (by kernel_rfl) ?_
      intro w37 P37
      have z37 : w37.heap.size = w35.heap.size := P37.size
      refine .nil (.blk (.code (.keep [(1, _), (2, _), (3, _), (4, _)] ⟨rfl, rfl, rfl, rfl, trivial⟩ (.region ?_))))
      refine .p rfl rfl (.mv rfl) ?_
      refine .p rfl rfl (.add rfl rfl (by omega)) ?_
      refine .p rfl rfl (.as rfl) ?_
      refine .nil ?_
      have hb35' : w2.heap.size ≤ b35 ∧ b35 ≠ p ∧ b35 ≠ bd := by rcases hb35 with rfl | rfl <;> rcases hb with hb | hb <;> refine ⟨?_, ?_, ?_⟩ <;> omega
      refine (again (i + 1, (a35, cap35), w37) ⟨by show i + 1 ≤ _; omega, (hXi.then Xb (by rintro k hk _; have hk : k = b := hk; omega)).then P37.ext (by rintro k rfl _; exact hp), ?_, ?_, by show wm.heap.size ≤ w37.heap.size; omega, .inr ⟨b35, by show b35 < w37.heap.size; omega, hb35'.1, hb35'.2.1, hb35'.2.2, (O35.mono (Q' := fun k => w2.heap.size ≤ k ∧ k ≠ p ∧ k ≠ bd ∧ k ≠ b35) (fun k h _ => ⟨h.1.1, h.1.2.1, h.1.2.2.1, h.2⟩)).ext P37.ext hb35'.2.1 (fun k h _ => h.2.1)⟩⟩ (by show _ - (i + 1) < _ - i; omega)).of ⟨rfl, rfl, rfl, rfl, trivial⟩
      · have B37 := P37.blk
        rw [htl2] at B37
        exact B37
      · exact (hOd.ext Xb (by rcases hb with hb | hb <;> omega) (fun _ h _ => h.elim)).ext P37.ext hne (fun _ h _ => h.elim)
    · obtain rfl : i = d.waits.length := by omega
      rw [List.take_length] at hT
      refine .exit rfl (.code (.seq (.keep [(2, _), (3, _)] ⟨rfl, rfl, trivial⟩ (.region ?_))))
      refine .p rfl rfl (.loadA (n := 3) rfl rfl rfl rfl rfl hBp.cells) ?_
      refine .s rfl (.storeAll (n := 3) rfl rfl rfl rfl rfl (N2.blk.ext hXi (fun x => x)) rfl) ?_
      intro w40 P40
      have z40 : w40.heap.size = wi.heap.size := P40.size
      refine .nil (.code ?_)
      refine .retR (.cell (n := 3) rfl rfl rfl rfl rfl (P40.blk.cells) .nil) ?_
      have D40 := hOd.ext P40.ext hn1 (fun _ h _ => h.elim)
      refine ⟨?_, (N1.ext.trans (N2.ext.trans hXi)).then P40.ext (by rintro k rfl _; show w.heap.size ≤ w1.heap.size; omega)⟩
      rcases hT with ⟨h0, rfl, rfl⟩ | ⟨b, h1, h2, h3, h4, h5⟩
      · have hn0 := List.length_eq_zero_iff.1 h0
        exact ⟨_, _, bd, p, fun _ => False, rfl, ⟨hc1, hc2⟩, D40, by rw [hn0]; exact Own.nil, ⟨by omega, by omega, hne, hbw, by show w.heap.size ≤ p; omega⟩, fun k h _ => h.elim⟩
      · exact ⟨_, _, bd, b, fun k => w2.heap.size ≤ k ∧ k ≠ p ∧ k ≠ bd ∧ k ≠ b, rfl, ⟨hc1, hc2⟩, D40, h5.ext P40.ext (by show ¬ b = w1.heap.size; omega) (fun k h _ he => by have h := h.1; have he : k = w1.heap.size := he; omega), ⟨by omega, by omega, fun he => h4 he.symm, hbw, by show w.heap.size ≤ b; omega⟩, fun k h _ => ⟨by have h := h.1; show w.heap.size ≤ k; omega, h.2.2.1, h.2.2.2⟩⟩
  · intro meet
    refine .tree (fun k => w2.heap.size ≤ k) [4, 6, 7] (.op 0 (.op 1 (.op 2 (.op 3 (.alt 4 (.op 4 (.op 5 (.alt 6 (.op 6 (.alt 7 (.op 7 (.nil)) (.stop))) (.stop)))) (.alt 6 (.op 6 (.alt 4 (.op 4 (.op 5 (.alt 7 (.op 7 (.nil)) (.stop)))) (.stop))) (.stop))))))) (by kernel_rfl) (by kernel_rfl) (by kernel_rfl) ?_
    refine .p rfl rfl rfl rfl (fun wx hx => .fieldAddr rfl rfl rfl rfl) ?_
    refine .p rfl rfl rfl rfl (fun wx hx => .load rfl rfl rfl ((B1.ext hx (by show ¬ (w2.heap.size ≤ w.heap.size); omega)).cell 0)) ?_
    refine .p rfl rfl rfl rfl (fun wx hx => .fieldAddr rfl rfl rfl rfl) ?_
    refine .p rfl rfl rfl rfl (fun wx hx => .load rfl rfl rfl ((B1.ext hx (by show ¬ (w2.heap.size ≤ w.heap.size); omega)).cell 1)) ?_
    refine .alt ?_ ?_
    · refine .call (first := []) (captured := []) rfl rfl rfl rfl rfl rfl (refBytesA_fn (b0 := w.heap.size) (allOf (tBytes.ext hdR ((N1.ext.trans N2.ext).mono (fun _ _ h => h.elim) |>.trans (Ext.refl _)) (by intro k hk _ he; have he : w2.heap.size ≤ k := he; omega))) (by omega)) (by rintro _ _ ⟨_, _, _, _, hx⟩; exact (Ext.refl _).trans (hx.mono (fun _ _ h => h.elim))) ?_
      rintro r9 w9 ⟨bd, O9, hl9, hb9, X9⟩
      have z9 := X9.size
      obtain ⟨a9, cap9, rfl, hc9⟩ := O9.val
      have hX9 : Ext (fun k => w2.heap.size ≤ k) _ _ := (Ext.refl _).trans (X9.mono (fun _ _ h => h.elim))
      refine .p rfl rfl rfl rfl (fun wx hx => .build (cs := [i64 d.count, .slice a9 d.data.length cap9, .slice none 0 0]) rfl (fun _ => by kernel_rfl)) ?_
      refine .alt ?_ ?_
      · refine .v rfl rfl rfl rfl (.alloc rfl rfl) (by rintro _ _ ⟨_, hN⟩; exact hX9.trans hN.ext0) ?_
        rintro _ w3 ⟨rfl, N3⟩
        have z3 := N3.size
        have hX3 : Ext (fun k => w2.heap.size ≤ k) _ _ := hX9.trans (N3.ext0)
        refine .alt ?_ ?_
        · refine .s rfl rfl rfl (.storeAll (n := 3) (E := 44) (cs := [i64 0, .slice none 0 0, .slice none 0 0]) rfl rfl rfl rfl rfl (by first | exact N3.blk | exact N3.blk.ext X9 (fun x => x)) rfl) (by intro wz hP; exact hX3.trans (hP.ext.mono (by rintro k _ rfl; show w2.heap.size ≤ _; omega))) ?_
          intro w7 P7
          have hXs7 : Ext (fun k => w2.heap.size ≤ k) _ _ := hX3.trans (P7.ext.mono (by rintro k _ rfl; show w2.heap.size ≤ _; omega))
          refine .nil ?_
          have hz7 := P7.size
          exact (meet (w9.heap.size, bd, (a9, cap9), w7) ⟨P7.blk, (O9.ext0 N3.ext).ext P7.ext (by show ¬ bd = w9.heap.size; omega) (fun _ h _ => h.elim), (Ext.refl w2).then hXs7 (fun k hk _ => hk), by show bd ≠ w9.heap.size; omega, by show bd ≠ w1.heap.size; omega, by show w.heap.size ≤ bd; omega, by show bd < w7.heap.size; omega, by show w2.heap.size ≤ w9.heap.size; omega, by show w9.heap.size < w7.heap.size; omega⟩).of ⟨rfl, rfl, rfl, trivial⟩
        exact .stop
      exact .stop
    refine .alt ?_ ?_
    · refine .v rfl rfl rfl rfl (.alloc rfl rfl) (by rintro _ _ ⟨_, hN⟩; exact (Ext.refl _).trans hN.ext0) ?_
      rintro _ w3 ⟨rfl, N3⟩
      have z3 := N3.size
      have hX3 : Ext (fun k => w2.heap.size ≤ k) _ _ := (Ext.refl _).trans (N3.ext0)
      refine .alt ?_ ?_
      · refine .call (first := []) (captured := []) rfl rfl rfl rfl rfl rfl (refBytesA_fn (b0 := w.heap.size) (allOf (tBytes.ext hdR ((N1.ext.trans N2.ext).mono (fun _ _ h => h.elim) |>.trans hX3) (by intro k hk _ he; have he : w2.heap.size ≤ k := he; omega))) (by omega)) (by rintro _ _ ⟨_, _, _, _, hx⟩; exact hX3.trans (hx.mono (fun _ _ h => h.elim))) ?_
        rintro r9 w9 ⟨bd, O9, hl9, hb9, X9⟩
        have z9 := X9.size
        obtain ⟨a9, cap9, rfl, hc9⟩ := O9.val
        have hX9 : Ext (fun k => w2.heap.size ≤ k) _ _ := hX3.trans (X9.mono (fun _ _ h => h.elim))
        refine .p rfl rfl rfl rfl (fun wx hx => .build (cs := [i64 d.count, .slice a9 d.data.length cap9, .slice none 0 0]) rfl (fun _ => by kernel_rfl)) ?_
        refine .alt ?_ ?_
        · refine .s rfl rfl rfl (.storeAll (n := 3) (E := 44) (cs := [i64 0, .slice none 0 0, .slice none 0 0]) rfl rfl rfl rfl rfl (by first | exact N3.blk | exact N3.blk.ext X9 (fun x => x)) rfl) (by intro wz hP; exact hX9.trans (hP.ext.mono (by rintro k _ rfl; show w2.heap.size ≤ _; omega))) ?_
          intro w7 P7
          have hXs7 : Ext (fun k => w2.heap.size ≤ k) _ _ := hX9.trans (P7.ext.mono (by rintro k _ rfl; show w2.heap.size ≤ _; omega))
          refine .nil ?_
          have hz7 := P7.size
          exact (meet (w2.heap.size, bd, (a9, cap9), w7) ⟨P7.blk, O9.ext P7.ext (by show ¬ bd = w2.heap.size; omega) (fun _ h _ => h.elim), (Ext.refl w2).then hXs7 (fun k hk _ => hk), by show bd ≠ w2.heap.size; omega, by show bd ≠ w1.heap.size; omega, by show w.heap.size ≤ bd; omega, by show bd < w7.heap.size; omega, by show w2.heap.size ≤ w2.heap.size; omega, by show w2.heap.size < w7.heap.size; omega⟩).of ⟨rfl, rfl, rfl, trivial⟩
        exact .stop
      exact .stop
    exact .stop
end Go.Proofs.YtpfehnopghffjaaGreatDoor
/-
  The document's own disk: writes made sure, acts, comparing.
-/
namespace Go.Proofs.YtpfehnopghffjaaGreatDoor
open Go disk
namespace disk
theorem put_ext {p q : disk.Put} (h1 : p.sector = q.sector) (h2 : p.data = q.data) : p = q := by cases p; cases q; simp_all
theorem do_asked {d : Disk} {n : Int} {b : Bs} (h : ¬ askedF d n = 0) : doF d [⟨false, n, b⟩] = (nodisk, askedF d n) := by
  unfold askedF at h ⊢
  unfold doF
  split
  · rfl
  · rename_i hc
    rw [if_neg hc] at h
    split
    · rename_i hr
      rw [doN, if_neg (by simp), if_pos hr]
    · rename_i hr; rw [if_neg hr] at h; exact absurd rfl h
end disk
theorem refSame_fn {w : World} {v u : Value} {a b : Disk} (ha : tDisk.rep All w v a) (hb : tDisk.rep All w u b) : Fn Tryz.prog 26 [v, u] w (fun r w2 => r = .bool (decide (a = b)) ∧ Ext (fun _ => False) w w2) := by
  obtain ⟨va, va', rfl, had, haw, _⟩ := tDisk.val ha
  obtain ⟨vb, vb', rfl, hbd, hbw, _⟩ := tDisk.val hb
  obtain ⟨ac, ad, aw⟩ := a
  obtain ⟨bc, bd, bw⟩ := b
  simp only at had haw hbd hbw
  obtain ⟨x2, y2, rfl, _⟩ := Sl.val haw
  obtain ⟨x4, y4, rfl, _⟩ := Sl.val hbw
  have hl1 := Sl.lim haw
  have hl2 := Sl.lim hbw
  simp only [Lim] at hl1 hl2
  refine Fn.enter (fun w => Tryz.call26 _ w) Tryz.func26 rfl ?_
  refine .seq (.region ?_)
  refine .v rfl rfl (.box rfl) ?_
  rintro _ w2 ⟨rfl, N2⟩
  refine .v rfl rfl (.box rfl) ?_
  rintro _ w3 ⟨rfl, N3⟩
  have B2 := N2.blk.ext N3.ext (fun x => x)
  have B3 := N3.blk
  have X3 := N2.ext.trans N3.ext
  refine .p rfl rfl (.as rfl) ?_
  refine .nil (.code (.seq (.seq (.keep [(3, _), (2, _)] ⟨rfl, rfl, trivial⟩ (.region ?_)))))
  refine .p rfl rfl (.fieldAddr rfl rfl rfl rfl) ?_
  refine .p rfl rfl (.load rfl rfl rfl (B2.cell 0)) ?_
  refine .p rfl rfl (.fieldAddr rfl rfl rfl rfl) ?_
  refine .p rfl rfl (.load rfl rfl rfl (B3.cell 0)) ?_
  refine .p rfl rfl (.ne rfl rfl) ?_
  refine .p rfl rfl (.mv rfl) ?_
  refine .caseD 11 rfl (fun c11 => ?_) (fun c11 => ?_)
  · refine .skip rfl rfl ?_
    refine .skip rfl rfl ?_
    refine .skip rfl rfl ?_
    refine .skip rfl rfl ?_
    refine .skip rfl rfl ?_
    refine .skip rfl rfl ?_
    refine .skip rfl rfl ?_
    refine .p rfl rfl (.pickT rfl rfl) ?_
    refine .p rfl rfl (.mv rfl) ?_
    refine .skip rfl rfl ?_
    refine .skip rfl rfl ?_
    refine .skip rfl rfl ?_
    refine .skip rfl rfl ?_
    refine .skip rfl rfl ?_
    refine .skip rfl rfl ?_
    refine .skip rfl rfl ?_
    refine .p rfl rfl (.pickT rfl rfl) ?_
    refine .nil (.code (.keep [(28, _), (3, _), (2, _)] ⟨rfl, rfl, rfl, trivial⟩ (.condT rfl (.seq (.keep [] trivial (.region ?_))))))
    refine .p rfl rfl (.as rfl) ?_
    refine .nil (.code ?_)
    refine .ret _ rfl ?_
    exact ⟨by rw [decide_eq_false (fun h => c11 (by cases h; rfl))]; rfl, X3⟩
  · refine .p rfl rfl (.fieldAddr rfl rfl rfl rfl) ?_
    refine .p rfl rfl (.load rfl rfl rfl (B2.cell 1)) ?_
    refine .p rfl rfl (.bytesStr rfl (tBytes.ext0 had X3) rfl rfl rfl) ?_
    refine .p rfl rfl (.fieldAddr rfl rfl rfl rfl) ?_
    refine .p rfl rfl (.load rfl rfl rfl (B3.cell 1)) ?_
    refine .p rfl rfl (.bytesStr rfl (tBytes.ext0 hbd X3) rfl rfl rfl) ?_
    refine .p rfl rfl (.neS rfl rfl) ?_
    refine .p rfl rfl (.pickF rfl rfl) ?_
    refine .p rfl rfl (.mv rfl) ?_
    refine .caseD 20 rfl (fun c20 => ?_) (fun c20 => ?_)
    · refine .skip rfl rfl ?_
      refine .skip rfl rfl ?_
      refine .skip rfl rfl ?_
      refine .skip rfl rfl ?_
      refine .skip rfl rfl ?_
      refine .skip rfl rfl ?_
      refine .skip rfl rfl ?_
      refine .p rfl rfl (.pickT rfl rfl) ?_
      refine .nil (.code (.keep [(28, _), (3, _), (2, _)] ⟨rfl, rfl, rfl, trivial⟩ (.condT rfl (.seq (.keep [] trivial (.region ?_))))))
      refine .p rfl rfl (.as rfl) ?_
      refine .nil (.code ?_)
      refine .ret _ rfl ?_
      exact ⟨by rw [decide_eq_false (fun h => c20 (by cases h; rfl))]; rfl, X3⟩
    · refine .p rfl rfl (.fieldAddr rfl rfl rfl rfl) ?_
      refine .p rfl rfl (.load rfl rfl rfl (B2.cell 2)) ?_
      refine .p rfl rfl (.len rfl rfl) ?_
      refine .p rfl rfl (.fieldAddr rfl rfl rfl rfl) ?_
      refine .p rfl rfl (.load rfl rfl rfl (B3.cell 2)) ?_
      refine .p rfl rfl (.len rfl rfl) ?_
      refine .p rfl rfl (.ne rfl rfl) ?_
      refine .p rfl rfl (.pickF rfl rfl) ?_
      refine .nil (.code (.keep [(28, _), (3, _), (2, _)] ⟨rfl, rfl, rfl, trivial⟩ ?_))
      refine .condD rfl (fun c28 => ?_) (fun c28 => ?_)
      · refine .seq (.keep [] trivial (.region ?_))
        refine .p rfl rfl (.as rfl) ?_
        refine .nil (.code ?_)
        refine .ret _ rfl ?_
        exact ⟨by rw [decide_eq_false (fun h => c28 (by cases h; rfl))]; rfl, X3⟩
      · refine .skip (.code (.seq (.seq (.keep [(3, _), (2, _)] ⟨rfl, rfl, trivial⟩ (.region ?_)))))
        refine .p rfl rfl (.as rfl) ?_
        refine .nil (.code (.block ?_))
        have c11 : ac = bc := Decidable.not_not.1 c11
        have c20 : ad = bd := Decidable.not_not.1 c20
        subst c11
        subst c20
        have hlen : aw.length = bw.length := by omega
        refine .loop (S := Nat) (fun s => [(2, .pointer (some ⟨w.heap.size, 0, none⟩)), (3, .pointer (some ⟨w2.heap.size, 0, none⟩)), (5, i64 s)]) (fun s => w3) (fun s => s ≤ aw.length ∧ aw.take s = bw.take s) (fun s => aw.length - s) 0 ⟨rfl, rfl, rfl, trivial⟩ rfl ⟨Nat.zero_le _, rfl⟩ ?_
        rintro i J ⟨hi', htk⟩ again
        refine .seq (.seq (.region ?_))
        refine .p rfl rfl (.mv rfl) ?_
        refine .p rfl rfl (.fieldAddr rfl rfl rfl rfl) ?_
        refine .p rfl rfl (.load rfl rfl rfl (B2.cell 2)) ?_
        refine .p rfl rfl (.len rfl rfl) ?_
        refine .p rfl rfl (.lt rfl rfl) ?_
        refine .nil (.code (.keep [(33, _), (2, _), (3, _), (5, _)] ⟨rfl, rfl, rfl, rfl, trivial⟩ ?_))
        refine .condD rfl (fun c33 => ?_) (fun c33 => ?_)
        · have hil : i < aw.length := by omega
          have him : i < bw.length := by omega
          obtain ⟨b1, o1, q1, ue, e, _, hcs, hre⟩ := Sl.at haw (List.getElem?_eq_getElem hil)
          cases e
          obtain ⟨ud, rfl, hudl, hsl⟩ := tPut.val hre
          obtain ⟨adl, capd, rfl, _⟩ := Sl.val hudl
          have hcs' := hcs.ext X3 (fun x => x)
          obtain ⟨b2, o2, q2, ue2, e2, _, hcm, hrm⟩ := Sl.at hbw (List.getElem?_eq_getElem him)
          cases e2
          obtain ⟨um, rfl, hudm, hsm⟩ := tPut.val hrm
          obtain ⟨adm, capdm, rfl, _⟩ := Sl.val hudm
          have hcm' := hcm.ext X3 (fun x => x)
          refine .skip (.code (.seq (.block (.seq (.keep [(2, _), (3, _), (5, _)] ⟨rfl, rfl, rfl, trivial⟩ (.draws (by kernel_rfl) (by kernel_rfl) ?_))))))
          refine .p rfl rfl (.fieldAddr rfl rfl rfl rfl) ?_
          refine .p rfl rfl (.load rfl rfl rfl (B2.cell 2)) ?_
          refine .p rfl rfl (.mv rfl) ?_
          refine .p rfl rfl (.indexAddr (s := 2) rfl rfl rfl rfl (by omega)) ?_
          refine .p rfl rfl (.fieldAddr rfl rfl rfl rfl) ?_
          refine .p rfl rfl (.load rfl rfl rfl (hcs' 0 _ rfl)) ?_
          refine .p rfl rfl (.fieldAddr rfl rfl rfl rfl) ?_
          refine .p rfl rfl (.load rfl rfl rfl (B3.cell 2)) ?_
          refine .p rfl rfl (.mv rfl) ?_
          refine .p rfl rfl (.indexAddr (s := 2) rfl rfl rfl rfl (by omega)) ?_
          refine .p rfl rfl (.fieldAddr rfl rfl rfl rfl) ?_
          refine .p rfl rfl (.load rfl rfl rfl (hcm' 0 _ rfl)) ?_
          refine .p rfl rfl (.ne rfl rfl) ?_
          refine .p rfl rfl (.mv rfl) ?_
          refine .caseD 49 rfl (fun c49 => ?_) (fun c49 => ?_)
          · refine .skip rfl rfl ?_
            refine .skip rfl rfl ?_
            refine .skip rfl rfl ?_
            refine .skip rfl rfl ?_
            refine .skip rfl rfl ?_
            refine .skip rfl rfl ?_
            refine .skip rfl rfl ?_
            refine .skip rfl rfl ?_
            refine .skip rfl rfl ?_
            refine .skip rfl rfl ?_
            refine .skip rfl rfl ?_
            refine .skip rfl rfl ?_
            refine .skip rfl rfl ?_
            refine .skip rfl rfl ?_
            refine .skip rfl rfl ?_
            refine .p rfl rfl (.pickT rfl rfl) ?_
            refine .nil (.code (.keep [(65, _), (2, _), (3, _), (5, _)] ⟨rfl, rfl, rfl, rfl, trivial⟩ (.condT rfl (.seq (.keep [] trivial (.region ?_))))))
            refine .p rfl rfl (.as rfl) ?_
            refine .nil (.code ?_)
            refine .ret _ rfl ?_
            exact ⟨by rw [decide_eq_false (fun h => c49 (by cases h; rfl))]; rfl, X3⟩
          · refine .p rfl rfl (.fieldAddr rfl rfl rfl rfl) ?_
            refine .p rfl rfl (.load rfl rfl rfl (B2.cell 2)) ?_
            refine .p rfl rfl (.mv rfl) ?_
            refine .p rfl rfl (.indexAddr (s := 2) rfl rfl rfl rfl (by omega)) ?_
            refine .p rfl rfl (.fieldAddr rfl rfl rfl rfl) ?_
            refine .p rfl rfl (.load rfl rfl rfl (hcs' 1 _ rfl)) ?_
            refine .p rfl rfl (.bytesStr rfl (tBytes.ext0 hudl X3) rfl rfl rfl) ?_
            refine .p rfl rfl (.fieldAddr rfl rfl rfl rfl) ?_
            refine .p rfl rfl (.load rfl rfl rfl (B3.cell 2)) ?_
            refine .p rfl rfl (.mv rfl) ?_
            refine .p rfl rfl (.indexAddr (s := 2) rfl rfl rfl rfl (by omega)) ?_
            refine .p rfl rfl (.fieldAddr rfl rfl rfl rfl) ?_
            refine .p rfl rfl (.load rfl rfl rfl (hcm' 1 _ rfl)) ?_
            refine .p rfl rfl (.bytesStr rfl (tBytes.ext0 hudm X3) rfl rfl rfl) ?_
            refine .p rfl rfl (.neS rfl rfl) ?_
            refine .p rfl rfl (.pickF rfl rfl) ?_
            refine .nil (.code (.keep [(65, _), (2, _), (3, _), (5, _)] ⟨rfl, rfl, rfl, rfl, trivial⟩ ?_))
            refine .condD rfl (fun c65 => ?_) (fun c65 => ?_)
            · refine .seq (.keep [] trivial (.region ?_))
              refine .p rfl rfl (.as rfl) ?_
              refine .nil (.code ?_)
              refine .ret _ rfl ?_
              exact ⟨by rw [decide_eq_false (fun h => c65 (by cases h; rfl))]; rfl, X3⟩
            · refine .skip (.blk (.code (.keep [(2, _), (3, _), (5, _)] ⟨rfl, rfl, rfl, trivial⟩ (.region ?_))))
              refine .p rfl rfl (.mv rfl) ?_
              refine .p rfl rfl (.add rfl rfl (by omega)) ?_
              refine .p rfl rfl (.as rfl) ?_
              refine .nil ?_
              have c49 : aw[i].sector = bw[i].sector := Decidable.not_not.1 c49
              exact (again (i + 1) ⟨by show i + 1 ≤ _; omega, by show aw.take (i + 1) = bw.take (i + 1); rw [List.take_succ_eq_append_getElem hil, List.take_succ_eq_append_getElem him, htk, put_ext c49 (Decidable.not_not.1 c65)]⟩ (by show _ - (i + 1) < _ - i; omega)).of ⟨rfl, rfl, rfl, trivial⟩
        · refine .exit rfl (.code (.seq (.keep [] trivial (.region ?_))))
          refine .p rfl rfl (.as rfl) ?_
          refine .nil (.code ?_)
          refine .ret _ rfl ?_
          obtain rfl : i = aw.length := by omega
          rw [List.take_length, hlen, List.take_length] at htk
          subst htk
          exact ⟨by rw [decide_eq_true rfl]; rfl, X3⟩
end Go.Proofs.YtpfehnopghffjaaGreatDoor
