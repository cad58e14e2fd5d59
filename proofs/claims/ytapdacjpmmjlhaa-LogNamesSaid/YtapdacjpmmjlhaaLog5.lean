
/-
  Package log: records, how many sectors, how often emptied; the acts that add, that empty.
-/
import Derived.Test.YtapdacjpmmjlhaaLog4
import Derived.Test.YtapdacjpmmjlhaaActs
import Derived.Test.YtapdacjpmmjlhaaRef02b
set_option linter.unusedVariables false
set_option linter.unusedSimpArgs false
set_option maxRecDepth 20000
namespace Go.Proofs.Ytapdacjpmmjlhaa
open Go disk log
theorem Records_fn {w : World} {v : Value} {d : Disk} (h : tDisk.rep All w v d) : Fn Try.prog 17 [v] w (fun r w2 => ∃ v', r = .tuple #[v', i64 (stateF d).2] ∧ tStrs.rep (fun k => w.heap.size ≤ k) w2 v' (stateF d).1.recs ∧ Ext (fun _ => False) w w2) := by
  obtain ⟨u, u', rfl, hd, hw, hc1, hc2⟩ := tDisk.val h
  refine Fn.enter (fun w => Try.call17 _ w) Try.func17 rfl ?_
  refine .seq (.region ?_)
  refine .v rfl rfl (.box rfl) ?_
  rintro _ w1 ⟨rfl, N1⟩
  refine .p rfl rfl (.as rfl) ?_
  refine .p rfl rfl (.as rfl) ?_
  refine .nil (.code (.seq (.keep [(1, _)] ⟨rfl, trivial⟩ (.region ?_))))
  refine .p rfl rfl (.loadA (n := 3) rfl rfl rfl rfl rfl N1.blk.cells) ?_
  refine .call (first := []) (captured := []) rfl rfl rfl rfl (logread_fn (tDisk.ext0 h N1.ext)) ?_
  rintro _ w8 ⟨p, v8, rfl, B8, R8, hp8, X8⟩
  have z1 := N1.size
  refine .p rfl rfl (.mv rfl) ?_
  refine .p rfl rfl (.extract rfl rfl) ?_
  refine .p rfl rfl (.extract rfl rfl) ?_
  refine .p rfl rfl (.as rfl) ?_
  refine .p rfl rfl (.as rfl) ?_
  refine .nil (.code (.seq (.keep [(5, _), (4, _)] ⟨rfl, rfl, trivial⟩ (.region ?_))))
  refine .p rfl rfl (.mv rfl) ?_
  refine .p rfl rfl (.nilCheck rfl) ?_
  refine .p rfl rfl (.fieldAddr rfl rfl rfl rfl) ?_
  refine .p rfl rfl (.load rfl rfl rfl (B8.cell 2)) ?_
  refine .p rfl rfl (.mv rfl) ?_
  refine .p rfl rfl (.as rfl) ?_
  refine .p rfl rfl (.as rfl) ?_
  refine .nil (.code ?_)
  refine .ret _ rfl ?_
  exact ⟨_, rfl, tStrs.mono R8 (fun k h _ => by have h : w1.heap.size ≤ k := h; show w.heap.size ≤ k; omega), N1.ext.trans X8⟩
theorem At_fn {w : World} {v : Value} {d : Disk} (h : tDisk.rep All w v d) : Fn Try.prog 19 [v] w (fun r w2 => r = .tuple #[i64 ((stateF d).1.at' : Nat), i64 (stateF d).2] ∧ Ext (fun _ => False) w w2) := by
  obtain ⟨u, u', rfl, hd, hw, hc1, hc2⟩ := tDisk.val h
  refine Fn.enter (fun w => Try.call19 _ w) Try.func19 rfl ?_
  refine .seq (.region ?_)
  refine .v rfl rfl (.box rfl) ?_
  rintro _ w1 ⟨rfl, N1⟩
  refine .p rfl rfl (.as rfl) ?_
  refine .p rfl rfl (.as rfl) ?_
  refine .nil (.code (.seq (.keep [(1, _)] ⟨rfl, trivial⟩ (.region ?_))))
  refine .p rfl rfl (.loadA (n := 3) rfl rfl rfl rfl rfl N1.blk.cells) ?_
  refine .call (first := []) (captured := []) rfl rfl rfl rfl (logread_fn (tDisk.ext0 h N1.ext)) ?_
  rintro _ w8 ⟨p, v8, rfl, B8, R8, hp8, X8⟩
  have z1 := N1.size
  refine .p rfl rfl (.mv rfl) ?_
  refine .p rfl rfl (.extract rfl rfl) ?_
  refine .p rfl rfl (.extract rfl rfl) ?_
  refine .p rfl rfl (.as rfl) ?_
  refine .p rfl rfl (.as rfl) ?_
  refine .nil (.code (.seq (.keep [(5, _), (4, _)] ⟨rfl, rfl, trivial⟩ (.region ?_))))
  refine .p rfl rfl (.mv rfl) ?_
  refine .p rfl rfl (.nilCheck rfl) ?_
  refine .p rfl rfl (.fieldAddr rfl rfl rfl rfl) ?_
  refine .p rfl rfl (.load rfl rfl rfl (B8.cell 3)) ?_
  refine .p rfl rfl (.mv rfl) ?_
  refine .p rfl rfl (.as rfl) ?_
  refine .p rfl rfl (.as rfl) ?_
  refine .nil (.code ?_)
  refine .ret _ rfl ?_
  exact ⟨rfl, N1.ext.trans X8⟩
theorem Epoch_fn {w : World} {v : Value} {d : Disk} (h : tDisk.rep All w v d) : Fn Try.prog 21 [v] w (fun r w2 => r = .tuple #[u32 (stateF d).1.epoch, i64 (stateF d).2] ∧ Ext (fun _ => False) w w2) := by
  obtain ⟨u, u', rfl, hd, hw, hc1, hc2⟩ := tDisk.val h
  refine Fn.enter (fun w => Try.call21 _ w) Try.func21 rfl ?_
  refine .seq (.region ?_)
  refine .v rfl rfl (.box rfl) ?_
  rintro _ w1 ⟨rfl, N1⟩
  refine .p rfl rfl (.as rfl) ?_
  refine .p rfl rfl (.as rfl) ?_
  refine .nil (.code (.seq (.keep [(1, _)] ⟨rfl, trivial⟩ (.region ?_))))
  refine .p rfl rfl (.loadA (n := 3) rfl rfl rfl rfl rfl N1.blk.cells) ?_
  refine .call (first := []) (captured := []) rfl rfl rfl rfl (logread_fn (tDisk.ext0 h N1.ext)) ?_
  rintro _ w8 ⟨p, v8, rfl, B8, R8, hp8, X8⟩
  have z1 := N1.size
  refine .p rfl rfl (.mv rfl) ?_
  refine .p rfl rfl (.extract rfl rfl) ?_
  refine .p rfl rfl (.extract rfl rfl) ?_
  refine .p rfl rfl (.as rfl) ?_
  refine .p rfl rfl (.as rfl) ?_
  refine .nil (.code (.seq (.keep [(5, _), (4, _)] ⟨rfl, rfl, trivial⟩ (.region ?_))))
  refine .p rfl rfl (.mv rfl) ?_
  refine .p rfl rfl (.nilCheck rfl) ?_
  refine .p rfl rfl (.fieldAddr rfl rfl rfl rfl) ?_
  refine .p rfl rfl (.load rfl rfl rfl (B8.cell 0)) ?_
  refine .p rfl rfl (.mv rfl) ?_
  refine .p rfl rfl (.as rfl) ?_
  refine .p rfl rfl (.as rfl) ?_
  refine .nil (.code ?_)
  refine .ret _ rfl ?_
  exact ⟨rfl, N1.ext.trans X8⟩
theorem Add_fn {w : World} {v : Value} {d : Disk} {r : Bs} (h : tDisk.rep All w v d) (hr : r.length < Lim) : Fn Try.prog 23 [v, str r] w (fun x w2 => ∃ v' Q B, x = .tuple #[v', i64 (addF d r).2] ∧ OwnO tActO Q 64 w2 v' (addF d r).1 B ∧ (∀ k, Q k → w.heap.size ≤ k ∧ ¬ B k) ∧ (∀ k, B k → w.heap.size ≤ k) ∧ Ext (fun _ => False) w w2) := by
  obtain ⟨u, u', rfl, hd, hw, hc1, hc2⟩ := tDisk.val h
  simp only [Lim] at hr
  refine Fn.enter (fun w => Try.call23 _ w) Try.func23 rfl ?_
  refine .seq (.region ?_)
  refine .v rfl rfl (.box rfl) ?_
  rintro _ w2 ⟨rfl, N2⟩
  refine .p rfl rfl (.as rfl) ?_
  refine .p rfl rfl (.as rfl) ?_
  refine .nil (.code (.seq (.keep [(2, _), (1, _)] ⟨rfl, rfl, trivial⟩ (.region ?_))))
  refine .p rfl rfl (.loadA (n := 3) rfl rfl rfl rfl rfl N2.blk.cells) ?_
  refine .call (first := []) (captured := []) rfl rfl rfl rfl (logread_fn (tDisk.ext0 h N2.ext)) ?_
  rintro _ w16 ⟨p, v16, rfl, B16, R16, hp16, X16⟩
  have z2 := N2.size
  have X1 := N2.ext.trans X16
  have A1 := @add_err d r
  have A2 := @add_long d r
  have A3 := @add_full d r
  have A4 := @add_salt d r
  have A5 := @add_good d r
  have hst := @state_facts d
  have hat := state_at d
  generalize stateF d = st at *
  obtain ⟨⟨epoch, last, recs, a⟩, er⟩ := st
  simp only at *
  refine .p rfl rfl (.mv rfl) ?_
  refine .p rfl rfl (.extract rfl rfl) ?_
  refine .p rfl rfl (.extract rfl rfl) ?_
  refine .p rfl rfl (.as rfl) ?_
  refine .p rfl rfl (.as rfl) ?_
  refine .nil (.code (.seq (.block (.seq (.keep [(7, _), (6, _), (2, _), (1, _)] ⟨rfl, rfl, rfl, rfl, trivial⟩ (.region ?_))))))
  refine .p rfl rfl (.mv rfl) ?_
  refine .p rfl rfl (.ne rfl rfl) ?_
  refine .p rfl rfl (.as rfl) ?_
  refine .nil (.code (.keep [(19, _), (7, _), (6, _), (2, _), (1, _)] ⟨rfl, rfl, rfl, rfl, rfl, trivial⟩ ?_))
  refine .condD rfl (fun c19 => ?_) (fun c19 => ?_)
  · refine .seq (.keep [(7, _)] ⟨rfl, trivial⟩ (.region ?_))
    refine .p rfl rfl (.mv rfl) ?_
    refine .p rfl rfl (.as rfl) ?_
    refine .p rfl rfl (.as rfl) ?_
    refine .nil (.code ?_)
    refine .ret _ rfl ?_
    rw [A1 c19]
    exact ⟨_, fun _ => False, fun _ => False, rfl, OwnO.nil, fun _ h => h.elim, fun _ h => h.elim, X1⟩
  · have her : er = 0 := Decidable.byContradiction c19
    subst her
    obtain ⟨hep, hck, hct⟩ := hst rfl
    refine .seq (.keep [(6, _), (2, _), (1, _)] ⟨rfl, rfl, rfl, trivial⟩ (.region ?_))
    refine .p rfl rfl (.mv rfl) ?_
    refine .p rfl rfl (.lenS rfl rfl) ?_
    refine .p rfl rfl (.gt rfl rfl) ?_
    refine .p rfl rfl (.as rfl) ?_
    refine .nil (.code (.keep [(23, _), (6, _), (2, _), (1, _)] ⟨rfl, rfl, rfl, rfl, trivial⟩ ?_))
    refine .condD rfl (fun c23 => ?_) (fun c23 => ?_)
    · refine .seq (.keep [] trivial (.region ?_))
      refine .p rfl rfl (.as rfl) ?_
      refine .p rfl rfl (.as rfl) ?_
      refine .nil (.code ?_)
      refine .ret _ rfl ?_
      rw [A2 rfl (by omega)]
      exact ⟨_, fun _ => False, fun _ => False, rfl, OwnO.nil, fun _ h => h.elim, fun _ h => h.elim, X1⟩
    · refine .seq (.keep [(6, _), (2, _), (1, _)] ⟨rfl, rfl, rfl, trivial⟩ (.mix (fun _ => False) [6] (by kernel_rfl) (by kernel_rfl) (by kernel_rfl) ?_))
      refine .p rfl rfl rfl (fun wx hx => .mv rfl) ?_
      refine .p rfl rfl rfl (fun wx hx => .nilCheck rfl) ?_
      refine .p rfl rfl rfl (fun wx hx => .fieldAddr rfl rfl rfl rfl) ?_
      refine .p rfl rfl rfl (fun wx hx => .load rfl rfl rfl ((B16.ext hx (fun x => x)).cell 3)) ?_
      refine .p rfl rfl rfl (fun wx hx => .mv rfl) ?_
      refine .p rfl rfl rfl (fun wx hx => .lenS rfl rfl) ?_
      refine .call (first := []) (captured := []) rfl rfl rfl rfl rfl (sectors_fn (by simp only [Lim]; omega)) (by rintro _ _ ⟨_, hs⟩; exact .same hs) ?_
      rintro _ w34 ⟨rfl, S34⟩
      have hnb := needs_bd (n := r.length) (by omega)
      have X34 := X1.trans (.same S34)
      have B34 := B16.ext (S := fun _ => False) (.same S34) (fun x => x)
      refine .p rfl rfl rfl (fun wx hx => .add rfl rfl (by omega)) ?_
      refine .p rfl rfl rfl (fun wx hx => .gt rfl rfl) ?_
      refine .p rfl rfl rfl (fun wx hx => .as rfl) ?_
      refine .nil (.code (.keep [(27, _), (6, _), (2, _), (1, _)] ⟨rfl, rfl, rfl, rfl, trivial⟩ ?_))
      refine .condD rfl (fun c27 => ?_) (fun c27 => ?_)
      · refine .seq (.keep [] trivial (.region ?_))
        refine .p rfl rfl (.as rfl) ?_
        refine .p rfl rfl (.as rfl) ?_
        refine .nil (.code ?_)
        refine .ret _ rfl ?_
        rw [A3 rfl (by omega) (by omega)]
        exact ⟨_, fun _ => False, fun _ => False, rfl, OwnO.nil, fun _ h => h.elim, fun _ h => h.elim, X34⟩
      · refine .skip (.blk (.code (.seq (.keep [(6, _), (2, _), (1, _)] ⟨rfl, rfl, rfl, trivial⟩ (.region ?_)))))
        refine .p rfl rfl (.as rfl) ?_
        refine .nil (.code (.seq (.seq (.region ?_))))
        refine .p rfl rfl (.mv rfl) ?_
        refine .p rfl rfl (.nilCheck rfl) ?_
        refine .p rfl rfl (.fieldAddr rfl rfl rfl rfl) ?_
        refine .p rfl rfl (.load rfl rfl rfl (B34.cell 3)) ?_
        refine .p rfl rfl (.add rfl rfl (by omega)) ?_
        refine .p rfl rfl (.as rfl) ?_
        refine .nil (.code (.block (.keep [(9, _), (8, _), (6, _), (2, _), (1, _)] ⟨rfl, rfl, rfl, rfl, rfl, trivial⟩ ?_)))
        refine .loop (S := Nat × World) (fun s => [(1, str r), (2, .pointer (some ⟨w.heap.size, 0, none⟩)), (6, .pointer (some ⟨p, 0, none⟩)), (8, u32 (saltTo d epoch a s.1)), (9, i64 ((17 + (a + s.1) : Nat) : Int))]) (fun s => s.2) (fun s => s.1 ≤ 63 - a ∧ Ext (fun _ => False) w34 s.2) (fun s => 63 - a - s.1) (0, w34) ⟨rfl, rfl, rfl, rfl, rfl, trivial⟩ rfl ⟨Nat.zero_le _, .refl _⟩ ?_
        rintro ⟨i, wi⟩ J ⟨hi', hX⟩ again
        simp only at hi' hX
        change G _ [(1, str r), (2, .pointer (some ⟨w.heap.size, 0, none⟩)), (6, .pointer (some ⟨p, 0, none⟩)), (8, u32 (saltTo d epoch a i)), (9, i64 ((17 + (a + i) : Nat) : Int))] _ _ wi
        refine .seq (.seq (.region ?_))
        refine .p rfl rfl (.mv rfl) ?_
        refine .p rfl rfl (.lt rfl rfl) ?_
        refine .nil (.code (.keep [(43, _), (1, _), (2, _), (6, _), (8, _), (9, _)] ⟨rfl, rfl, rfl, rfl, rfl, rfl, trivial⟩ ?_))
        refine .condD rfl (fun c43 => ?_) (fun c43 => ?_)
        · have hi : i < 63 - a := by omega
          refine .skip (.code (.seq (.block (.seq (.keep [(1, _), (2, _), (6, _), (8, _), (9, _)] ⟨rfl, rfl, rfl, rfl, rfl, trivial⟩ (.region ?_))))))
          refine .p rfl rfl (.loadA (n := 3) rfl rfl rfl rfl rfl (N2.blk.ext (X16.trans ((Ext.same (S := fun _ => False) S34).trans hX)) (fun x => x)).cells) ?_
          refine .p rfl rfl (.mv rfl) ?_
          refine .call (first := []) (captured := []) rfl rfl rfl rfl (sector_fn (tDisk.ext0 h (X34.trans hX)) (asked_in hck (by omega) (by omega))) ?_
          rintro r48 w48 ⟨b48, O48, hb48, X48⟩
          have R48 : tBytes.rep All w48 r48 (readF d ((17 + (a + i) : Nat) : Int)) := O48.rep trivial (fun _ h _ => h.elim)
          have hl := readF_length hck (n := ((17 + (a + i) : Nat) : Int)) (by omega) (by omega)
          obtain ⟨a48, c48, rfl, hc48⟩ := Sl.val R48
          rw [hl] at R48 hc48 ⊢
          have R58 := Sl.cut R48 4 128 (by omega) (by omega)
          have R61 := Sl.cut R48 8 128 (by omega) (by omega)
          have et : (readF d ((17 + (a + i) : Nat) : Int)).take 128 = readF d ((17 + (a + i) : Nat) : Int) := List.take_of_length_le (by omega)
          rw [et] at R58 R61
          refine .p rfl rfl (.as rfl) ?_
          refine .nil (.code (.seq (.keep [(10, _), (1, _), (2, _), (6, _), (8, _), (9, _)] ⟨rfl, rfl, rfl, rfl, rfl, rfl, trivial⟩ (.mix (fun _ => False) [1] (by kernel_rfl) (by kernel_rfl) (by kernel_rfl) ?_))))
          refine .p rfl rfl rfl (fun wx hx => .mv rfl) ?_
          refine .call (first := []) (captured := []) rfl rfl rfl rfl rfl (logget_fn R48 (by omega)) (by rintro _ _ ⟨_, hX⟩; exact hX) ?_
          rintro _ w50 ⟨rfl, X50⟩
          refine .p rfl rfl rfl (fun wx hx => .mv rfl) ?_
          refine .p rfl rfl rfl (fun wx hx => .nilCheck rfl) ?_
          refine .p rfl rfl rfl (fun wx hx => .fieldAddr rfl rfl rfl rfl) ?_
          refine .p rfl rfl rfl (fun wx hx => .load rfl rfl rfl ((B34.ext (hX.trans (X48.trans hx)) (fun x => x)).cell 0)) ?_
          refine .p rfl rfl rfl (fun wx hx => .eq rfl rfl) ?_
          refine .nil (.code (.keep [(55, _), (10, _), (1, _), (2, _), (6, _), (8, _), (9, _)] ⟨rfl, rfl, rfl, rfl, rfl, rfl, rfl, trivial⟩ ?_))
          refine .condD rfl (fun c55 => ?_) (fun c55 => ?_)
          · refine .keep [(10, _), (1, _), (2, _), (6, _), (8, _), (9, _)] ⟨rfl, rfl, rfl, rfl, rfl, rfl, trivial⟩ (.mix (fun _ => False) [3, 6] (by kernel_rfl) (by kernel_rfl) (by kernel_rfl) ?_)
            refine .p rfl rfl rfl (fun wx hx => .mv rfl) ?_
            refine .p rfl rfl rfl (fun wx hx => .mv rfl) ?_
            refine .p rfl rfl rfl (fun wx hx => .cutLo (s := 1) rfl rfl rfl rfl (by omega)) ?_
            refine .call (first := []) (captured := []) rfl rfl rfl rfl rfl (logget_fn (tBytes.ext0 R58 X50) (by rw [List.length_drop]; omega)) (by rintro _ _ ⟨_, hX⟩; exact hX) ?_
            rintro _ w59 ⟨rfl, X59⟩
            refine .p rfl rfl rfl (fun wx hx => .mv rfl) ?_
            refine .p rfl rfl rfl (fun wx hx => .cutLo (s := 1) rfl rfl rfl rfl (by omega)) ?_
            refine .call (first := []) (captured := []) rfl rfl rfl rfl rfl (logget_fn (tBytes.ext0 R61 (X50.trans X59)) (by rw [List.length_drop]; omega)) (by rintro _ _ ⟨_, hX⟩; exact X59.trans hX) ?_
            rintro _ w62 ⟨rfl, X62⟩
            refine .p rfl rfl rfl (fun wx hx => .cast (.max3 rfl rfl rfl) (u32_max3 _ _ _)) ?_
            refine .p rfl rfl rfl (fun wx hx => .as rfl) ?_
            refine .nil (.blk (.code (.keep [(8, _), (1, _), (2, _), (6, _), (9, _)] ⟨rfl, rfl, rfl, rfl, rfl, trivial⟩ (.region ?_))))
            refine .p rfl rfl (.mv rfl) ?_
            refine .p rfl rfl (.add rfl rfl (by omega)) ?_
            refine .p rfl rfl (.as rfl) ?_
            refine .nil ?_
            refine (again (i + 1, w62) ⟨by show i + 1 ≤ _; omega, hX.trans (X48.trans (X50.trans (X59.trans X62)))⟩ (by show _ - (i + 1) < _ - i; omega)).of ⟨rfl, rfl, rfl, ?_, rfl, trivial⟩
            show some _ = some (u32 (saltTo d epoch a (i + 1)))
            rw [saltTo_succ, saltStep_T ((u32_eq _ _).1 c55)]
          · refine .skip (.blk (.code (.keep [(1, _), (2, _), (6, _), (8, _), (9, _)] ⟨rfl, rfl, rfl, rfl, rfl, trivial⟩ (.region ?_))))
            refine .p rfl rfl (.mv rfl) ?_
            refine .p rfl rfl (.add rfl rfl (by omega)) ?_
            refine .p rfl rfl (.as rfl) ?_
            refine .nil ?_
            refine (again (i + 1, w50) ⟨by show i + 1 ≤ _; omega, hX.trans (X48.trans X50)⟩ (by show _ - (i + 1) < _ - i; omega)).of ⟨rfl, rfl, rfl, ?_, rfl, trivial⟩
            show some _ = some (u32 (saltTo d epoch a (i + 1)))
            rw [saltTo_succ, saltStep_F (fun e => c55 ((u32_eq _ _).2 e))]
        · obtain rfl : i = 63 - a := by omega
          rw [show saltTo d epoch a (63 - a) = saltF d epoch a from rfl]
          refine .exit rfl (.code (.seq (.seq (.keep [(1, _), (6, _), (8, _)] ⟨rfl, rfl, rfl, trivial⟩ (.region ?_)))))
          refine .p rfl rfl (.mv rfl) ?_
          refine .p rfl rfl (.eq rfl rfl) ?_
          refine .nil (.code (.keep [(65, _), (1, _), (6, _), (8, _)] ⟨rfl, rfl, rfl, rfl, trivial⟩ ?_))
          refine .condD rfl (fun c65 => ?_) (fun c65 => ?_)
          · refine .seq (.keep [] trivial (.region ?_))
            refine .p rfl rfl (.as rfl) ?_
            refine .p rfl rfl (.as rfl) ?_
            refine .nil (.code ?_)
            refine .ret _ rfl ?_
            rw [A4 rfl (by omega) (by omega) ((u32_last _).1 c65)]
            exact ⟨_, fun _ => False, fun _ => False, rfl, OwnO.nil, fun _ h => h.elim, fun _ h => h.elim, X34.trans hX⟩
          · have c65' : ¬ saltF d epoch a = 4294967295 := fun e => c65 ((u32_last _).2 e)
            have hX := hX
            refine .skip (.code (.seq (.keep [(1, _), (6, _), (8, _)] ⟨rfl, rfl, rfl, trivial⟩ (.mix (fun _ => False) [11] (by kernel_rfl) (by kernel_rfl) (by kernel_rfl) ?_))))
            refine .p rfl rfl rfl (fun wx hx => .mv rfl) ?_
            refine .p rfl rfl rfl (fun wx hx => .nilCheck rfl) ?_
            refine .p rfl rfl rfl (fun wx hx => .fieldAddr rfl rfl rfl rfl) ?_
            refine .p rfl rfl rfl (fun wx hx => .load rfl rfl rfl ((B34.ext (hX.trans hx) (fun x => x)).cell 0)) ?_
            refine .p rfl rfl rfl (fun wx hx => .mv rfl) ?_
            refine .p rfl rfl rfl (fun wx hx => .add32 (b := 1) rfl rfl) ?_
            refine .p rfl rfl rfl (fun wx hx => .mv rfl) ?_
            refine .p rfl rfl rfl (fun wx hx => .nilCheck rfl) ?_
            refine .p rfl rfl rfl (fun wx hx => .fieldAddr rfl rfl rfl rfl) ?_
            refine .p rfl rfl rfl (fun wx hx => .load rfl rfl rfl ((B34.ext (hX.trans hx) (fun x => x)).cell 1)) ?_
            refine .p rfl rfl rfl (fun wx hx => .mv rfl) ?_
            refine .call (first := []) (captured := []) rfl rfl rfl rfl rfl (Frame_fn (by simp only [Lim]; omega)) (by rintro _ _ ⟨_, _, _, hX⟩; exact hX) ?_
            rintro _ w78 ⟨s78, rfl, R78, X78⟩
            have hsn := u32_succ_ne c65'
            rw [frame_good hep hsn.1 (by omega)] at R78 ⊢
            have R78 := tBytes.mono (P' := fun k => k < w78.heap.size) R78 (fun k _ h => h)
            have hFl := frameL_length epoch (saltF d epoch a + 1) last r
            generalize hF : frameL epoch (saltF d epoch a + 1) last r = F at R78 hFl A5
            have X78' := X34.trans (hX.trans X78)
            have B78 := B34.ext (hX.trans X78) (fun x => x)
            refine .p rfl rfl rfl (fun wx hx => .mv rfl) ?_
            refine .p rfl rfl rfl (fun wx hx => .extract rfl rfl) ?_
            refine .p rfl rfl rfl (fun wx hx => .extract rfl rfl) ?_
            refine .p rfl rfl rfl (fun wx hx => .as rfl) ?_
            refine .p rfl rfl rfl (fun wx hx => .as rfl) ?_
            refine .nil (.code (.seq (.seq (.keep [(7, _), (11, _), (6, _)] ⟨rfl, rfl, rfl, trivial⟩ (.region ?_)))))
            refine .p rfl rfl (.mv rfl) ?_
            refine .p rfl rfl (.no (.ne rfl rfl) (fun h => h rfl)) ?_
            refine .nil (.code (.keep [(82, _), (7, _), (11, _), (6, _)] ⟨rfl, rfl, rfl, rfl, trivial⟩ (.condF rfl (.skip (.code (.seq (.keep [(11, _), (6, _)] ⟨rfl, rfl, trivial⟩ (.region ?_))))))))
            refine .p rfl rfl (.as rfl) ?_
            refine .nil (.code (.seq (.seq (.region ?_))))
            refine .p rfl rfl (.mv rfl) ?_
            refine .p rfl rfl (.nilCheck rfl) ?_
            refine .p rfl rfl (.fieldAddr rfl rfl rfl rfl) ?_
            refine .p rfl rfl (.load rfl rfl rfl (B78.cell 3)) ?_
            refine .p rfl rfl (.add rfl rfl (by omega)) ?_
            refine .p rfl rfl (.as rfl) ?_
            refine .nil (.code (.block (.keep [(13, _), (12, _), (11, _)] ⟨rfl, rfl, rfl, trivial⟩ ?_)))
            refine .loop (S := Nat × World × Value × Value × (Nat → Prop) × (Nat → Prop)) (fun s => [(11, s.2.2.1), (12, s.2.2.2.1), (13, i64 ((17 + a + s.1 : Nat) : Int))]) (fun s => s.2.1) (fun s => s.1 ≤ needs r.length ∧ tBytes.rep (fun k => k < w78.heap.size) s.2.1 s.2.2.1 (F.drop (s.1 * 128)) ∧ OwnO tActO s.2.2.2.2.1 64 s.2.1 s.2.2.2.1 (actsTo (17 + a) F s.1) s.2.2.2.2.2 ∧ (∀ k, s.2.2.2.2.1 k → w78.heap.size ≤ k ∧ ¬ s.2.2.2.2.2 k ∧ k < s.2.1.heap.size) ∧ (∀ k, s.2.2.2.2.2 k → w78.heap.size ≤ k ∧ k < s.2.1.heap.size) ∧ Ext (fun _ => False) w78 s.2.1) (fun s => needs r.length - s.1) (0, w78, _, .slice none 0 0, fun _ => False, fun _ => False) ⟨rfl, rfl, rfl, trivial⟩ rfl ⟨Nat.zero_le _, R78, OwnO.nil, fun _ h => h.elim, fun _ h => h.elim, .refl _⟩ ?_
            rintro ⟨j, wj, vb, va, Q, B⟩ J ⟨hj, Rb, hO, hQ, hB, hXj⟩ again
            simp only at hj Rb hO hQ hB hXj
            have zj := hXj.size
            change G _ [(11, vb), (12, va), (13, i64 ((17 + a + j : Nat) : Int))] _ _ wj
            refine .seq (.seq (.region ?_))
            obtain ⟨ab, cb, rfl, hcb⟩ := Sl.val Rb
            refine .p rfl rfl (.mv rfl) ?_
            refine .p rfl rfl (.len rfl rfl) ?_
            refine .p rfl rfl (.gt rfl rfl) ?_
            refine .nil (.code (.keep [(91, _), (11, _), (12, _), (13, _)] ⟨rfl, rfl, rfl, rfl, trivial⟩ ?_))
            refine .condD rfl (fun c91 => ?_) (fun c91 => ?_)
            · have hj2 : j < needs r.length := by rw [List.length_drop] at c91; omega
              have hdl : 128 ≤ (F.drop (j * 128)).length := by rw [List.length_drop]; omega
              have R97 := Sl.cut Rb 0 128 (by omega) (by omega)
              obtain ⟨a104, c104, hv104, hc104, R104⟩ := Sl.cutE Rb 128 (F.drop (j * 128)).length (by omega) (by omega)
              rw [List.take_length] at R104
              refine .skip (.code (.seq (.block (.seq (.keep [(11, _), (12, _), (13, _)] ⟨rfl, rfl, rfl, trivial⟩ (.region ?_))))))
              refine .p rfl rfl (.mv rfl) ?_
              refine .p rfl rfl (.mv rfl) ?_
              refine .p rfl rfl (.mv rfl) ?_
              refine .p rfl rfl (.cutHi (s := 1) rfl rfl rfl rfl (by omega)) ?_
              refine .call (first := []) (captured := []) rfl rfl rfl rfl (bytesClone_fn (allOf R97)) ?_
              rintro r98 w98 ⟨b98, O98, hb98, X98⟩
              obtain ⟨a98, c98, rfl, hc98⟩ := O98.val
              rw [List.drop_zero] at O98 ⊢
              have z98 := X98.size
              have z34 := hX.size
              refine .p rfl rfl (.build (cs := [i64 ((17 + a + j : Nat) : Int), .slice a98 ((F.drop (j * 128)).take 128).length c98]) rfl (fun _ => by kernel_rfl)) ?_
              refine .p rfl rfl (.build (cs := [.bool false, i64 ((17 + a + j : Nat) : Int), .slice a98 ((F.drop (j * 128)).take 128).length c98]) rfl (fun _ => by kernel_rfl)) ?_
              refine .v rfl rfl (.lits rfl rfl (fun _ => by kernel_rfl)) ?_
              rintro _ w101 ⟨rfl, N101⟩
              have z101 := N101.size
              have hQB : ∀ k, (fun k => Q k ∨ (wj.heap.size ≤ k ∧ k < w98.heap.size)) k → ¬ (B k ∨ w101.heap.size ≤ k) := by
                rintro k (hk | hk) (hb | hb)
                · exact (hQ k hk).2.1 hb
                · have := (hQ k hk).2.2; omega
                · have := (hB k hb).2; omega
                · omega
              have hO101 := OwnO.ext0 (OwnO.mono (OwnO.ext0 hO X98) (Q' := (fun k => Q k ∨ (wj.heap.size ≤ k ∧ k < w98.heap.size))) (B' := fun k => B k ∨ w101.heap.size ≤ k) (fun _ h _ => .inl h) (fun _ h _ => .inl h)) N101.ext
              refine .v rfl rfl (.appendLo (t := tActO) (Q := (fun k => Q k ∨ (wj.heap.size ≤ k ∧ k < w98.heap.size))) (B := fun k => B k ∨ w101.heap.size ≤ k) (eb := 40) rfl hO101 (fun k hk => .inr hk) rfl (.inr (New.holds (t := tActO) (xs := [⟨false, ⟨((17 + a + j : Nat) : Int), (F.drop (j * 128)).take 128⟩⟩]) N101 (.cons (tActO.mk (P := (fun k => Q k ∨ (wj.heap.size ≤ k ∧ k < w98.heap.size))) (a := ⟨false, ⟨((17 + a + j : Nat) : Int), (F.drop (j * 128)).take 128⟩⟩) (OwnB.of' (P := (fun k => Q k ∨ (wj.heap.size ≤ k ∧ k < w98.heap.size))) O98 (fun hlt => .inr ⟨hb98, hlt⟩)) (by show -9223372036854775808 ≤ ((17 + a + j : Nat) : Int) ∧ ((17 + a + j : Nat) : Int) ≤ 9223372036854775807; omega)) .nil) rfl)) rfl rfl rfl rfl rfl rfl rfl (by rw [actsTo_length]; simp; omega) (by rw [actsTo_length]; simp [Lim]; omega) (fun k hk hlt hB2 => hQB k hk hB2)) ?_
              rintro r102 w102 ⟨G102, Y102⟩
              have z102 := Y102.size
              refine .p rfl rfl (.as rfl) ?_
              refine .nil (.code (.keep [(12, _), (11, _), (13, _)] ⟨rfl, rfl, rfl, trivial⟩ (.region ?_)))
              refine .p rfl rfl (.mv rfl) ?_
              refine .p rfl rfl (.cast (.cutLo (s := 1) rfl rfl rfl rfl (by omega)) (by show cutV 1 ab cb 128 (F.drop (j * 128)).length = .slice a104 ((F.drop (j * 128)).length - 128) c104; exact hv104)) ?_
              refine .p rfl rfl (.as rfl) ?_
              refine .nil (.blk (.code (.keep [(11, _), (12, _), (13, _)] ⟨rfl, rfl, rfl, trivial⟩ (.region ?_))))
              refine .p rfl rfl (.mv rfl) ?_
              refine .p rfl rfl (.add rfl rfl (by omega)) ?_
              refine .p rfl rfl (.as rfl) ?_
              refine .nil ?_
              refine (again (j + 1, w102, .slice a104 ((F.drop (j * 128)).length - 128) c104, r102, (fun k => Q k ∨ (wj.heap.size ≤ k ∧ k < w98.heap.size)), (fun k => (B k ∨ w101.heap.size ≤ k) ∧ k < w102.heap.size)) ⟨by show j + 1 ≤ _; omega, ?_, ?_, ?_, ?_, ?_⟩ (by show _ - (j + 1) < _ - j; omega)).of ⟨rfl, rfl, rfl, trivial⟩
              · show tBytes.rep _ w102 _ (F.drop ((j + 1) * 128))
                have e : F.drop ((j + 1) * 128) = (F.drop (j * 128)).drop 128 := by rw [List.drop_drop]; congr 1; omega
                rw [e]
                exact tBytes.ext (tBytes.ext0 (tBytes.ext0 R104 X98) N101.ext) Y102 (fun k hk _ h => by have hk : k < w78.heap.size := hk; rcases h with h | h; have := (hB k h).1; omega; omega)
              · show OwnO tActO _ _ w102 r102 (actsTo (17 + a) F (j + 1)) _
                rw [actsTo_succ]
                exact OwnO.mono G102 (fun _ h _ => h) (fun k h hlt => ⟨h, hlt⟩)
              · intro k hk
                exact ⟨by rcases hk with hk | hk; exact (hQ k hk).1; omega, fun h => hQB k hk h.1, by show k < w102.heap.size; rcases hk with hk | hk; have := (hQ k hk).2.2; omega; omega⟩
              · intro k hk
                exact ⟨by rcases hk.1 with h | h; exact (hB k h).1; omega, hk.2⟩
              · exact ((hXj.trans X98).trans N101.ext).then Y102 (fun k h _ => by rcases h with h | h; exact (hB k h).1; omega)
            · refine .exit rfl (.code (.seq (.keep [(12, _)] ⟨rfl, trivial⟩ (.region ?_))))
              refine .p rfl rfl (.mv rfl) ?_
              refine .p rfl rfl (.as rfl) ?_
              refine .p rfl rfl (.as rfl) ?_
              refine .nil (.code ?_)
              refine .ret _ rfl ?_
              rw [A5 rfl (by omega) (by omega) c65']
              obtain rfl : j = needs r.length := by rw [List.length_drop] at c91; omega
              have zz := X78'.size
              exact ⟨_, Q, B, rfl, hO, fun k hk => ⟨by have := (hQ k hk).1; omega, (hQ k hk).2.1⟩, fun k hk => by have := (hB k hk).1; omega, X78'.trans hXj⟩
theorem Clear_fn {w : World} {v : Value} {d : Disk} (h : tDisk.rep All w v d) : Fn Try.prog 25 [v] w (fun x w2 => ∃ v' Q B, x = .tuple #[v', i64 (clearF d).2] ∧ OwnO tActO Q 64 w2 v' (clearF d).1 B ∧ (∀ k, Q k → w.heap.size ≤ k ∧ ¬ B k) ∧ (∀ k, B k → w.heap.size ≤ k) ∧ Ext (fun _ => False) w w2) := by
  obtain ⟨u, u', rfl, hd, hw, hc1, hc2⟩ := tDisk.val h
  refine Fn.enter (fun w => Try.call25 _ w) Try.func25 rfl ?_
  refine .seq (.region ?_)
  refine .v rfl rfl (.box rfl) ?_
  rintro _ w1 ⟨rfl, N1⟩
  refine .p rfl rfl (.as rfl) ?_
  refine .p rfl rfl (.as rfl) ?_
  refine .nil (.code (.seq (.seq (.keep [(1, _)] ⟨rfl, trivial⟩ (.region ?_)))))
  refine .p rfl rfl (.loadA (n := 3) rfl rfl rfl rfl rfl N1.blk.cells) ?_
  refine .call (first := []) (captured := []) rfl rfl rfl rfl (there_fn (tDisk.ext0 h N1.ext)) ?_
  rintro _ w9 ⟨rfl, X9⟩
  have X1 := N1.ext.trans X9
  have B9 := N1.blk.ext X9 (fun x => x)
  have z1 := X1.size
  refine .p rfl rfl (.as rfl) ?_
  refine .nil (.code (.seq (.keep [(4, _), (1, _)] ⟨rfl, rfl, trivial⟩ (.region ?_))))
  refine .p rfl rfl (.mv rfl) ?_
  refine .p rfl rfl (.ne rfl rfl) ?_
  refine .nil (.code (.keep [(11, _), (4, _), (1, _)] ⟨rfl, rfl, rfl, trivial⟩ ?_))
  refine .condD rfl (fun c11 => ?_) (fun c11 => ?_)
  · refine .seq (.keep [(4, _)] ⟨rfl, trivial⟩ (.region ?_))
    refine .p rfl rfl (.mv rfl) ?_
    refine .p rfl rfl (.as rfl) ?_
    refine .p rfl rfl (.as rfl) ?_
    refine .nil (.code ?_)
    refine .ret _ rfl ?_
    rw [clear_err c11]
    exact ⟨_, fun _ => False, fun _ => False, rfl, OwnO.nil, fun _ h => h.elim, fun _ h => h.elim, X1⟩
  · have hth : thereF d = 0 := Decidable.byContradiction c11
    obtain ⟨hck, hct⟩ := there_ok hth
    refine .skip (.code (.seq (.keep [(1, _)] ⟨rfl, trivial⟩ (.region ?_))))
    refine .p rfl rfl (.loadA (n := 3) rfl rfl rfl rfl rfl B9.cells) ?_
    refine .call (first := []) (captured := []) rfl rfl rfl rfl (epochOf_fn (tDisk.ext0 h X1) hck hct) ?_
    rintro _ w14 ⟨rfl, X14⟩
    have X2 := X1.trans X14
    refine .p rfl rfl (.as rfl) ?_
    refine .nil (.code (.seq (.seq (.keep [(5, _), (1, _)] ⟨rfl, rfl, trivial⟩ (.region ?_)))))
    refine .p rfl rfl (.as rfl) ?_
    refine .nil (.code (.block ?_))
    refine .loop (S := Nat × World) (fun s => [(1, .pointer (some ⟨w.heap.size, 0, none⟩)), (5, u32 (epochTo d s.1)), (6, i64 ((17 + s.1 : Nat) : Int))]) (fun s => s.2) (fun s => s.1 ≤ 63 ∧ Ext (fun _ => False) w14 s.2) (fun s => 63 - s.1) (0, w14) ⟨rfl, rfl, rfl, trivial⟩ rfl ⟨Nat.zero_le _, .refl _⟩ ?_
    rintro ⟨i, wi⟩ J ⟨hi', hX⟩ again
    simp only at hi' hX
    change G _ [(1, .pointer (some ⟨w.heap.size, 0, none⟩)), (5, u32 (epochTo d i)), (6, i64 ((17 + i : Nat) : Int))] _ _ wi
    refine .seq (.seq (.region ?_))
    refine .p rfl rfl (.mv rfl) ?_
    refine .p rfl rfl (.lt rfl rfl) ?_
    refine .nil (.code (.keep [(16, _), (1, _), (5, _), (6, _)] ⟨rfl, rfl, rfl, rfl, trivial⟩ ?_))
    refine .condD rfl (fun c16 => ?_) (fun c16 => ?_)
    · have hi : i < 63 := by omega
      refine .skip (.code (.seq (.block (.keep [(1, _), (5, _), (6, _)] ⟨rfl, rfl, rfl, trivial⟩ (.region ?_)))))
      refine .p rfl rfl (.mv rfl) ?_
      refine .p rfl rfl (.loadA (n := 3) rfl rfl rfl rfl rfl (B9.ext (X14.trans hX) (fun x => x)).cells) ?_
      refine .p rfl rfl (.mv rfl) ?_
      refine .call (first := []) (captured := []) rfl rfl rfl rfl (sector_fn (tDisk.ext0 h (X2.trans hX)) (asked_in hck (by omega) (by omega))) ?_
      rintro r22 w22 ⟨b22, O22, hb22, X22⟩
      have R22 : tBytes.rep All w22 r22 (readF d ((17 + i : Nat) : Int)) := O22.rep trivial (fun _ h _ => h.elim)
      have hl := readF_length hck (n := ((17 + i : Nat) : Int)) (by omega) (by omega)
      refine .call (first := []) (captured := []) rfl rfl rfl rfl (logget_fn R22 (by omega)) ?_
      rintro _ w23 ⟨rfl, X23⟩
      refine .p rfl rfl (.cast (.max2 rfl rfl) (u32_max _ _)) ?_
      refine .p rfl rfl (.as rfl) ?_
      refine .nil (.blk (.code (.keep [(5, _), (1, _), (6, _)] ⟨rfl, rfl, rfl, trivial⟩ (.region ?_))))
      refine .p rfl rfl (.mv rfl) ?_
      refine .p rfl rfl (.add rfl rfl (by omega)) ?_
      refine .p rfl rfl (.as rfl) ?_
      refine .nil ?_
      exact (again (i + 1, w23) ⟨by show i + 1 ≤ _; omega, hX.trans (X22.trans X23)⟩ (by show _ - (i + 1) < _ - i; omega)).of ⟨rfl, rfl, rfl, trivial⟩
    · obtain rfl : i = 63 := by omega
      have zX := hX.size
      have z14 := X14.size
      refine .exit rfl (.code (.seq (.seq (.keep [(5, _)] ⟨rfl, trivial⟩ (.region ?_)))))
      refine .p rfl rfl (.mv rfl) ?_
      refine .p rfl rfl (.eq rfl rfl) ?_
      refine .nil (.code (.keep [(26, _), (5, _)] ⟨rfl, rfl, trivial⟩ ?_))
      refine .condD rfl (fun c26 => ?_) (fun c26 => ?_)
      · refine .seq (.keep [] trivial (.region ?_))
        refine .p rfl rfl (.as rfl) ?_
        refine .p rfl rfl (.as rfl) ?_
        refine .nil (.code ?_)
        refine .ret _ rfl ?_
        rw [clear_full hth ((u32_last _).1 c26)]
        exact ⟨_, fun _ => False, fun _ => False, rfl, OwnO.nil, fun _ h => h.elim, fun _ h => h.elim, X2.trans hX⟩
      · have c26' : ¬ epochTo d 63 = 4294967295 := fun e => c26 ((u32_last _).2 e)
        refine .skip (.code (.seq (.keep [(5, _)] ⟨rfl, trivial⟩ (.region ?_))))
        refine .v rfl rfl (.make (eb := 1) rfl rfl rfl rfl rfl rfl rfl rfl (by omega)) ?_
        rintro _ w27 ⟨rfl, N27⟩
        have B27 : Blk w27 wi.heap.size 5 ((List.replicate 128 0).map u8) := by rw [List.map_replicate]; exact N27.blk
        have z27 := N27.size
        refine .p rfl rfl (.as rfl) ?_
        refine .nil (.code (.seq (.keep [(7, _), (5, _)] ⟨rfl, rfl, trivial⟩ (.region ?_))))
        refine .p rfl rfl (.mv rfl) ?_
        refine .p rfl rfl (.mv rfl) ?_
        refine .p rfl rfl (.add32 (b := 1) rfl rfl) ?_
        refine .call (first := []) (captured := []) rfl rfl rfl rfl (logput_fn) ?_
        rintro r31 w31 ⟨R31, X31⟩
        have B31 := B27.ext X31 (fun x => x)
        have z31 := X31.size
        refine .v rfl rfl (.copyB (c := wi.heap.size) (o := 0) (dn := 128) (dc := 128) rfl B31 rfl R31 rfl rfl (by simp [put4_length])) ?_
        rintro _ w32 ⟨rfl, P32⟩
        have B32 : Blk w32 wi.heap.size 5 ((clearB (epochTo d 63 + 1)).map u8) := by rw [← clear_patch, ← log.patch_map _ _ _ 128 (by rw [put4_length]; omega)]; exact P32.blk
        have Y32 := (N27.ext.trans X31).then P32.ext (by rintro k rfl _; exact Nat.le_refl _)
        have z32 := P32.size
        have hcb := clearB_length (epochTo d 63 + 1)
        have O32 : Own tByte (fun _ => False) 5 w32 (.slice (some ⟨wi.heap.size, 0, none⟩) 128 128) (clearB (epochTo d 63 + 1)) wi.heap.size := by have := Own.ofBytes (Q := fun _ => False) B32 (by rw [hcb]; decide); rw [hcb] at this; exact this
        refine .nil (.code (.seq (.keep [(7, _)] ⟨rfl, trivial⟩ (.region ?_))))
        refine .p rfl rfl (.mv rfl) ?_
        refine .p rfl rfl (.build (cs := [i64 16, .slice (some ⟨wi.heap.size, 0, none⟩) 128 128]) rfl (fun _ => by kernel_rfl)) ?_
        refine .p rfl rfl (.build (cs := [.bool false, i64 16, .slice (some ⟨wi.heap.size, 0, none⟩) 128 128]) rfl (fun _ => by kernel_rfl)) ?_
        refine .p rfl rfl (.build (cs := [.bool true, i64 0, .slice none 0 0]) rfl (fun _ => by kernel_rfl)) ?_
        refine .v rfl rfl (.lits rfl rfl (fun _ => by kernel_rfl)) ?_
        rintro _ w37 ⟨rfl, N37⟩
        refine .p rfl rfl (.as rfl) ?_
        refine .p rfl rfl (.as rfl) ?_
        refine .nil (.code ?_)
        refine .ret _ rfl ?_
        rw [clear_good hth c26']
        have hOl : Own tActO (fun k => k = wi.heap.size) 64 w37 _ [⟨false, ⟨16, clearB (epochTo d 63 + 1)⟩⟩, ⟨true, ⟨0, []⟩⟩] w32.heap.size := Own.ofNew (n := 2) (cap := 2) N37 (.cons (tActO.mk (a := ⟨false, ⟨16, clearB (epochTo d 63 + 1)⟩⟩) (OwnB.of (P := fun k => k = wi.heap.size) O32 rfl) (by show (-9223372036854775808 : Int) ≤ 16 ∧ (16 : Int) ≤ 9223372036854775807; decide)) (.cons (tActO.mk (a := ⟨true, ⟨0, []⟩⟩) OwnO.nil (by show (-9223372036854775808 : Int) ≤ 0 ∧ (0 : Int) ≤ 9223372036854775807; decide)) .nil)) (by show 2 < Lim; decide) rfl rfl
        exact ⟨_, _, (fun k => k = w32.heap.size), rfl, OwnO.of hOl rfl, fun k hk => ⟨by have hk : k = wi.heap.size := hk; omega, fun e => by have hk : k = wi.heap.size := hk; have e : k = w32.heap.size := e; omega⟩, fun k hk => by have hk : k = w32.heap.size := hk; omega, X2.trans (hX.trans (Y32.trans N37.ext))⟩
end Go.Proofs.Ytapdacjpmmjlhaa
