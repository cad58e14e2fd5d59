
/-
  Layer 5, the document's own answer: records, how many sectors, how often emptied; what adds, what empties; acts compared.
-/
import Derived.Test.YtapdacjpmmjlhaaRef05c
set_option linter.unusedVariables false
set_option linter.unusedSimpArgs false
set_option maxRecDepth 20000
namespace Go.Proofs.Ytapdacjpmmjlhaa
open Go disk log
theorem act_ext {p q : disk.Act} (h0 : p.flush = q.flush) (h1 : p.put.sector = q.put.sector) (h2 : p.put.data = q.put.data) : p = q := by cases p; cases q; simp only at h0 h1 h2; rw [h0, put_ext h1 h2]
theorem RefRecords_fn {w : World} {v : Value} {d : Disk} (h : tDisk.rep All w v d) : Fn Try.prog 18 [v] w (fun r w2 => ∃ v', r = .tuple #[v', i64 (stateF d).2] ∧ tStrs.rep (fun k => w.heap.size ≤ k) w2 v' (stateF d).1.recs ∧ Ext (fun _ => False) w w2) := by
  obtain ⟨u, u', rfl, hd, hw, hc1, hc2⟩ := tDisk.val h
  refine Fn.enter (fun w => Try.call18 _ w) Try.func18 rfl ?_
  refine .seq (.region ?_)
  refine .v rfl rfl (.box rfl) ?_
  rintro _ w1 ⟨rfl, N1⟩
  refine .p rfl rfl (.as rfl) ?_
  refine .p rfl rfl (.as rfl) ?_
  refine .nil (.code (.seq (.keep [(1, _)] ⟨rfl, trivial⟩ (.region ?_))))
  refine .p rfl rfl (.loadA (n := 3) rfl rfl rfl rfl rfl N1.blk.cells) ?_
  refine .call (first := []) (captured := []) rfl rfl rfl rfl (RefOf_fn (tDisk.ext0 h N1.ext)) ?_
  rintro _ w8 ⟨v8, rfl, R8, X8⟩
  have z1 := N1.size
  have z8 := X8.size
  obtain ⟨a8, c8, rfl, hc8⟩ := Sl.val R8
  refine .p rfl rfl (.mv rfl) ?_
  refine .p rfl rfl (.extract rfl rfl) ?_
  refine .p rfl rfl (.extract rfl rfl) ?_
  refine .v rfl rfl (.alloc rfl rfl) ?_
  rintro _ w4 ⟨rfl, N4⟩
  refine .s rfl (.storeAll (n := 4) rfl rfl rfl rfl rfl N4.blk (Eq.trans (b := 4) rfl rfl)) ?_
  intro w9 P9
  have X9 := N4.ext.then P9.ext (by rintro k rfl _; exact Nat.le_refl _)
  have B9 := P9.blk
  have Z9 := N1.ext.trans (X8.trans X9)
  refine .p rfl rfl (.as rfl) ?_
  refine .nil (.code (.seq (.keep [(5, _), (4, _)] ⟨rfl, rfl, trivial⟩ (.region ?_))))
  refine .p rfl rfl (.fieldAddr rfl rfl rfl rfl) ?_
  refine .p rfl rfl (.load rfl rfl rfl (B9.cell 1)) ?_
  refine .p rfl rfl (.mv rfl) ?_
  refine .p rfl rfl (.as rfl) ?_
  refine .p rfl rfl (.as rfl) ?_
  refine .nil (.code ?_)
  refine .ret _ rfl ?_
  exact ⟨_, rfl, tStrs.mono (tStrs.ext0 R8 X9) (fun k h _ => by have h : w1.heap.size ≤ k := h; show w.heap.size ≤ k; omega), Z9⟩
theorem RefAt_fn {w : World} {v : Value} {d : Disk} (h : tDisk.rep All w v d) : Fn Try.prog 20 [v] w (fun r w2 => r = .tuple #[i64 ((stateF d).1.at' : Nat), i64 (stateF d).2] ∧ Ext (fun _ => False) w w2) := by
  obtain ⟨u, u', rfl, hd, hw, hc1, hc2⟩ := tDisk.val h
  refine Fn.enter (fun w => Try.call20 _ w) Try.func20 rfl ?_
  refine .seq (.region ?_)
  refine .v rfl rfl (.box rfl) ?_
  rintro _ w1 ⟨rfl, N1⟩
  refine .p rfl rfl (.as rfl) ?_
  refine .p rfl rfl (.as rfl) ?_
  refine .nil (.code (.seq (.keep [(1, _)] ⟨rfl, trivial⟩ (.region ?_))))
  refine .p rfl rfl (.loadA (n := 3) rfl rfl rfl rfl rfl N1.blk.cells) ?_
  refine .call (first := []) (captured := []) rfl rfl rfl rfl (RefOf_fn (tDisk.ext0 h N1.ext)) ?_
  rintro _ w8 ⟨v8, rfl, R8, X8⟩
  have z1 := N1.size
  have z8 := X8.size
  obtain ⟨a8, c8, rfl, hc8⟩ := Sl.val R8
  refine .p rfl rfl (.mv rfl) ?_
  refine .p rfl rfl (.extract rfl rfl) ?_
  refine .p rfl rfl (.extract rfl rfl) ?_
  refine .v rfl rfl (.alloc rfl rfl) ?_
  rintro _ w4 ⟨rfl, N4⟩
  refine .s rfl (.storeAll (n := 4) rfl rfl rfl rfl rfl N4.blk (Eq.trans (b := 4) rfl rfl)) ?_
  intro w9 P9
  have X9 := N4.ext.then P9.ext (by rintro k rfl _; exact Nat.le_refl _)
  have B9 := P9.blk
  have Z9 := N1.ext.trans (X8.trans X9)
  refine .p rfl rfl (.as rfl) ?_
  refine .nil (.code (.seq (.keep [(5, _), (4, _)] ⟨rfl, rfl, trivial⟩ (.region ?_))))
  refine .p rfl rfl (.fieldAddr rfl rfl rfl rfl) ?_
  refine .p rfl rfl (.load rfl rfl rfl (B9.cell 2)) ?_
  refine .p rfl rfl (.mv rfl) ?_
  refine .p rfl rfl (.as rfl) ?_
  refine .p rfl rfl (.as rfl) ?_
  refine .nil (.code ?_)
  refine .ret _ rfl ?_
  exact ⟨rfl, Z9⟩
theorem RefEpoch_fn {w : World} {v : Value} {d : Disk} (h : tDisk.rep All w v d) : Fn Try.prog 22 [v] w (fun r w2 => r = .tuple #[u32 (stateF d).1.epoch, i64 (stateF d).2] ∧ Ext (fun _ => False) w w2) := by
  obtain ⟨u, u', rfl, hd, hw, hc1, hc2⟩ := tDisk.val h
  refine Fn.enter (fun w => Try.call22 _ w) Try.func22 rfl ?_
  refine .seq (.region ?_)
  refine .v rfl rfl (.box rfl) ?_
  rintro _ w1 ⟨rfl, N1⟩
  refine .p rfl rfl (.as rfl) ?_
  refine .p rfl rfl (.as rfl) ?_
  refine .nil (.code (.seq (.keep [(1, _)] ⟨rfl, trivial⟩ (.region ?_))))
  refine .p rfl rfl (.loadA (n := 3) rfl rfl rfl rfl rfl N1.blk.cells) ?_
  refine .call (first := []) (captured := []) rfl rfl rfl rfl (RefOf_fn (tDisk.ext0 h N1.ext)) ?_
  rintro _ w8 ⟨v8, rfl, R8, X8⟩
  have z1 := N1.size
  have z8 := X8.size
  obtain ⟨a8, c8, rfl, hc8⟩ := Sl.val R8
  refine .p rfl rfl (.mv rfl) ?_
  refine .p rfl rfl (.extract rfl rfl) ?_
  refine .p rfl rfl (.extract rfl rfl) ?_
  refine .v rfl rfl (.alloc rfl rfl) ?_
  rintro _ w4 ⟨rfl, N4⟩
  refine .s rfl (.storeAll (n := 4) rfl rfl rfl rfl rfl N4.blk (Eq.trans (b := 4) rfl rfl)) ?_
  intro w9 P9
  have X9 := N4.ext.then P9.ext (by rintro k rfl _; exact Nat.le_refl _)
  have B9 := P9.blk
  have Z9 := N1.ext.trans (X8.trans X9)
  refine .p rfl rfl (.as rfl) ?_
  refine .nil (.code (.seq (.keep [(5, _), (4, _)] ⟨rfl, rfl, trivial⟩ (.region ?_))))
  refine .p rfl rfl (.fieldAddr rfl rfl rfl rfl) ?_
  refine .p rfl rfl (.load rfl rfl rfl (B9.cell 0)) ?_
  refine .p rfl rfl (.mv rfl) ?_
  refine .p rfl rfl (.as rfl) ?_
  refine .p rfl rfl (.as rfl) ?_
  refine .nil (.code ?_)
  refine .ret _ rfl ?_
  exact ⟨rfl, Z9⟩
theorem RefAdd_fn {w : World} {v : Value} {d : Disk} {r : Bs} (h : tDisk.rep All w v d) (hr : r.length < Lim) : Fn Try.prog 24 [v, str r] w (fun x w2 => ∃ v', x = .tuple #[v', i64 (addF d r).2] ∧ (Sl tAct).rep All w2 v' (addF d r).1 ∧ Ext (fun _ => False) w w2) := by
  obtain ⟨u, u', rfl, hd, hw, hc1, hc2⟩ := tDisk.val h
  simp only [Lim] at hr
  refine Fn.enter (fun w => Try.call24 _ w) Try.func24 rfl ?_
  refine .seq (.region ?_)
  refine .v rfl rfl (.box rfl) ?_
  rintro _ w2 ⟨rfl, N2⟩
  refine .p rfl rfl (.as rfl) ?_
  refine .p rfl rfl (.as rfl) ?_
  refine .nil (.code (.seq (.keep [(2, _), (1, _)] ⟨rfl, rfl, trivial⟩ (.region ?_))))
  refine .p rfl rfl (.loadA (n := 3) rfl rfl rfl rfl rfl N2.blk.cells) ?_
  refine .call (first := []) (captured := []) rfl rfl rfl rfl (RefOf_fn (tDisk.ext0 h N2.ext)) ?_
  rintro _ w8 ⟨v8, rfl, R8, X8⟩
  have z2 := N2.size
  obtain ⟨a8, c8, rfl, hc8⟩ := Sl.val R8
  have A1 := @add_err d r
  have A2 := @add_long d r
  have A3 := @add_full d r
  have A4 := @add_salt d r
  have A5 := @add_good d r
  have hst := @state_facts d
  have hat := state_at d
  generalize stateF d = st at *
  obtain ⟨⟨epoch, last, recs, a⟩, er⟩ := st
  simp only at *
  refine .p rfl rfl (.mv rfl) ?_
  refine .p rfl rfl (.cast (.extract rfl rfl) (show _ = Value.agg #[u32 epoch, .slice a8 recs.length c8, i64 (a : Nat), u32 last] from rfl)) ?_
  refine .p rfl rfl (.cast (.extract rfl rfl) (show _ = i64 er from rfl)) ?_
  refine .v rfl rfl (.alloc rfl rfl) ?_
  rintro _ w6 ⟨rfl, N6⟩
  refine .s rfl (.storeAll (n := 4) rfl rfl rfl rfl rfl N6.blk (Eq.trans (b := 4) rfl rfl)) ?_
  intro w9 P9
  have X9 := N6.ext.then P9.ext (by rintro k rfl _; exact Nat.le_refl _)
  have B9 := P9.blk
  have X1 := N2.ext.trans (X8.trans X9)
  have B2 := N2.blk.ext (X8.trans X9) (fun x => x)
  refine .p rfl rfl (.as rfl) ?_
  refine .nil (.code (.seq (.seq (.keep [(7, _), (6, _), (2, _), (1, _)] ⟨rfl, rfl, rfl, rfl, trivial⟩ (.region ?_)))))
  refine .p rfl rfl (.mv rfl) ?_
  refine .p rfl rfl (.ne rfl rfl) ?_
  refine .nil (.code (.keep [(21, _), (7, _), (6, _), (2, _), (1, _)] ⟨rfl, rfl, rfl, rfl, rfl, trivial⟩ ?_))
  refine .condD rfl (fun c21 => ?_) (fun c21 => ?_)
  · refine .seq (.keep [(7, _)] ⟨rfl, trivial⟩ (.region ?_))
    refine .p rfl rfl (.mv rfl) ?_
    refine .p rfl rfl (.as rfl) ?_
    refine .p rfl rfl (.as rfl) ?_
    refine .nil (.code ?_)
    refine .ret _ rfl ?_
    rw [A1 c21]
    exact ⟨_, rfl, Sl.nil, X1⟩
  · have her : er = 0 := Decidable.byContradiction c21
    subst her
    obtain ⟨hep, hck, hct⟩ := hst rfl
    refine .skip (.code (.seq (.seq (.keep [(6, _), (2, _), (1, _)] ⟨rfl, rfl, rfl, trivial⟩ (.region ?_)))))
    refine .p rfl rfl (.mv rfl) ?_
    refine .p rfl rfl (.lenS rfl rfl) ?_
    refine .p rfl rfl (.gt rfl rfl) ?_
    refine .nil (.code (.keep [(25, _), (6, _), (2, _), (1, _)] ⟨rfl, rfl, rfl, rfl, trivial⟩ ?_))
    refine .condD rfl (fun c25 => ?_) (fun c25 => ?_)
    · refine .seq (.keep [] trivial (.region ?_))
      refine .p rfl rfl (.as rfl) ?_
      refine .p rfl rfl (.as rfl) ?_
      refine .nil (.code ?_)
      refine .ret _ rfl ?_
      rw [A2 rfl (by omega)]
      exact ⟨_, rfl, Sl.nil, X1⟩
    · refine .skip (.code (.seq (.seq (.keep [(6, _), (2, _), (1, _)] ⟨rfl, rfl, rfl, trivial⟩ (.mix (fun _ => False) [4] (by kernel_rfl) (by kernel_rfl) (by kernel_rfl) ?_)))))
      refine .p rfl rfl rfl (fun wx hx => .fieldAddr rfl rfl rfl rfl) ?_
      refine .p rfl rfl rfl (fun wx hx => .load rfl rfl rfl ((B9.ext hx (fun x => x)).cell 2)) ?_
      refine .p rfl rfl rfl (fun wx hx => .mv rfl) ?_
      refine .p rfl rfl rfl (fun wx hx => .lenS rfl rfl) ?_
      refine .call (first := []) (captured := []) rfl rfl rfl rfl rfl (refneeds_fn (by simp only [Lim]; omega)) (by rintro _ _ ⟨_, hs⟩; exact .same hs) ?_
      rintro _ w34 ⟨rfl, S34⟩
      have hnb := needs_bd (n := r.length) (by omega)
      have X34 := X1.trans (.same S34)
      have B34 := B9.ext (S := fun _ => False) (.same S34) (fun x => x)
      have B2 := B2.ext (S := fun _ => False) (.same S34) (fun x => x)
      refine .p rfl rfl rfl (fun wx hx => .add rfl rfl (by omega)) ?_
      refine .p rfl rfl rfl (fun wx hx => .gt rfl rfl) ?_
      refine .nil (.code (.keep [(32, _), (6, _), (2, _), (1, _)] ⟨rfl, rfl, rfl, rfl, trivial⟩ ?_))
      refine .condD rfl (fun c32 => ?_) (fun c32 => ?_)
      · refine .seq (.keep [] trivial (.region ?_))
        refine .p rfl rfl (.as rfl) ?_
        refine .p rfl rfl (.as rfl) ?_
        refine .nil (.code ?_)
        refine .ret _ rfl ?_
        rw [A3 rfl (by omega) (by omega)]
        exact ⟨_, rfl, Sl.nil, X34⟩
      · refine .skip (.code (.seq (.keep [(6, _), (2, _), (1, _)] ⟨rfl, rfl, rfl, trivial⟩ (.region ?_))))
        refine .p rfl rfl (.as rfl) ?_
        refine .nil (.code (.seq (.seq (.region ?_))))
        refine .p rfl rfl (.fieldAddr rfl rfl rfl rfl) ?_
        refine .p rfl rfl (.load rfl rfl rfl (B34.cell 2)) ?_
        refine .p rfl rfl (.add rfl rfl (by omega)) ?_
        refine .p rfl rfl (.as rfl) ?_
        refine .nil (.code (.block (.keep [(9, _), (8, _), (6, _), (2, _), (1, _)] ⟨rfl, rfl, rfl, rfl, rfl, trivial⟩ ?_)))
        refine .loop (S := Nat × World) (fun s => [(1, str r), (2, .pointer (some ⟨w.heap.size, 0, none⟩)), (6, .pointer (some ⟨w8.heap.size, 0, none⟩)), (8, .int .u64 ((saltTo d epoch a s.1).toNat : Int)), (9, i64 ((17 + (a + s.1) : Nat) : Int))]) (fun s => s.2) (fun s => s.1 ≤ 63 - a ∧ Ext (fun _ => False) w34 s.2) (fun s => 63 - a - s.1) (0, w34) ⟨rfl, rfl, rfl, rfl, rfl, trivial⟩ rfl ⟨Nat.zero_le _, .refl _⟩ ?_
        rintro ⟨i, wi⟩ J ⟨hi', hX⟩ again
        simp only at hi' hX
        change G _ [(1, str r), (2, .pointer (some ⟨w.heap.size, 0, none⟩)), (6, .pointer (some ⟨w8.heap.size, 0, none⟩)), (8, .int .u64 ((saltTo d epoch a i).toNat : Int)), (9, i64 ((17 + (a + i) : Nat) : Int))] _ _ wi
        refine .seq (.seq (.region ?_))
        refine .p rfl rfl (.mv rfl) ?_
        refine .p rfl rfl (.lt rfl rfl) ?_
        refine .nil (.code (.keep [(37, _), (1, _), (2, _), (6, _), (8, _), (9, _)] ⟨rfl, rfl, rfl, rfl, rfl, rfl, trivial⟩ ?_))
        refine .condD rfl (fun c37 => ?_) (fun c37 => ?_)
        · have hi : i < 63 - a := by omega
          refine .skip (.code (.seq (.block (.seq (.keep [(1, _), (2, _), (6, _), (8, _), (9, _)] ⟨rfl, rfl, rfl, rfl, rfl, trivial⟩ (.region ?_))))))
          refine .p rfl rfl (.loadA (n := 3) rfl rfl rfl rfl rfl (B2.ext hX (fun x => x)).cells) ?_
          refine .p rfl rfl (.mv rfl) ?_
          refine .call (first := []) (captured := []) rfl rfl rfl rfl (refNow_fn (tDisk.ext0 h (X34.trans hX)) (asked_in hck (by omega) (by omega))) ?_
          rintro r48 w48 ⟨b48, O48, hb48, X48⟩
          have R48 : tBytes.rep All w48 r48 (readF d ((17 + (a + i) : Nat) : Int)) := O48.rep trivial (fun _ h _ => h.elim)
          have hl := readF_length hck (n := ((17 + (a + i) : Nat) : Int)) (by omega) (by omega)
          obtain ⟨a48, c48, rfl, hc48⟩ := Sl.val R48
          rw [hl] at R48 hc48 ⊢
          have R58 := Sl.cut R48 4 128 (by omega) (by omega)
          have R61 := Sl.cut R48 8 128 (by omega) (by omega)
          have et : (readF d ((17 + (a + i) : Nat) : Int)).take 128 = readF d ((17 + (a + i) : Nat) : Int) := List.take_of_length_le (by omega)
          rw [et] at R58 R61
          refine .p rfl rfl (.as rfl) ?_
          refine .nil (.code (.seq (.keep [(10, _), (1, _), (2, _), (6, _), (8, _), (9, _)] ⟨rfl, rfl, rfl, rfl, rfl, rfl, trivial⟩ (.mix (fun _ => False) [1] (by kernel_rfl) (by kernel_rfl) (by kernel_rfl) ?_))))
          refine .p rfl rfl rfl (fun wx hx => .mv rfl) ?_
          refine .call (first := []) (captured := []) rfl rfl rfl rfl rfl (number_fn R48 (by omega)) (by rintro _ _ ⟨_, hX⟩; exact hX) ?_
          rintro _ w50 ⟨rfl, X50⟩
          refine .p rfl rfl rfl (fun wx hx => .fieldAddr rfl rfl rfl rfl) ?_
          refine .p rfl rfl rfl (fun wx hx => .load rfl rfl rfl ((B34.ext (hX.trans (X48.trans hx)) (fun x => x)).cell 0)) ?_
          refine .p rfl rfl rfl (fun wx hx => .eq rfl rfl) ?_
          refine .nil (.code (.keep [(47, _), (10, _), (1, _), (2, _), (6, _), (8, _), (9, _)] ⟨rfl, rfl, rfl, rfl, rfl, rfl, rfl, trivial⟩ ?_))
          refine .condD rfl (fun c47 => ?_) (fun c47 => ?_)
          · refine .keep [(10, _), (1, _), (2, _), (6, _), (8, _), (9, _)] ⟨rfl, rfl, rfl, rfl, rfl, rfl, trivial⟩ (.mix (fun _ => False) [3, 7] (by kernel_rfl) (by kernel_rfl) (by kernel_rfl) ?_)
            refine .p rfl rfl rfl (fun wx hx => .mv rfl) ?_
            refine .p rfl rfl rfl (fun wx hx => .mv rfl) ?_
            refine .p rfl rfl rfl (fun wx hx => .cutLo (s := 1) rfl rfl rfl rfl (by omega)) ?_
            refine .call (first := []) (captured := []) rfl rfl rfl rfl rfl (number_fn (tBytes.ext0 R58 X50) (by rw [List.length_drop]; omega)) (by rintro _ _ ⟨_, hX⟩; exact hX) ?_
            rintro _ w59 ⟨rfl, X59⟩
            refine .p rfl rfl rfl (fun wx hx => .conv32_U rfl rfl rfl) ?_
            refine .p rfl rfl rfl (fun wx hx => .mv rfl) ?_
            refine .p rfl rfl rfl (fun wx hx => .cutLo (s := 1) rfl rfl rfl rfl (by omega)) ?_
            refine .call (first := []) (captured := []) rfl rfl rfl rfl rfl (number_fn (tBytes.ext0 R61 (X50.trans X59)) (by rw [List.length_drop]; omega)) (by rintro _ _ ⟨_, hX⟩; exact X59.trans hX) ?_
            rintro _ w62 ⟨rfl, X62⟩
            refine .p rfl rfl rfl (fun wx hx => .conv32_U rfl rfl rfl) ?_
            refine .p rfl rfl rfl (fun wx hx => .cast (.max3 rfl rfl rfl) (u64_max3 _ _ _)) ?_
            refine .p rfl rfl rfl (fun wx hx => .as rfl) ?_
            refine .nil (.blk (.code (.keep [(8, _), (1, _), (2, _), (6, _), (9, _)] ⟨rfl, rfl, rfl, rfl, rfl, trivial⟩ (.region ?_))))
            refine .p rfl rfl (.mv rfl) ?_
            refine .p rfl rfl (.add rfl rfl (by omega)) ?_
            refine .p rfl rfl (.as rfl) ?_
            refine .nil ?_
            refine (again (i + 1, w62) ⟨by show i + 1 ≤ _; omega, hX.trans (X48.trans (X50.trans (X59.trans X62)))⟩ (by show _ - (i + 1) < _ - i; omega)).of ⟨rfl, rfl, rfl, ?_, rfl, trivial⟩
            show some _ = some (Value.int .u64 ((saltTo d epoch a (i + 1)).toNat : Int))
            rw [saltTo_succ, saltStep_T ((u32_eq _ _).1 c47)]
          · refine .skip (.blk (.code (.keep [(1, _), (2, _), (6, _), (8, _), (9, _)] ⟨rfl, rfl, rfl, rfl, rfl, trivial⟩ (.region ?_))))
            refine .p rfl rfl (.mv rfl) ?_
            refine .p rfl rfl (.add rfl rfl (by omega)) ?_
            refine .p rfl rfl (.as rfl) ?_
            refine .nil ?_
            refine (again (i + 1, w50) ⟨by show i + 1 ≤ _; omega, hX.trans (X48.trans X50)⟩ (by show _ - (i + 1) < _ - i; omega)).of ⟨rfl, rfl, rfl, ?_, rfl, trivial⟩
            show some _ = some (Value.int .u64 ((saltTo d epoch a (i + 1)).toNat : Int))
            rw [saltTo_succ, saltStep_F (fun e => c47 ((u32_eq _ _).2 e))]
        · obtain rfl : i = 63 - a := by omega
          rw [show saltTo d epoch a (63 - a) = saltF d epoch a from rfl]
          refine .exit rfl (.code (.seq (.keep [(1, _), (6, _), (8, _)] ⟨rfl, rfl, rfl, trivial⟩ (.region ?_))))
          refine .p rfl rfl (.mv rfl) ?_
          refine .p rfl rfl (.addU rfl rfl (by have := (saltF d epoch a).toNat_lt; omega)) ?_
          refine .p rfl rfl (.as rfl) ?_
          refine .nil (.code (.seq (.seq (.keep [(8, _), (1, _), (6, _)] ⟨rfl, rfl, rfl, trivial⟩ (.region ?_)))))
          refine .p rfl rfl (.mv rfl) ?_
          refine .p rfl rfl (.gt rfl rfl) ?_
          refine .nil (.code (.keep [(61, _), (8, _), (1, _), (6, _)] ⟨rfl, rfl, rfl, rfl, trivial⟩ ?_))
          refine .condD rfl (fun c61 => ?_) (fun c61 => ?_)
          · have c65 : saltF d epoch a = 4294967295 := (u32_last _).1 (by have := (saltF d epoch a).toNat_lt; omega)
            refine .seq (.keep [] trivial (.region ?_))
            refine .p rfl rfl (.as rfl) ?_
            refine .p rfl rfl (.as rfl) ?_
            refine .nil (.code ?_)
            refine .ret _ rfl ?_
            rw [A4 rfl (by omega) (by omega) c65]
            exact ⟨_, rfl, Sl.nil, (X34.trans hX)⟩
          · have c65' : ¬ saltF d epoch a = 4294967295 := fun e => c61 (by have := (u32_last _).2 e; omega)
            have hX := hX
            refine .skip (.code (.seq (.keep [(8, _), (1, _), (6, _)] ⟨rfl, rfl, rfl, trivial⟩ (.region ?_))))
            refine .p rfl rfl (.fieldAddr rfl rfl rfl rfl) ?_
            refine .p rfl rfl (.load rfl rfl rfl ((B34.ext hX (fun x => x)).cell 0)) ?_
            refine .p rfl rfl (.mv rfl) ?_
            refine .p rfl rfl (.cast (.convW rfl rfl rfl (by omega)) u32_up) ?_
            refine .p rfl rfl (.fieldAddr rfl rfl rfl rfl) ?_
            refine .p rfl rfl (.load rfl rfl rfl ((B34.ext hX (fun x => x)).cell 3)) ?_
            refine .p rfl rfl (.mv rfl) ?_
            refine .call (first := []) (captured := []) rfl rfl rfl rfl (RefFrame_fn (by simp only [Lim]; omega)) ?_
            rintro _ w78 ⟨s78, rfl, R78, X78⟩
            have hsn := u32_succ_ne c65'
            rw [frame_good hep hsn.1 (by omega)] at R78 ⊢
            have R78 := tBytes.mono (P' := fun k => k < w78.heap.size) R78 (fun k _ h => h)
            have hFl := frameL_length epoch (saltF d epoch a + 1) last r
            generalize hF : frameL epoch (saltF d epoch a + 1) last r = F at R78 hFl A5 ⊢
            have X78' := X34.trans (hX.trans X78)
            have B78 := B34.ext (hX.trans X78) (fun x => x)
            have z78 := X78'.size
            refine .p rfl rfl (.mv rfl) ?_
            refine .p rfl rfl (.cast (.extract rfl rfl) (show _ = s78 from rfl)) ?_
            refine .p rfl rfl (.extract rfl rfl) ?_
            refine .p rfl rfl (.as rfl) ?_
            refine .p rfl rfl (.as rfl) ?_
            refine .nil (.code (.seq (.keep [(11, _), (6, _)] ⟨rfl, rfl, trivial⟩ (.region ?_))))
            refine .p rfl rfl (.as rfl) ?_
            refine .nil (.code (.seq (.seq (.region ?_))))
            refine .p rfl rfl (.as rfl) ?_
            refine .nil (.code (.block ?_))
            refine .loop (S := Nat × World × Value) (fun s => [(6, .pointer (some ⟨w8.heap.size, 0, none⟩)), (11, s78), (13, s.2.2), (14, i64 s.1)]) (fun s => s.2.1) (fun s => s.1 ≤ needs r.length ∧ tBytes.rep (fun k => k < w78.heap.size) s.2.1 s78 F ∧ OwnO tAct (fun k => k < w78.heap.size) 64 s.2.1 s.2.2 (actsTo (17 + a) F s.1) (fun k => w78.heap.size ≤ k) ∧ Ext (fun _ => False) w78 s.2.1) (fun s => needs r.length - s.1) (0, w78, .slice none 0 0) ⟨rfl, rfl, rfl, rfl, trivial⟩ rfl ⟨Nat.zero_le _, R78, OwnO.nil, .refl _⟩ ?_
            rintro ⟨j, wj, va⟩ J ⟨hj, Rb, hO, hXj⟩ again
            simp only at hj Rb hO hXj
            have zj := hXj.size
            change G _ [(6, .pointer (some ⟨w8.heap.size, 0, none⟩)), (11, s78), (13, va), (14, i64 j)] _ _ wj
            refine .seq (.seq (.region ?_))
            obtain ⟨ab, cb, rfl, hcb⟩ := Sl.val Rb
            refine .p rfl rfl (.mv rfl) ?_
            refine .p rfl rfl (.mul rfl rfl (by omega)) ?_
            refine .p rfl rfl (.mv rfl) ?_
            refine .p rfl rfl (.len rfl rfl) ?_
            refine .p rfl rfl (.lt rfl rfl) ?_
            refine .nil (.code (.keep [(77, _), (6, _), (11, _), (13, _), (14, _)] ⟨rfl, rfl, rfl, rfl, rfl, trivial⟩ ?_))
            refine .condD rfl (fun c77 => ?_) (fun c77 => ?_)
            · have hj2 : j < needs r.length := by omega
              obtain ⟨a92, c92, hv92, hc92, R92⟩ := Sl.cutE Rb (j * 128) (j * 128 + 128) (by omega) (by omega)
              rw [List.drop_take] at R92
              rw [Nat.add_sub_cancel_left] at hv92 R92
              have hdl : ((F.drop (j * 128)).take 128).length = 128 := by rw [List.length_take, List.length_drop]; omega
              refine .skip (.code (.seq (.block (.keep [(6, _), (11, _), (13, _), (14, _)] ⟨rfl, rfl, rfl, rfl, trivial⟩ (.mix (fun k => w78.heap.size ≤ k) [15, 16] (by kernel_rfl) (by kernel_rfl) (by kernel_rfl) ?_)))))
              refine .p rfl rfl rfl (fun wx hx => .mv rfl) ?_
              refine .p rfl rfl rfl (fun wx hx => .fieldAddr rfl rfl rfl rfl) ?_
              refine .p rfl rfl rfl (fun wx hx => .load rfl rfl rfl (((B78.ext hXj (fun x => x)).ext hx (by show ¬ w78.heap.size ≤ w8.heap.size; have := B78.lt; omega)).cell 2)) ?_
              refine .p rfl rfl rfl (fun wx hx => .add rfl rfl (by omega)) ?_
              refine .p rfl rfl rfl (fun wx hx => .mv rfl) ?_
              refine .p rfl rfl rfl (fun wx hx => .add rfl rfl (by omega)) ?_
              refine .p rfl rfl rfl (fun wx hx => .mv rfl) ?_
              refine .p rfl rfl rfl (fun wx hx => .mv rfl) ?_
              refine .p rfl rfl rfl (fun wx hx => .mul rfl rfl (by omega)) ?_
              refine .p rfl rfl rfl (fun wx hx => .mv rfl) ?_
              refine .p rfl rfl rfl (fun wx hx => .mul rfl rfl (by omega)) ?_
              refine .p rfl rfl rfl (fun wx hx => .add rfl rfl (by omega)) ?_
              refine .p rfl rfl rfl (fun wx hx => .cast (.cut (s := 1) rfl rfl rfl rfl rfl (by omega)) (show cutV 1 ab cb ((j : Int) * 128).toNat ((j : Int) * 128 + 128).toNat = .slice a92 128 c92 by rw [show ((j : Int) * 128).toNat = j * 128 by omega, show ((j : Int) * 128 + 128).toNat = j * 128 + 128 by omega]; exact hv92)) ?_
              refine .p rfl rfl rfl (fun wx hx => .build (cs := [i64 ((17 + a + j : Nat) : Int), .slice a92 128 c92]) rfl (fun _ => by kernel_rfl)) ?_
              refine .p rfl rfl rfl (fun wx hx => .build (cs := [.bool false, i64 ((17 + a + j : Nat) : Int), .slice a92 128 c92]) rfl (fun _ => by kernel_rfl)) ?_
              refine .v rfl rfl rfl (.lits rfl rfl (fun _ => by kernel_rfl)) (by rintro _ _ ⟨_, hN⟩; exact hN.ext0) ?_
              rintro _ w101 ⟨rfl, N101⟩
              have z101 := N101.size
              have hO101 := OwnO.ext0 hO N101.ext
              refine .v rfl rfl rfl (.appendLo (t := tAct) (Q := fun k => k < w78.heap.size) (B := fun k => w78.heap.size ≤ k) (eb := 40) rfl hO101 (fun k hk => by show w78.heap.size ≤ k; omega) rfl (.inr (New.holds (t := tAct) (xs := [⟨false, ⟨((17 + a + j : Nat) : Int), (F.drop (j * 128)).take 128⟩⟩]) N101 (.cons (tAct.mk (P := fun k => k < w78.heap.size) (a := ⟨false, ⟨((17 + a + j : Nat) : Int), (F.drop (j * 128)).take 128⟩⟩) R92 (by show -9223372036854775808 ≤ ((17 + a + j : Nat) : Int) ∧ ((17 + a + j : Nat) : Int) ≤ 9223372036854775807; omega)) .nil) rfl)) rfl rfl rfl rfl rfl rfl rfl (by rw [actsTo_length]; simp; omega) (by rw [actsTo_length]; simp [Lim]; omega) (fun k hk hlt hB2 => by have h1 : k < w78.heap.size := hk; have h2 : w78.heap.size ≤ k := hB2; omega)) (by rintro _ _ ⟨_, hY⟩; exact (N101.ext.mono (fun _ _ h => h.elim)).trans hY) ?_
              rintro r102 w102 ⟨G102, Y102⟩
              have z102 := Y102.size
              refine .p rfl rfl rfl (fun wx hx => .as rfl) ?_
              refine .nil (.blk (.code (.keep [(13, _), (6, _), (11, _), (14, _)] ⟨rfl, rfl, rfl, rfl, trivial⟩ (.region ?_))))
              refine .p rfl rfl (.mv rfl) ?_
              refine .p rfl rfl (.add rfl rfl (by omega)) ?_
              refine .p rfl rfl (.as rfl) ?_
              refine .nil ?_
              refine (again (j + 1, w102, r102) ⟨by show j + 1 ≤ _; omega, ?_, ?_, ?_⟩ (by show _ - (j + 1) < _ - j; omega)).of ⟨rfl, rfl, rfl, rfl, trivial⟩
              · exact tBytes.ext (tBytes.ext0 Rb N101.ext) Y102 (fun k hk _ h => by have hk : k < w78.heap.size := hk; have h : w78.heap.size ≤ k := h; omega)
              · show OwnO tAct _ _ w102 r102 (actsTo (17 + a) F (j + 1)) _
                rw [actsTo_succ]
                exact G102
              · exact (hXj.trans N101.ext).then Y102 (fun k h _ => h)
            · refine .exit rfl (.code (.seq (.keep [(13, _)] ⟨rfl, trivial⟩ (.region ?_))))
              refine .p rfl rfl (.mv rfl) ?_
              refine .p rfl rfl (.as rfl) ?_
              refine .p rfl rfl (.as rfl) ?_
              refine .nil (.code ?_)
              refine .ret _ rfl ?_
              rw [A5 rfl (by omega) (by omega) c65']
              obtain rfl : j = needs r.length := by omega
              exact ⟨_, rfl, OwnO.rep hO (fun _ _ _ => trivial) (fun _ _ _ => trivial), X78'.trans hXj⟩
theorem RefClear_fn {w : World} {v : Value} {d : Disk} (h : tDisk.rep All w v d) : Fn Try.prog 26 [v] w (fun x w2 => ∃ v', x = .tuple #[v', i64 (clearF d).2] ∧ (Sl tAct).rep All w2 v' (clearF d).1 ∧ Ext (fun _ => False) w w2) := by
  obtain ⟨u, u', rfl, hd, hw, hc1, hc2⟩ := tDisk.val h
  refine Fn.enter (fun w => Try.call26 _ w) Try.func26 rfl ?_
  refine .seq (.region ?_)
  refine .v rfl rfl (.box rfl) ?_
  rintro _ w1 ⟨rfl, N1⟩
  refine .p rfl rfl (.as rfl) ?_
  refine .p rfl rfl (.as rfl) ?_
  refine .nil (.code (.seq (.keep [(1, _)] ⟨rfl, trivial⟩ (.region ?_))))
  refine .p rfl rfl (.loadA (n := 3) rfl rfl rfl rfl rfl N1.blk.cells) ?_
  refine .call (first := []) (captured := []) rfl rfl rfl rfl (refCheck_fn (tDisk.ext0 h N1.ext)) ?_
  rintro _ w9 ⟨rfl, X9⟩
  have X1 := N1.ext.trans X9
  have B9 := N1.blk.ext X9 (fun x => x)
  have z1 := X1.size
  refine .p rfl rfl (.as rfl) ?_
  refine .nil (.code (.seq (.seq (.keep [(4, _), (1, _)] ⟨rfl, rfl, trivial⟩ (.region ?_)))))
  refine .p rfl rfl (.mv rfl) ?_
  refine .p rfl rfl (.ne rfl rfl) ?_
  refine .nil (.code (.keep [(13, _), (4, _), (1, _)] ⟨rfl, rfl, rfl, trivial⟩ ?_))
  refine .condD rfl (fun c13 => ?_) (fun c13 => ?_)
  · refine .seq (.keep [(4, _)] ⟨rfl, trivial⟩ (.region ?_))
    refine .p rfl rfl (.mv rfl) ?_
    refine .p rfl rfl (.as rfl) ?_
    refine .p rfl rfl (.as rfl) ?_
    refine .nil (.code ?_)
    refine .ret _ rfl ?_
    have hth : thereF d = checkF d := by unfold thereF; rw [if_pos c13]
    rw [clear_err (by rw [hth]; exact c13), hth]
    exact ⟨_, rfl, Sl.nil, X1⟩
  · have hck : checkF d = 0 := Decidable.byContradiction c13
    refine .skip (.code (.seq (.seq (.keep [(1, _)] ⟨rfl, trivial⟩ (.region ?_)))))
    refine .p rfl rfl (.fieldAddr rfl rfl rfl rfl) ?_
    refine .p rfl rfl (.load rfl rfl rfl (B9.cell 0)) ?_
    refine .p rfl rfl (.lt rfl rfl) ?_
    refine .nil (.code (.keep [(17, _), (1, _)] ⟨rfl, rfl, trivial⟩ ?_))
    refine .condD rfl (fun c17 => ?_) (fun c17 => ?_)
    · refine .seq (.keep [] trivial (.region ?_))
      refine .p rfl rfl (.as rfl) ?_
      refine .p rfl rfl (.as rfl) ?_
      refine .nil (.code ?_)
      refine .ret _ rfl ?_
      have hth : thereF d = 50 := by unfold thereF; rw [if_neg (fun hh => hh hck), if_pos (by omega)]
      rw [clear_err (by rw [hth]; decide), hth]
      exact ⟨_, rfl, Sl.nil, X1⟩
    · have hct : 80 ≤ d.count := by omega
      have hth : thereF d = 0 := by unfold thereF; rw [if_neg (fun hh => hh hck), if_neg (by omega)]
      refine .skip (.code (.seq (.keep [(1, _)] ⟨rfl, trivial⟩ (.region ?_))))
      refine .p rfl rfl (.loadA (n := 3) rfl rfl rfl rfl rfl B9.cells) ?_
      refine .call (first := []) (captured := []) rfl rfl rfl rfl (RefHead_fn (tDisk.ext0 h X1) hck hct) ?_
      rintro _ w14 ⟨rfl, X14⟩
      have X2 := X1.trans X14
      refine .p rfl rfl (.conv32_U rfl rfl rfl) ?_
      refine .p rfl rfl (.as rfl) ?_
      refine .nil (.code (.seq (.seq (.keep [(5, _), (1, _)] ⟨rfl, rfl, trivial⟩ (.region ?_)))))
      refine .p rfl rfl (.as rfl) ?_
      refine .nil (.code (.block ?_))
      refine .loop (S := Nat × World) (fun s => [(1, .pointer (some ⟨w.heap.size, 0, none⟩)), (5, .int .u64 ((epochTo d s.1).toNat : Int)), (6, i64 ((17 + s.1 : Nat) : Int))]) (fun s => s.2) (fun s => s.1 ≤ 63 ∧ Ext (fun _ => False) w14 s.2) (fun s => 63 - s.1) (0, w14) ⟨rfl, rfl, rfl, trivial⟩ rfl ⟨Nat.zero_le _, .refl _⟩ ?_
      rintro ⟨i, wi⟩ J ⟨hi', hX⟩ again
      simp only at hi' hX
      change G _ [(1, .pointer (some ⟨w.heap.size, 0, none⟩)), (5, .int .u64 ((epochTo d i).toNat : Int)), (6, i64 ((17 + i : Nat) : Int))] _ _ wi
      refine .seq (.seq (.region ?_))
      refine .p rfl rfl (.mv rfl) ?_
      refine .p rfl rfl (.lt rfl rfl) ?_
      refine .nil (.code (.keep [(22, _), (1, _), (5, _), (6, _)] ⟨rfl, rfl, rfl, rfl, trivial⟩ ?_))
      refine .condD rfl (fun c22 => ?_) (fun c22 => ?_)
      · have hi : i < 63 := by omega
        refine .skip (.code (.seq (.block (.keep [(1, _), (5, _), (6, _)] ⟨rfl, rfl, rfl, trivial⟩ (.region ?_)))))
        refine .p rfl rfl (.mv rfl) ?_
        refine .p rfl rfl (.loadA (n := 3) rfl rfl rfl rfl rfl (B9.ext (X14.trans hX) (fun x => x)).cells) ?_
        refine .p rfl rfl (.mv rfl) ?_
        refine .call (first := []) (captured := []) rfl rfl rfl rfl (refNow_fn (tDisk.ext0 h (X2.trans hX)) (asked_in hck (by omega) (by omega))) ?_
        rintro r22 w22 ⟨b22, O22, hb22, X22⟩
        have R22 : tBytes.rep All w22 r22 (readF d ((17 + i : Nat) : Int)) := O22.rep trivial (fun _ h _ => h.elim)
        have hl := readF_length hck (n := ((17 + i : Nat) : Int)) (by omega) (by omega)
        refine .call (first := []) (captured := []) rfl rfl rfl rfl (number_fn R22 (by omega)) ?_
        rintro _ w23 ⟨rfl, X23⟩
        refine .p rfl rfl (.conv32_U rfl rfl rfl) ?_
        refine .p rfl rfl (.cast (.max2 rfl rfl) (u64_max _ _)) ?_
        refine .p rfl rfl (.as rfl) ?_
        refine .nil (.blk (.code (.keep [(5, _), (1, _), (6, _)] ⟨rfl, rfl, rfl, trivial⟩ (.region ?_))))
        refine .p rfl rfl (.mv rfl) ?_
        refine .p rfl rfl (.add rfl rfl (by omega)) ?_
        refine .p rfl rfl (.as rfl) ?_
        refine .nil ?_
        exact (again (i + 1, w23) ⟨by show i + 1 ≤ _; omega, hX.trans (X22.trans X23)⟩ (by show _ - (i + 1) < _ - i; omega)).of ⟨rfl, rfl, rfl, trivial⟩
      · obtain rfl : i = 63 := by omega
        have zX := hX.size
        have z14 := X14.size
        have C1 := @clear_full d hth
        have C2 := @clear_good d hth
        generalize epochTo d 63 = ep at *
        refine .exit rfl (.code (.seq (.keep [(5, _)] ⟨rfl, trivial⟩ (.region ?_))))
        refine .p rfl rfl (.mv rfl) ?_
        refine .p rfl rfl (.cast (.addU rfl rfl (by have := ep.toNat_lt; omega)) (show _ = Value.int .u64 ((ep.toNat + 1 : Nat) : Int) from rfl)) ?_
        refine .p rfl rfl (.as rfl) ?_
        refine .nil (.code (.seq (.seq (.keep [(5, _)] ⟨rfl, trivial⟩ (.region ?_)))))
        refine .p rfl rfl (.mv rfl) ?_
        refine .p rfl rfl (.gt rfl rfl) ?_
        refine .nil (.code (.keep [(35, _), (5, _)] ⟨rfl, rfl, trivial⟩ ?_))
        refine .condD rfl (fun c35 => ?_) (fun c35 => ?_)
        · have c35' : ep = 4294967295 := (u32_last _).1 (by have := ep.toNat_lt; omega)
          refine .seq (.keep [] trivial (.region ?_))
          refine .p rfl rfl (.as rfl) ?_
          refine .p rfl rfl (.as rfl) ?_
          refine .nil (.code ?_)
          refine .ret _ rfl ?_
          rw [C1 c35']
          exact ⟨_, rfl, Sl.nil, (X2.trans hX)⟩
        · have c35' : ¬ ep = 4294967295 := fun e => c35 (by have := (u32_last _).2 e; omega)
          have hlt := ep.toNat_lt
          refine .skip (.code (.seq (.keep [(5, _)] ⟨rfl, trivial⟩ (.region ?_))))
          refine .v rfl rfl (.make (eb := 1) rfl rfl rfl rfl rfl rfl rfl rfl (by omega)) ?_
          rintro _ w36 ⟨rfl, N36⟩
          have B27 : Blk w36 wi.heap.size 5 ((List.replicate 128 0).map u8) := by rw [List.map_replicate]; exact N36.blk
          have z27 := N36.size
          have hp8 := put8_length (ep.toNat + 1)
          have hcl : put8 (ep.toNat + 1) ++ List.replicate 120 0 = clearB (ep + 1) := by rw [← (u32_succ_ne c35').2]; exact clear_put8 (ep + 1)
          refine .p rfl rfl (.as rfl) ?_
          refine .nil (.code (.seq (.seq (.keep [(7, _), (5, _)] ⟨rfl, rfl, trivial⟩ (.region ?_)))))
          refine .p rfl rfl (.mv rfl) ?_
          refine .call (first := []) (captured := []) rfl rfl rfl rfl (RefPut_fn (n := ep.toNat + 1) (by omega)) ?_
          rintro r38 w38 ⟨R38, X38⟩
          obtain ⟨a38, c38, rfl, hc38⟩ := Sl.val R38
          generalize put8 (ep.toNat + 1) = p8 at *
          rw [hp8] at R38 hc38 ⊢
          have B38 := B27.ext X38 (fun x => x)
          have z38 := X38.size
          have R38 := tBytes.mono (P' := fun k => w36.heap.size ≤ k) R38 (fun k h _ => h)
          refine .p rfl rfl (.len rfl rfl) ?_
          refine .p rfl rfl (.mv rfl) ?_
          refine .nil (.code (.block (.keep [(40, _), (39, _), (38, _), (7, _)] ⟨rfl, rfl, rfl, rfl, trivial⟩ ?_)))
          refine .loop (S := Nat × World) (fun s => [(7, .slice (some ⟨wi.heap.size, 0, none⟩) 128 128), (38, .slice a38 8 c38), (39, i64 8), (40, i64 s.1)]) (fun s => s.2) (fun s => s.1 ≤ 8 ∧ Blk s.2 wi.heap.size 5 ((p8.take s.1 ++ List.replicate (128 - s.1) 0).map u8) ∧ tBytes.rep (fun k => w36.heap.size ≤ k) s.2 (.slice a38 8 c38) p8 ∧ Ext (fun k => k = wi.heap.size) w38 s.2) (fun s => 8 - s.1) (0, w38) ⟨rfl, rfl, rfl, rfl, trivial⟩ rfl ⟨Nat.zero_le _, B38, R38, .refl _⟩ ?_
          rintro ⟨k, wk⟩ J ⟨hk', Bk, Rk, hXk⟩ again
          simp only at hk' Bk Rk hXk
          change G _ [(7, .slice (some ⟨wi.heap.size, 0, none⟩) 128 128), (38, .slice a38 8 c38), (39, i64 8), (40, i64 k)] _ _ wk
          refine .seq (.region ?_)
          refine .p rfl rfl (.lt rfl rfl) ?_
          refine .nil (.code (.seq ?_))
          refine .condD rfl (fun c41 => ?_) (fun c41 => ?_)
          · have hk : k < 8 := by omega
            obtain ⟨b, o, rfl, _, hc⟩ := Sl.byteAt Rk (k := k) (by omega)
            refine .skip (.code (.seq (.block (.seq (.keep [(7, _), (38, _), (39, _), (40, _)] ⟨rfl, rfl, rfl, rfl, trivial⟩ (.region ?_))))))
            refine .p rfl rfl (.mv rfl) ?_
            refine .p rfl rfl (.indexAddr1 rfl rfl rfl rfl (by omega)) ?_
            refine .p rfl rfl (.load rfl rfl rfl hc) ?_
            refine .p rfl rfl (.as rfl) ?_
            refine .p rfl rfl (.as rfl) ?_
            refine .nil (.code (.keep [(9, _), (8, _), (7, _), (38, _), (39, _), (40, _)] ⟨rfl, rfl, rfl, rfl, rfl, rfl, trivial⟩ (.region ?_)))
            refine .p rfl rfl (.mv rfl) ?_
            refine .p rfl rfl (.mv rfl) ?_
            refine .p rfl rfl (.mv rfl) ?_
            refine .p rfl rfl (.indexAddr0 rfl rfl rfl rfl (by omega)) ?_
            refine .s rfl (.store rfl rfl rfl rfl rfl Bk (by simp; omega)) ?_
            intro w48 P48
            have B48 : Blk w48 wi.heap.size 5 ((p8.take (k + 1) ++ List.replicate (128 - (k + 1)) 0).map u8) := by rw [← fill_set (by omega) (by omega)]; exact P48.blk
            refine .nil (.blk (.code (.keep [(7, _), (38, _), (39, _), (40, _)] ⟨rfl, rfl, rfl, rfl, trivial⟩ (.region ?_))))
            refine .p rfl rfl (.add rfl rfl (by omega)) ?_
            refine .p rfl rfl (.mv rfl) ?_
            refine .nil ?_
            exact (again (k + 1, w48) ⟨by show k + 1 ≤ _; omega, B48, tBytes.ext Rk P48.ext (fun q hq _ he => by have hq : w36.heap.size ≤ q := hq; have he : q = wi.heap.size := he; omega), hXk.trans P48.ext⟩ (by show _ - (k + 1) < _ - k; omega)).of ⟨rfl, rfl, rfl, rfl, trivial⟩
          · obtain rfl : k = 8 := by omega
            rw [List.take_of_length_le (by omega), hcl] at Bk
            have hcb := clearB_length (ep + 1)
            have O32 : Own tByte (fun _ => False) 5 wk (.slice (some ⟨wi.heap.size, 0, none⟩) 128 128) (clearB (ep + 1)) wi.heap.size := by have := Own.ofBytes (Q := fun _ => False) Bk (by rw [hcb]; decide); rw [hcb] at this; exact this
            have zk := hXk.size
            refine .exit rfl (.code (.seq (.keep [(7, _)] ⟨rfl, trivial⟩ (.region ?_))))
            refine .p rfl rfl (.mv rfl) ?_
            refine .p rfl rfl (.build (cs := [i64 16, .slice (some ⟨wi.heap.size, 0, none⟩) 128 128]) rfl (fun _ => by kernel_rfl)) ?_
            refine .p rfl rfl (.build (cs := [.bool false, i64 16, .slice (some ⟨wi.heap.size, 0, none⟩) 128 128]) rfl (fun _ => by kernel_rfl)) ?_
            refine .p rfl rfl (.build (cs := [.bool true, i64 0, .slice none 0 0]) rfl (fun _ => by kernel_rfl)) ?_
            refine .v rfl rfl (.lits rfl rfl (fun _ => by kernel_rfl)) ?_
            rintro _ w54 ⟨rfl, N54⟩
            refine .p rfl rfl (.as rfl) ?_
            refine .p rfl rfl (.as rfl) ?_
            refine .nil (.code ?_)
            refine .ret _ rfl ?_
            rw [C2 c35']
            have hOl : Own tActO (fun k => k = wi.heap.size) 64 w54 _ [⟨false, ⟨16, clearB (ep + 1)⟩⟩, ⟨true, ⟨0, []⟩⟩] wk.heap.size := Own.ofNew (n := 2) (cap := 2) N54 (.cons (tActO.mk (a := ⟨false, ⟨16, clearB (ep + 1)⟩⟩) (OwnB.of (P := fun k => k = wi.heap.size) O32 rfl) (by show (-9223372036854775808 : Int) ≤ 16 ∧ (16 : Int) ≤ 9223372036854775807; decide)) (.cons (tActO.mk (a := ⟨true, ⟨0, []⟩⟩) OwnO.nil (by show (-9223372036854775808 : Int) ≤ 0 ∧ (0 : Int) ≤ 9223372036854775807; decide)) .nil)) (by show 2 < Lim; decide) rfl rfl
            exact ⟨_, rfl, actsOwn (OwnO.of hOl (B := fun _ => True) trivial), ((X2.trans hX).trans (N36.ext.trans X38)).then hXk (by rintro q rfl _; omega) |>.trans N54.ext⟩
theorem SameActs_fn {w : World} {v u : Value} {a b : List disk.Act} (ha : (Sl tAct).rep All w v a) (hb : (Sl tAct).rep All w u b) : Fn Try.prog 28 [v, u] w (fun r w2 => r = .bool (decide (a = b)) ∧ Ext (fun _ => False) w w2) := by
  obtain ⟨x2, y2, rfl, _⟩ := Sl.val ha
  obtain ⟨x4, y4, rfl, _⟩ := Sl.val hb
  have hl1 := Sl.lim ha
  have hl2 := Sl.lim hb
  simp only [Lim] at hl1 hl2
  refine Fn.enter (fun w => Try.call28 _ w) Try.func28 rfl ?_
  refine .seq (.region ?_)
  refine .p rfl rfl (.as rfl) ?_
  refine .nil (.code (.seq (.seq (.keep [(0, _), (1, _)] ⟨rfl, rfl, trivial⟩ (.region ?_)))))
  refine .p rfl rfl (.mv rfl) ?_
  refine .p rfl rfl (.len rfl rfl) ?_
  refine .p rfl rfl (.mv rfl) ?_
  refine .p rfl rfl (.len rfl rfl) ?_
  refine .p rfl rfl (.ne rfl rfl) ?_
  refine .nil (.code (.keep [(10, _), (0, _), (1, _)] ⟨rfl, rfl, rfl, trivial⟩ ?_))
  refine .condD rfl (fun c10 => ?_) (fun c10 => ?_)
  · refine .seq (.keep [] trivial (.region ?_))
    refine .p rfl rfl (.as rfl) ?_
    refine .nil (.code ?_)
    refine .ret _ rfl ?_
    exact ⟨by rw [decide_eq_false (fun h => c10 (by cases h; rfl))]; rfl, .refl _⟩
  · refine .skip (.code (.seq (.seq (.keep [(0, _), (1, _)] ⟨rfl, rfl, trivial⟩ (.region ?_)))))
    refine .p rfl rfl (.as rfl) ?_
    refine .nil (.code (.block ?_))
    have hlen : a.length = b.length := by omega
    refine .loop (S := Nat) (fun s => [(0, .slice x2 a.length y2), (1, .slice x4 b.length y4), (5, i64 s)]) (fun s => w) (fun s => s ≤ a.length ∧ a.take s = b.take s) (fun s => a.length - s) 0 ⟨rfl, rfl, rfl, trivial⟩ rfl ⟨Nat.zero_le _, rfl⟩ ?_
    rintro i J ⟨hi', htk⟩ again
    refine .seq (.seq (.region ?_))
    refine .p rfl rfl (.mv rfl) ?_
    refine .p rfl rfl (.mv rfl) ?_
    refine .p rfl rfl (.len rfl rfl) ?_
    refine .p rfl rfl (.lt rfl rfl) ?_
    refine .nil (.code (.keep [(14, _), (0, _), (1, _), (5, _)] ⟨rfl, rfl, rfl, rfl, trivial⟩ ?_))
    refine .condD rfl (fun c14 => ?_) (fun c14 => ?_)
    · have hil : i < a.length := by omega
      have him : i < b.length := by omega
      obtain ⟨b1, o1, q1, ue, e, _, hcs, hre⟩ := Sl.at ha (List.getElem?_eq_getElem hil)
      cases e
      obtain ⟨ud, rfl, hudl, hsl⟩ := tAct.val hre
      obtain ⟨adl, capd, rfl, _⟩ := Sl.val hudl
      obtain ⟨b2, o2, q2, ue2, e2, _, hcm, hrm⟩ := Sl.at hb (List.getElem?_eq_getElem him)
      cases e2
      obtain ⟨um, rfl, hudm, hsm⟩ := tAct.val hrm
      obtain ⟨adm, capdm, rfl, _⟩ := Sl.val hudm
      refine .skip (.code (.seq (.block (.seq (.keep [(0, _), (1, _), (5, _)] ⟨rfl, rfl, rfl, trivial⟩ (.draws (by kernel_rfl) (by kernel_rfl) ?_))))))
      refine .p rfl rfl (.mv rfl) ?_
      refine .p rfl rfl (.mv rfl) ?_
      refine .p rfl rfl (.indexAddr (s := 3) rfl rfl rfl rfl (by omega)) ?_
      refine .p rfl rfl (.fieldAddr rfl rfl rfl rfl) ?_
      refine .p rfl rfl (.load rfl rfl rfl (hcs 0 _ rfl)) ?_
      refine .p rfl rfl (.mv rfl) ?_
      refine .p rfl rfl (.mv rfl) ?_
      refine .p rfl rfl (.indexAddr (s := 3) rfl rfl rfl rfl (by omega)) ?_
      refine .p rfl rfl (.fieldAddr rfl rfl rfl rfl) ?_
      refine .p rfl rfl (.load rfl rfl rfl (hcm 0 _ rfl)) ?_
      refine .p rfl rfl (.neB rfl rfl rfl) ?_
      refine .p rfl rfl (.mv rfl) ?_
      refine .case 28 rfl (fun c28 => ?_) (fun c28 => ?_)
      · refine .skip rfl rfl ?_
        refine .skip rfl rfl ?_
        refine .skip rfl rfl ?_
        refine .skip rfl rfl ?_
        refine .skip rfl rfl ?_
        refine .skip rfl rfl ?_
        refine .skip rfl rfl ?_
        refine .skip rfl rfl ?_
        refine .skip rfl rfl ?_
        refine .skip rfl rfl ?_
        refine .skip rfl rfl ?_
        refine .skip rfl rfl ?_
        refine .skip rfl rfl ?_
        refine .p rfl rfl (.pickT rfl rfl) ?_
        refine .p rfl rfl (.mv rfl) ?_
        refine .skip rfl rfl ?_
        refine .skip rfl rfl ?_
        refine .skip rfl rfl ?_
        refine .skip rfl rfl ?_
        refine .skip rfl rfl ?_
        refine .skip rfl rfl ?_
        refine .skip rfl rfl ?_
        refine .skip rfl rfl ?_
        refine .skip rfl rfl ?_
        refine .skip rfl rfl ?_
        refine .skip rfl rfl ?_
        refine .skip rfl rfl ?_
        refine .skip rfl rfl ?_
        refine .skip rfl rfl ?_
        refine .skip rfl rfl ?_
        refine .p rfl rfl (.pickT rfl rfl) ?_
        refine .nil (.code (.keep [(59, _), (0, _), (1, _), (5, _)] ⟨rfl, rfl, rfl, rfl, trivial⟩ (.condT rfl (.seq (.keep [] trivial (.region ?_))))))
        refine .p rfl rfl (.as rfl) ?_
        refine .nil (.code ?_)
        refine .ret _ rfl ?_
        exact ⟨by rw [decide_eq_false (fun h => by cases h; simp at c28)]; rfl, .refl _⟩
      · refine .p rfl rfl (.mv rfl) ?_
        refine .p rfl rfl (.mv rfl) ?_
        refine .p rfl rfl (.indexAddr (s := 3) rfl rfl rfl rfl (by omega)) ?_
        refine .p rfl rfl (.fieldAddr rfl rfl rfl rfl) ?_
        refine .p rfl rfl (.fieldAddr rfl rfl rfl rfl) ?_
        refine .p rfl rfl (.load rfl rfl rfl (hcs 1 _ rfl)) ?_
        refine .p rfl rfl (.mv rfl) ?_
        refine .p rfl rfl (.mv rfl) ?_
        refine .p rfl rfl (.indexAddr (s := 3) rfl rfl rfl rfl (by omega)) ?_
        refine .p rfl rfl (.fieldAddr rfl rfl rfl rfl) ?_
        refine .p rfl rfl (.fieldAddr rfl rfl rfl rfl) ?_
        refine .p rfl rfl (.load rfl rfl rfl (hcm 1 _ rfl)) ?_
        refine .p rfl rfl (.ne rfl rfl) ?_
        refine .p rfl rfl (.pickF rfl rfl) ?_
        refine .p rfl rfl (.mv rfl) ?_
        refine .caseD 43 rfl (fun c43 => ?_) (fun c43 => ?_)
        · refine .skip rfl rfl ?_
          refine .skip rfl rfl ?_
          refine .skip rfl rfl ?_
          refine .skip rfl rfl ?_
          refine .skip rfl rfl ?_
          refine .skip rfl rfl ?_
          refine .skip rfl rfl ?_
          refine .skip rfl rfl ?_
          refine .skip rfl rfl ?_
          refine .skip rfl rfl ?_
          refine .skip rfl rfl ?_
          refine .skip rfl rfl ?_
          refine .skip rfl rfl ?_
          refine .skip rfl rfl ?_
          refine .skip rfl rfl ?_
          refine .p rfl rfl (.pickT rfl rfl) ?_
          refine .nil (.code (.keep [(59, _), (0, _), (1, _), (5, _)] ⟨rfl, rfl, rfl, rfl, trivial⟩ (.condT rfl (.seq (.keep [] trivial (.region ?_))))))
          refine .p rfl rfl (.as rfl) ?_
          refine .nil (.code ?_)
          refine .ret _ rfl ?_
          exact ⟨by rw [decide_eq_false (fun h => c43 (by cases h; rfl))]; rfl, .refl _⟩
        · refine .p rfl rfl (.mv rfl) ?_
          refine .p rfl rfl (.mv rfl) ?_
          refine .p rfl rfl (.indexAddr (s := 3) rfl rfl rfl rfl (by omega)) ?_
          refine .p rfl rfl (.fieldAddr rfl rfl rfl rfl) ?_
          refine .p rfl rfl (.fieldAddr rfl rfl rfl rfl) ?_
          refine .p rfl rfl (.load rfl rfl rfl (hcs 2 _ rfl)) ?_
          refine .p rfl rfl (.bytesStr rfl hudl rfl rfl rfl) ?_
          refine .p rfl rfl (.mv rfl) ?_
          refine .p rfl rfl (.mv rfl) ?_
          refine .p rfl rfl (.indexAddr (s := 3) rfl rfl rfl rfl (by omega)) ?_
          refine .p rfl rfl (.fieldAddr rfl rfl rfl rfl) ?_
          refine .p rfl rfl (.fieldAddr rfl rfl rfl rfl) ?_
          refine .p rfl rfl (.load rfl rfl rfl (hcm 2 _ rfl)) ?_
          refine .p rfl rfl (.bytesStr rfl hudm rfl rfl rfl) ?_
          refine .p rfl rfl (.neS rfl rfl) ?_
          refine .p rfl rfl (.pickF rfl rfl) ?_
          refine .nil (.code (.keep [(59, _), (0, _), (1, _), (5, _)] ⟨rfl, rfl, rfl, rfl, trivial⟩ ?_))
          refine .condD rfl (fun c59 => ?_) (fun c59 => ?_)
          · refine .seq (.keep [] trivial (.region ?_))
            refine .p rfl rfl (.as rfl) ?_
            refine .nil (.code ?_)
            refine .ret _ rfl ?_
            exact ⟨by rw [decide_eq_false (fun h => c59 (by cases h; rfl))]; rfl, .refl _⟩
          · refine .skip (.blk (.code (.keep [(0, _), (1, _), (5, _)] ⟨rfl, rfl, rfl, trivial⟩ (.region ?_))))
            refine .p rfl rfl (.mv rfl) ?_
            refine .p rfl rfl (.add rfl rfl (by omega)) ?_
            refine .p rfl rfl (.as rfl) ?_
            refine .nil ?_
            have c27' : a[i].flush = b[i].flush := by simpa using c28
            have c41' : a[i].put.sector = b[i].put.sector := Decidable.not_not.1 c43
            exact (again (i + 1) ⟨by show i + 1 ≤ _; omega, by show a.take (i + 1) = b.take (i + 1); rw [List.take_succ_eq_append_getElem hil, List.take_succ_eq_append_getElem him, htk, act_ext c27' c41' (Decidable.not_not.1 c59)]⟩ (by show _ - (i + 1) < _ - i; omega)).of ⟨rfl, rfl, rfl, trivial⟩
    · refine .exit rfl (.code (.seq (.keep [] trivial (.region ?_))))
      refine .p rfl rfl (.as rfl) ?_
      refine .nil (.code ?_)
      refine .ret _ rfl ?_
      obtain rfl : i = a.length := by omega
      rw [List.take_length, hlen, List.take_length] at htk
      subst htk
      exact ⟨by rw [decide_eq_true rfl]; rfl, .refl _⟩
end Go.Proofs.Ytapdacjpmmjlhaa
