import Derived.Test.YthliepcjfnjnoaaGreatDoorB19
import Derived.Test.YthliepcjfnjnoaaGreatDoorB20
import Derived.Test.YthliepcjfnjnoaaGreatDoorB13
set_option linter.unusedVariables false
set_option linter.unusedSimpArgs false
set_option maxRecDepth 20000
namespace Go.Proofs.YthliepcjfnjnoaaGreatDoor
open Go
open room files
namespace files
theorem slot_step (d : Disk) (n i : Nat) : (List.range (i + 1)).flatMap (fun i => disk.readF d ((n + i : Nat) : Int)) = (List.range i).flatMap (fun i => disk.readF d ((n + i : Nat) : Int)) ++ disk.readF d ((n + i : Nat) : Int) := by
  rw [List.range_succ, List.flatMap_append, List.flatMap_cons, List.flatMap_nil, List.append_nil]
theorem slot_to {d : Disk} (hc : disk.checkF d = 0) {n : Nat} (hn : ((n + 8 : Nat) : Int) ≤ d.count) {i : Nat} (hi : i ≤ 8) : ((List.range i).flatMap (fun i => disk.readF d ((n + i : Nat) : Int))).length = i * 128 :=
  flat_length i (fun j hj => fread_length hc (by omega) (by omega))
theorem slot_all {d : Disk} {n : Nat} (h : (readD (slotB d n)).2 = 0) : (allP (slotF d n).fs).length ≤ 1000000 := by
  obtain ⟨_, hm⟩ := checkD_ok (writeF_ok (write_read h)).1
  have := (check_ok hm.2.1).2.2.1
  unfold slotF
  omega
theorem slotOK_iff {d : Disk} {n : Nat} (h : (readD (slotB d n)).2 = 0) : slotOK d n ↔ checkR d.count (allP (slotF d n).fs) = 0 := ⟨fun x => x.2, fun x => ⟨h, x⟩⟩
theorem slotOK_no {d : Disk} {n : Nat} (h : ¬ (readD (slotB d n)).2 = 0) : ¬ slotOK d n := fun x => h x.1
end files
attribute [local irreducible] readD slotB slotF mountF slotOK checkR disk.readF findTo
theorem tDir.own {w : World} {v : Value} {x : Dir} {P Q B : Nat → Prop} (h : OwnO tFileO Q 149 w v x.fs B) (hb : ∀ k, B k → P k) (hq : ∀ k, Q k → P k) (hg : -9223372036854775808 ≤ x.gen ∧ x.gen ≤ 9223372036854775807) : tDir.rep P w (.agg #[i64 x.gen, v]) x := by
  obtain ⟨a, cap, rfl, _⟩ := OwnO.val h
  exact tDir.mk (own_files h hb hq) hg
theorem readD_bd (b : Bs) : -9223372036854775808 ≤ (readD b).1.gen ∧ (readD b).1.gen ≤ 9223372036854775807 := by
  by_cases h : (readD b).2 = 0
  · obtain ⟨_, hm⟩ := checkD_ok (writeF_ok (write_read h)).1
    have := hm.1
    omega
  · rw [read_bad h]
    exact ⟨by show (-9223372036854775808 : Int) ≤ 0; decide, by show (0 : Int) ≤ _; decide⟩
theorem ReadR_fn {w : World} {v : Value} {b : Bs} (h : tBytes.rep All w v b) (hg : GOK w) : Fn Tryz.prog 215 [v] w (fun r w2 => ∃ u, r = .tuple #[u, i64 (readD b).2] ∧ tDir.rep (fun k => w.heap.size ≤ k) w2 u (readD b).1 ∧ Ext (fun _ => False) w w2) :=
  (FRead_fn h hg).mono fun r w2 ⟨v', Q, B, h1, h2, hq, hb, h3⟩ => ⟨_, h1, tDir.own h2 (fun k h => (hb k h).1) hq (readD_bd b), h3⟩
theorem slot_fn {w : World} {v : Value} {d : Disk} {n : Nat} (h : disk.tDisk.rep All w v d) (hc : disk.checkF d = 0) (hn : ((n + 8 : Nat) : Int) ≤ d.count) (hg : GOK w) : Fn Tryz.prog 176 [v, i64 (n : Nat)] w (fun r w2 => ∃ u t, r = .tuple #[u, .bool t] ∧ (t = true ↔ slotOK d n) ∧ tDir.rep (fun k => w.heap.size ≤ k) w2 u (slotF d n) ∧ Ext (fun _ => False) w w2) := by
  have h0 := h
  obtain ⟨u, u', rfl, hd1, hd2, hdc⟩ := disk.tDisk.val h
  obtain ⟨a1, k1, rfl, _⟩ := Sl.val hd1
  obtain ⟨a2, k2, rfl, _⟩ := Sl.val hd2
  have hct := (disk.check_ok hc).2.1
  refine Fn.enter (fun w => Tryz.call176 _ w) Tryz.func176 rfl ?_
  refine .seq (.region ?_)
  refine .v rfl rfl (.box rfl) ?_
  rintro _ w2 ⟨rfl, N2⟩
  have B2 := N2.blk
  have X2 := N2.ext
  have z2 := N2.size
  refine .v rfl rfl (.alloc rfl rfl) ?_
  rintro _ w4 ⟨rfl, N4⟩
  have B4 := N4.blk
  have X4 := N4.ext
  have z4 : w4.heap.size = w2.heap.size + 1 := N4.size
  refine .p rfl rfl (.as rfl) ?_
  refine .nil (.code (.seq (.keep [(4, _), (2, _), (1, _)] ⟨rfl, rfl, rfl, trivial⟩ (.region ?_))))
  refine .p rfl rfl (.as rfl) ?_
  refine .nil (.code (.seq (.seq (.region ?_))))
  refine .p rfl rfl (.mv rfl) ?_
  refine .nil (.code (.block ?_))
  refine .loop (S := Nat × Bs × Value × World) (fun s => [(1, i64 (n : Nat)), (2, .pointer (some ⟨w.heap.size, 0, none⟩)), (4, .pointer (some ⟨w2.heap.size, 0, none⟩)), (6, s.2.2.1), (12, i64 s.1)]) (fun s => s.2.2.2) (fun s => s.1 ≤ 8 ∧ s.2.1 = (List.range s.1).flatMap (fun i => disk.readF d ((n + i : Nat) : Int)) ∧ Gr s.2.2.2 s.2.2.1 s.2.1 w4.heap.size ∧ Ext (fun _ => False) w4 s.2.2.2) (fun s => 8 - s.1) (0, [], .slice none 0 0, w4) ⟨rfl, rfl, rfl, rfl, rfl, trivial⟩ rfl ⟨Nat.zero_le _, rfl, OwnO.nil, .refl _⟩ ?_
  rintro ⟨i, acc, vi, wi⟩ J ⟨hi', ha, hO, hX⟩ again
  simp only at hi' ha hO hX
  have zi := hX.size
  have hal := slot_to hc hn hi'
  rw [← ha] at hal
  change G _ [(1, i64 (n : Nat)), (2, .pointer (some ⟨w.heap.size, 0, none⟩)), (4, .pointer (some ⟨w2.heap.size, 0, none⟩)), (6, vi), (12, i64 i)] _ _ wi
  refine .seq (.region ?_)
  refine .p rfl rfl (.lt rfl rfl) ?_
  refine .nil (.code (.seq ?_))
  refine .condD rfl (fun c13 => ?_) (fun c13 => ?_)
  · have hi : i < 8 := by omega
    have hrl := fread_length hc (n := ((n + i : Nat) : Int)) (by omega) (by omega)
    refine .skip (.code (.seq (.block (.seq (.keep [(1, _), (2, _), (4, _), (6, _), (12, _)] ⟨rfl, rfl, rfl, rfl, rfl, trivial⟩ (.region ?_))))))
    refine .p rfl rfl (.mv rfl) ?_
    refine .p rfl rfl (.as rfl) ?_
    refine .nil (.code (.seq (.keep [(7, _), (1, _), (2, _), (4, _), (6, _), (12, _)] ⟨rfl, rfl, rfl, rfl, rfl, rfl, trivial⟩ (.region ?_))))
    refine .p rfl rfl (.loadA (n := 3) rfl rfl rfl rfl rfl (B2.ext (S := fun _ => False) (by repeat (first | exact Ext.refl _ | assumption | refine Ext.trans (by assumption) ?_)) (fun x => x)).cells) ?_
    refine .p rfl rfl (.mv rfl) ?_
    refine .p rfl rfl (.mv rfl) ?_
    refine .p rfl rfl (.cast (.add rfl rfl (by omega)) (show _ = i64 ((n + i : Nat) : Int) by congr 1)) ?_
    refine .call (first := []) (captured := []) rfl rfl rfl rfl (Read0_fn (n := ((n + i : Nat) : Int)) (disk.tDisk.ext0 h0 (by repeat (first | exact Ext.refl _ | assumption | refine Ext.trans (by assumption) ?_))) (disk.asked_of hc (by omega) (by omega))) ?_
    rintro _ w20 ⟨v20, rfl, R20, X20⟩
    have z20 := X20.size
    refine .p rfl rfl (.mv rfl) ?_
    refine .p rfl rfl (.extract rfl rfl) ?_
    refine .p rfl rfl (.extract rfl rfl) ?_
    refine .p rfl rfl (.as rfl) ?_
    refine .p rfl rfl (.as rfl) ?_
    refine .nil (.code (.keep [(8, _), (1, _), (2, _), (4, _), (6, _), (12, _)] ⟨rfl, rfl, rfl, rfl, rfl, rfl, trivial⟩ (.region ?_)))
    refine .p rfl rfl (.mv rfl) ?_
    refine .p rfl rfl (.mv rfl) ?_
    refine .v rfl rfl (.appendLo (t := tByte) (eb := 1) rfl (OwnO.ext0 hO X20) (fun k hk => by show w4.heap.size ≤ k; omega) rfl (Gr.holds R20) rfl rfl rfl rfl rfl rfl rfl (by omega) (by simp only [Lim]; omega) (fun _ h _ => h.elim)) ?_
    rintro v25 w25 ⟨O25, A25⟩
    have z25 := A25.size
    refine .p rfl rfl (.as rfl) ?_
    refine .nil (.blk (.code (.keep [(6, _), (1, _), (2, _), (4, _), (12, _)] ⟨rfl, rfl, rfl, rfl, rfl, trivial⟩ (.region ?_))))
    refine .p rfl rfl (.add rfl rfl (by omega)) ?_
    refine .p rfl rfl (.mv rfl) ?_
    refine .nil ?_
    exact (again (i + 1, acc ++ disk.readF d ((n + i : Nat) : Int), v25, w25) ⟨by show i + 1 ≤ 8; omega, by show _ = _; rw [slot_step, ha], O25, (hX.trans X20).then A25 (fun k h _ => h)⟩ (by show 8 - (i + 1) < 8 - i; omega)).of ⟨rfl, rfl, rfl, rfl, rfl, trivial⟩
  · obtain rfl : i = 8 := by omega
    have ha : acc = slotB d n := by rw [ha]; unfold slotB; rfl
    subst ha
    refine .exit rfl (.code (.seq (.keep [(2, _), (4, _), (6, _)] ⟨rfl, rfl, rfl, trivial⟩ (.region ?_))))
    refine .p rfl rfl (.mv rfl) ?_
    refine .call (first := []) (captured := []) rfl rfl rfl rfl (ReadR_fn (b := slotB d n) (Gr.rep hO) (hg.ext0 (by repeat (first | exact Ext.refl _ | assumption | refine Ext.trans (by assumption) ?_)))) ?_
    rintro _ w29 ⟨v29, rfl, R29, X29⟩
    have z29 := X29.size
    obtain ⟨aF, kF, rfl, hF, hgF⟩ := tDir.val R29
    have R29 : tDir.rep (fun k => wi.heap.size ≤ k) w29 (.agg #[i64 (readD (slotB d n)).1.gen, .slice aF (readD (slotB d n)).1.fs.length kF]) (slotF d n) := by unfold slotF; exact R29
    refine .p rfl rfl (.mv rfl) ?_
    refine .p rfl rfl (.extract rfl rfl) ?_
    refine .p rfl rfl (.extract rfl rfl) ?_
    refine .v rfl rfl (.alloc rfl rfl) ?_
    rintro _ wn10 ⟨rfl, N10⟩
    refine .s rfl (.storeAll (n := 2) rfl rfl rfl rfl rfl N10.blk rfl) ?_
    intro w10 P10
    have Y10 := N10.ext.then P10.ext (by rintro k rfl _; exact Nat.le_refl _)
    have zy10 := Y10.size
    have B10 := P10.blk
    clear P10 N10
    refine .p rfl rfl (.as rfl) ?_
    refine .nil (.code (.seq (.keep [(11, _), (10, _), (2, _), (4, _)] ⟨rfl, rfl, rfl, rfl, trivial⟩ (.mix (fun k => k = w2.heap.size) [7, 8, 11] (by kernel_rfl) (by kernel_rfl) (by kernel_rfl) ?_))))
    refine .p rfl rfl rfl (fun wx hx => .loadA (n := 2) rfl rfl rfl rfl rfl (B10.ext hx (by omega)).cells) ?_
    refine .p rfl rfl rfl (fun wx hx => .mv rfl) ?_
    refine .p rfl rfl rfl (fun wx hx => .eq rfl rfl) ?_
    refine .p rfl rfl rfl (fun wx hx => .mv rfl) ?_
    refine .caseD 35 rfl (fun c35 => ?_) (fun c35 => ?_)
    · refine .p rfl rfl rfl (fun wx hx => .fieldAddr rfl rfl rfl rfl) ?_
      refine .p rfl rfl rfl (fun wx hx => .load rfl rfl rfl (((B2.ext (S := fun _ => False) (by repeat (first | exact Ext.refl _ | assumption | refine Ext.trans (by assumption) ?_)) (fun x => x)).ext hx (by omega)).cell 0)) ?_
      refine .p rfl rfl rfl (fun wx hx => .loadA (n := 2) rfl rfl rfl rfl rfl (B10.ext hx (by omega)).cells) ?_
      refine .call (first := []) (captured := []) rfl rfl rfl rfl rfl (pieces_fn (allOf (tDir.ext0 R29 (by repeat (first | exact Ext.refl _ | assumption | refine Ext.trans (by assumption) ?_)))) (slot_all c35)) (by rintro _ _ ⟨_, hx⟩; exact hx.mono (fun _ _ h => h.elim)) ?_
      rintro v39 w39 ⟨O39, X39⟩
      have z39 := X39.size
      refine .call (first := []) (captured := []) rfl rfl rfl rfl rfl (RoomCheck_fn (count := d.count) (OwnO.rep O39 (fun _ _ _ => trivial) (fun _ h _ => h.elim))) (by rintro _ _ ⟨_, hx⟩; exact (X39.trans hx).mono (fun _ _ h => h.elim)) ?_
      rintro _ w40 ⟨rfl, X40⟩
      have z40 := X40.size
      refine .p rfl rfl rfl (fun wx hx => .eq rfl rfl) ?_
      refine .p rfl rfl rfl (fun wx hx => .pickT rfl rfl) ?_
      refine .s rfl rfl (.storeAll (n := 2) rfl rfl rfl rfl rfl (B4.ext (S := fun _ => False) (by repeat (first | exact Ext.refl _ | assumption | refine Ext.trans (by assumption) ?_)) (fun x => x)) rfl) (by intro wz hP; exact Ext.trans (Ext.mono (S := fun _ => False) (by repeat (first | exact Ext.refl _ | assumption | refine Ext.trans (by assumption) ?_)) (fun _ _ h => h.elim)) hP.ext) ?_
      intro w9 P9
      have z9 := P9.ext.size
      refine .p rfl rfl rfl (fun wx hx => .as rfl) ?_
      refine .nil (.code ?_)
      refine .retR (.cell (n := 2) rfl rfl rfl rfl rfl (P9.blk.cells) (.tmp rfl .nil)) ?_
      refine ⟨_, _, rfl, ?_, tDir.mono (tDir.ext (tDir.ext0 R29 (by repeat (first | exact Ext.refl _ | assumption | refine Ext.trans (by assumption) ?_))) P9.ext (fun k hk _ e => by have hk : wi.heap.size ≤ k := hk; have e : k = w2.heap.size := e; omega)) (fun k hk _ => by have hk : wi.heap.size ≤ k := hk; show w.heap.size ≤ k; omega), Ext.then (S := fun k => k = w2.heap.size) (by repeat (first | exact Ext.refl _ | assumption | refine Ext.trans (by assumption) ?_)) P9.ext (by rintro k rfl _; omega)⟩
      rw [decide_eq_true_iff]
      exact (slotOK_iff c35).symm
    · refine .skip rfl rfl ?_
      refine .skip rfl rfl ?_
      refine .skip rfl rfl ?_
      refine .skip rfl rfl ?_
      refine .skip rfl rfl ?_
      refine .skip rfl rfl ?_
      refine .p rfl rfl rfl (fun wx hx => .pickF rfl rfl) ?_
      refine .s rfl rfl (.storeAll (n := 2) rfl rfl rfl rfl rfl (B4.ext (S := fun _ => False) (by repeat (first | exact Ext.refl _ | assumption | refine Ext.trans (by assumption) ?_)) (fun x => x)) rfl) (by intro wz hP; exact Ext.trans (Ext.mono (S := fun _ => False) (by repeat (first | exact Ext.refl _ | assumption | refine Ext.trans (by assumption) ?_)) (fun _ _ h => h.elim)) hP.ext) ?_
      intro w9 P9
      have z9 := P9.ext.size
      refine .p rfl rfl rfl (fun wx hx => .as rfl) ?_
      refine .nil (.code ?_)
      refine .retR (.cell (n := 2) rfl rfl rfl rfl rfl (P9.blk.cells) (.tmp rfl .nil)) ?_
      exact ⟨_, _, rfl, ⟨fun h => (by cases h), fun h => absurd h (slotOK_no c35)⟩, tDir.mono (tDir.ext (tDir.ext0 R29 (by repeat (first | exact Ext.refl _ | assumption | refine Ext.trans (by assumption) ?_))) P9.ext (fun k hk _ e => by have hk : wi.heap.size ≤ k := hk; have e : k = w2.heap.size := e; omega)) (fun k hk _ => by have hk : wi.heap.size ≤ k := hk; show w.heap.size ≤ k; omega), Ext.then (S := fun k => k = w2.heap.size) (by repeat (first | exact Ext.refl _ | assumption | refine Ext.trans (by assumption) ?_)) P9.ext (by rintro k rfl _; omega)⟩
theorem slot0_fn {w : World} {v : Value} {d : Disk} (h : disk.tDisk.rep All w v d) (hc : disk.checkF d = 0) (hn : ¬ d.count < 96) (hg : GOK w) : Fn Tryz.prog 176 [v, i64 0] w (fun r w2 => ∃ u t, r = .tuple #[u, .bool t] ∧ (t = true ↔ slotOK d 0) ∧ tDir.rep (fun k => w.heap.size ≤ k) w2 u (slotF d 0) ∧ Ext (fun _ => False) w w2) := slot_fn (n := 0) h hc (by omega) hg
theorem slot8_fn {w : World} {v : Value} {d : Disk} (h : disk.tDisk.rep All w v d) (hc : disk.checkF d = 0) (hn : ¬ d.count < 96) (hg : GOK w) : Fn Tryz.prog 176 [v, i64 8] w (fun r w2 => ∃ u t, r = .tuple #[u, .bool t] ∧ (t = true ↔ slotOK d 8) ∧ tDir.rep (fun k => w.heap.size ≤ k) w2 u (slotF d 8) ∧ Ext (fun _ => False) w w2) := slot_fn (n := 8) h hc (by omega) hg
theorem nodir_rep {P : Nat → Prop} {w : World} : tDir.rep P w (.agg #[i64 0, .slice none 0 0]) nodir := tDir.mk (x := nodir) Sl.nil ⟨by show (-9223372036854775808 : Int) ≤ 0; decide, by show (0 : Int) ≤ _; decide⟩
theorem mount_fn {w : World} {v : Value} {d : Disk} (h : disk.tDisk.rep All w v d) (hg : GOK w) : Fn Tryz.prog 124 [v] w (fun r w2 => ∃ u, r = .tuple #[u, i64 ((mountF d).2.1 : Nat), i64 (mountF d).2.2] ∧ tDir.rep (fun k => w.heap.size ≤ k) w2 u (mountF d).1 ∧ Ext (fun _ => False) w w2) := by
  have h0 := h
  obtain ⟨u, u', rfl, hd1, hd2, hdc⟩ := disk.tDisk.val h
  obtain ⟨a1, k1, rfl, _⟩ := Sl.val hd1
  obtain ⟨a2, k2, rfl, _⟩ := Sl.val hd2
  refine Fn.enter (fun w => Tryz.call124 _ w) Tryz.func124 rfl ?_
  refine .seq (.region ?_)
  refine .v rfl rfl (.box rfl) ?_
  rintro _ w1 ⟨rfl, N1⟩
  have B1 := N1.blk
  have X1 := N1.ext
  have z1 := N1.size
  refine .v rfl rfl (.alloc rfl rfl) ?_
  rintro _ w2 ⟨rfl, N2⟩
  have B2 := N2.blk
  have X2 := N2.ext
  have z2 : w2.heap.size = w1.heap.size + 1 := N2.size
  refine .p rfl rfl (.as rfl) ?_
  refine .p rfl rfl (.as rfl) ?_
  refine .nil (.code (.seq (.seq (.keep [(2, _), (1, _)] ⟨rfl, rfl, trivial⟩ (.region ?_)))))
  refine .p rfl rfl (.loadA (n := 3) rfl rfl rfl rfl rfl (B1.ext (S := fun _ => False) (by repeat (first | exact Ext.refl _ | assumption | refine Ext.trans (by assumption) ?_)) (fun x => x)).cells) ?_
  refine .call (first := []) (captured := []) rfl rfl rfl rfl (Check_fn (disk.tDisk.ext0 h0 (by repeat (first | exact Ext.refl _ | assumption | refine Ext.trans (by assumption) ?_)))) ?_
  rintro _ w11 ⟨rfl, X11⟩
  have z11 := X11.size
  refine .p rfl rfl (.as rfl) ?_
  refine .nil (.code (.seq (.keep [(5, _), (2, _), (1, _)] ⟨rfl, rfl, rfl, trivial⟩ (.region ?_))))
  refine .p rfl rfl (.mv rfl) ?_
  refine .p rfl rfl (.ne rfl rfl) ?_
  refine .nil (.code (.keep [(13, _), (5, _), (2, _), (1, _)] ⟨rfl, rfl, rfl, rfl, trivial⟩ ?_))
  refine .condD rfl (fun c13 => ?_) (fun c13 => ?_)
  · refine .seq (.keep [(5, _), (2, _)] ⟨rfl, rfl, trivial⟩ (.region ?_))
    refine .p rfl rfl (.build (cs := [i64 0, .slice none 0 0]) rfl (fun _ => by kernel_rfl)) ?_
    refine .p rfl rfl (.mv rfl) ?_
    refine .s rfl (.storeAll (n := 2) rfl rfl rfl rfl rfl (B2.ext (S := fun _ => False) (by repeat (first | exact Ext.refl _ | assumption | refine Ext.trans (by assumption) ?_)) (fun x => x)) rfl) ?_
    intro w3 P3
    refine .p rfl rfl (.as rfl) ?_
    refine .p rfl rfl (.as rfl) ?_
    refine .nil (.code ?_)
    refine .retR (.cell (n := 2) rfl rfl rfl rfl rfl (P3.blk.cells) (.tmp rfl (.tmp rfl .nil))) ?_
    rw [mountF_e c13]
    exact ⟨_, rfl, nodir_rep, (Ext.then (S := fun k => k = w1.heap.size) (by repeat (first | exact Ext.refl _ | assumption | refine Ext.trans (by assumption) ?_)) P3.ext (by rintro k rfl _; omega))⟩
  · have hck : disk.checkF d = 0 := Decidable.not_not.1 c13
    refine .skip (.code (.seq (.seq (.keep [(2, _), (1, _)] ⟨rfl, rfl, trivial⟩ (.region ?_)))))
    refine .p rfl rfl (.fieldAddr rfl rfl rfl rfl) ?_
    refine .p rfl rfl (.load rfl rfl rfl ((B1.ext (S := fun _ => False) (by repeat (first | exact Ext.refl _ | assumption | refine Ext.trans (by assumption) ?_)) (fun x => x)).cell 0)) ?_
    refine .p rfl rfl (.lt rfl rfl) ?_
    refine .nil (.code (.keep [(18, _), (2, _), (1, _)] ⟨rfl, rfl, rfl, trivial⟩ ?_))
    refine .condD rfl (fun c18 => ?_) (fun c18 => ?_)
    · refine .seq (.keep [(2, _)] ⟨rfl, trivial⟩ (.region ?_))
      refine .p rfl rfl (.build (cs := [i64 0, .slice none 0 0]) rfl (fun _ => by kernel_rfl)) ?_
      refine .s rfl (.storeAll (n := 2) rfl rfl rfl rfl rfl (B2.ext (S := fun _ => False) (by repeat (first | exact Ext.refl _ | assumption | refine Ext.trans (by assumption) ?_)) (fun x => x)) rfl) ?_
      intro w5 P5
      refine .p rfl rfl (.as rfl) ?_
      refine .p rfl rfl (.as rfl) ?_
      refine .nil (.code ?_)
      refine .retR (.cell (n := 2) rfl rfl rfl rfl rfl (P5.blk.cells) (.tmp rfl (.tmp rfl .nil))) ?_
      rw [mountF_96 hck c18]
      exact ⟨_, rfl, nodir_rep, (Ext.then (S := fun k => k = w1.heap.size) (by repeat (first | exact Ext.refl _ | assumption | refine Ext.trans (by assumption) ?_)) P5.ext (by rintro k rfl _; omega))⟩
    · refine .skip (.code (.seq (.keep [(2, _), (1, _)] ⟨rfl, rfl, trivial⟩ (.region ?_))))
      refine .p rfl rfl (.loadA (n := 3) rfl rfl rfl rfl rfl (B1.ext (S := fun _ => False) (by repeat (first | exact Ext.refl _ | assumption | refine Ext.trans (by assumption) ?_)) (fun x => x)).cells) ?_
      refine .call (first := []) (captured := []) rfl rfl rfl rfl (slot0_fn (disk.tDisk.ext0 h0 (by repeat (first | exact Ext.refl _ | assumption | refine Ext.trans (by assumption) ?_))) hck c18 (hg.ext0 (by repeat (first | exact Ext.refl _ | assumption | refine Ext.trans (by assumption) ?_)))) ?_
      rintro _ w22 ⟨u22, t22, rfl, ht22, R22, X22⟩
      have z22 := X22.size
      obtain ⟨a6, k6, rfl, hf6, hg6⟩ := tDir.val R22
      refine .p rfl rfl (.mv rfl) ?_
      refine .p rfl rfl (.extract rfl rfl) ?_
      refine .p rfl rfl (.extract rfl rfl) ?_
      refine .v rfl rfl (.alloc rfl rfl) ?_
      rintro _ wn6 ⟨rfl, N6⟩
      refine .s rfl (.storeAll (n := 2) rfl rfl rfl rfl rfl N6.blk rfl) ?_
      intro w6 P6
      have Y6 := N6.ext.then P6.ext (by rintro k rfl _; exact Nat.le_refl _)
      have zy6 := Y6.size
      have B6 := P6.blk
      clear P6 N6
      refine .p rfl rfl (.as rfl) ?_
      refine .nil (.code (.seq (.keep [(7, _), (6, _), (2, _), (1, _)] ⟨rfl, rfl, rfl, rfl, trivial⟩ (.region ?_))))
      refine .p rfl rfl (.loadA (n := 3) rfl rfl rfl rfl rfl (B1.ext (S := fun _ => False) (by repeat (first | exact Ext.refl _ | assumption | refine Ext.trans (by assumption) ?_)) (fun x => x)).cells) ?_
      refine .call (first := []) (captured := []) rfl rfl rfl rfl (slot8_fn (disk.tDisk.ext0 h0 (by repeat (first | exact Ext.refl _ | assumption | refine Ext.trans (by assumption) ?_))) hck c18 (hg.ext0 (by repeat (first | exact Ext.refl _ | assumption | refine Ext.trans (by assumption) ?_)))) ?_
      rintro _ w27 ⟨u27, t27, rfl, ht27, R27, X27⟩
      have z27 := X27.size
      obtain ⟨a8, k8, rfl, hf8, hg8⟩ := tDir.val R27
      refine .p rfl rfl (.mv rfl) ?_
      refine .p rfl rfl (.extract rfl rfl) ?_
      refine .p rfl rfl (.extract rfl rfl) ?_
      refine .v rfl rfl (.alloc rfl rfl) ?_
      rintro _ wn8 ⟨rfl, N8⟩
      refine .s rfl (.storeAll (n := 2) rfl rfl rfl rfl rfl N8.blk rfl) ?_
      intro w8 P8
      have Y8 := N8.ext.then P8.ext (by rintro k rfl _; exact Nat.le_refl _)
      have zy8 := Y8.size
      have B8 := P8.blk
      clear P8 N8
      refine .p rfl rfl (.as rfl) ?_
      refine .nil (.code (.seq (.block (.seq (.keep [(9, _), (8, _), (7, _), (6, _), (2, _)] ⟨rfl, rfl, rfl, rfl, rfl, trivial⟩ (.region ?_))))))
      refine .p rfl rfl (.mv rfl) ?_
      refine .p rfl rfl (.mv rfl) ?_
      refine .case 32 rfl (fun c32 => ?_) (fun c32 => ?_)
      · refine .p rfl rfl (.mv rfl) ?_
        refine .p rfl rfl (.mv rfl) ?_
        refine .case 34 rfl (fun c34 => ?_) (fun c34 => ?_)
        · refine .p rfl rfl (.fieldAddr rfl rfl rfl rfl) ?_
          refine .p rfl rfl (.load rfl rfl rfl ((B8.ext (S := fun _ => False) (by repeat (first | exact Ext.refl _ | assumption | refine Ext.trans (by assumption) ?_)) (fun x => x)).cell 0)) ?_
          refine .p rfl rfl (.fieldAddr rfl rfl rfl rfl) ?_
          refine .p rfl rfl (.load rfl rfl rfl ((B6.ext (S := fun _ => False) (by repeat (first | exact Ext.refl _ | assumption | refine Ext.trans (by assumption) ?_)) (fun x => x)).cell 0)) ?_
          refine .p rfl rfl (.gt rfl rfl) ?_
          refine .p rfl rfl (.pickT rfl rfl) ?_
          refine .p rfl rfl (.notD rfl) ?_
          refine .p rfl rfl (.pickT rfl rfl) ?_
          refine .p rfl rfl (.as rfl) ?_
          refine .nil (.code (.keep [(30, _), (9, _), (8, _), (6, _), (2, _)] ⟨rfl, rfl, rfl, rfl, rfl, trivial⟩ ?_))
          refine .condD rfl (fun c30 => ?_) (fun c30 => ?_)
          · refine .seq (.keep [(6, _), (2, _)] ⟨rfl, rfl, trivial⟩ (.region ?_))
            refine .p rfl rfl (.loadA (n := 2) rfl rfl rfl rfl rfl (B6.ext (S := fun _ => False) (by repeat (first | exact Ext.refl _ | assumption | refine Ext.trans (by assumption) ?_)) (fun x => x)).cells) ?_
            refine .s rfl (.storeAll (n := 2) rfl rfl rfl rfl rfl (B2.ext (S := fun _ => False) (by repeat (first | exact Ext.refl _ | assumption | refine Ext.trans (by assumption) ?_)) (fun x => x)) rfl) ?_
            intro w9 P9
            refine .p rfl rfl (.as rfl) ?_
            refine .p rfl rfl (.as rfl) ?_
            refine .nil (.code ?_)
            refine .retR (.cell (n := 2) rfl rfl rfl rfl rfl (P9.blk.cells) (.tmp rfl (.tmp rfl .nil))) ?_
            rw [mountF_0 hck c18 (ht22.1 c32) (fun h => c30 h.2)]
            exact ⟨_, rfl, tDir.mono (tDir.ext (tDir.ext0 R22 (by repeat (first | exact Ext.refl _ | assumption | refine Ext.trans (by assumption) ?_))) P9.ext (fun k hk _ e => by have hk : w11.heap.size ≤ k := hk; have e : k = w1.heap.size := e; omega)) (fun k hk _ => by have hk : w11.heap.size ≤ k := hk; show w.heap.size ≤ k; omega), (Ext.then (S := fun k => k = w1.heap.size) (by repeat (first | exact Ext.refl _ | assumption | refine Ext.trans (by assumption) ?_)) P9.ext (by rintro k rfl _; omega))⟩
          · refine .seq (.keep [(9, _), (8, _), (2, _)] ⟨rfl, rfl, rfl, trivial⟩ (.region ?_))
            refine .p rfl rfl (.mv rfl) ?_
            refine .p rfl rfl (.as rfl) ?_
            refine .nil (.code (.keep [(44, _), (8, _), (2, _)] ⟨rfl, rfl, rfl, trivial⟩ ?_))
            refine .cond rfl (fun c44 => ?_) (fun c44 => ?_)
            · refine .seq (.keep [(8, _), (2, _)] ⟨rfl, rfl, trivial⟩ (.region ?_))
              refine .p rfl rfl (.loadA (n := 2) rfl rfl rfl rfl rfl (B8.ext (S := fun _ => False) (by repeat (first | exact Ext.refl _ | assumption | refine Ext.trans (by assumption) ?_)) (fun x => x)).cells) ?_
              refine .s rfl (.storeAll (n := 2) rfl rfl rfl rfl rfl (B2.ext (S := fun _ => False) (by repeat (first | exact Ext.refl _ | assumption | refine Ext.trans (by assumption) ?_)) (fun x => x)) rfl) ?_
              intro w9 P9
              refine .p rfl rfl (.as rfl) ?_
              refine .p rfl rfl (.as rfl) ?_
              refine .nil (.code ?_)
              refine .retR (.cell (n := 2) rfl rfl rfl rfl rfl (P9.blk.cells) (.tmp rfl (.tmp rfl .nil))) ?_
              rw [mountF_8 hck c18 (fun h => h.2 ⟨ht27.1 c34, Decidable.not_not.1 c30⟩) (ht27.1 c34)]
              exact ⟨_, rfl, tDir.mono (tDir.ext (tDir.ext0 R27 (by repeat (first | exact Ext.refl _ | assumption | refine Ext.trans (by assumption) ?_))) P9.ext (fun k hk _ e => by have hk : w6.heap.size ≤ k := hk; have e : k = w1.heap.size := e; omega)) (fun k hk _ => by have hk : w6.heap.size ≤ k := hk; show w.heap.size ≤ k; omega), (Ext.then (S := fun k => k = w1.heap.size) (by repeat (first | exact Ext.refl _ | assumption | refine Ext.trans (by assumption) ?_)) P9.ext (by rintro k rfl _; omega))⟩
            · refine .skip (.blk (.code (.seq (.keep [(2, _)] ⟨rfl, trivial⟩ (.region ?_)))))
              refine .p rfl rfl (.build (cs := [i64 0, .slice none 0 0]) rfl (fun _ => by kernel_rfl)) ?_
              refine .s rfl (.storeAll (n := 2) rfl rfl rfl rfl rfl (B2.ext (S := fun _ => False) (by repeat (first | exact Ext.refl _ | assumption | refine Ext.trans (by assumption) ?_)) (fun x => x)) rfl) ?_
              intro w9 P9
              refine .p rfl rfl (.as rfl) ?_
              refine .p rfl rfl (.as rfl) ?_
              refine .nil (.code ?_)
              refine .retR (.cell (n := 2) rfl rfl rfl rfl rfl (P9.blk.cells) (.tmp rfl (.tmp rfl .nil))) ?_
              rw [c34] at c44; cases c44
        · refine .skip rfl rfl ?_
          refine .skip rfl rfl ?_
          refine .skip rfl rfl ?_
          refine .skip rfl rfl ?_
          refine .skip rfl rfl ?_
          refine .p rfl rfl (.pickF rfl rfl) ?_
          refine .p rfl rfl (.not rfl) ?_
          refine .p rfl rfl (.pickT rfl rfl) ?_
          refine .p rfl rfl (.as rfl) ?_
          refine .nil (.code (.keep [(30, _), (9, _), (8, _), (6, _), (2, _)] ⟨rfl, rfl, rfl, rfl, rfl, trivial⟩ (.condT rfl (.seq (.keep [(6, _), (2, _)] ⟨rfl, rfl, trivial⟩ (.region ?_))))))
          refine .p rfl rfl (.loadA (n := 2) rfl rfl rfl rfl rfl (B6.ext (S := fun _ => False) (by repeat (first | exact Ext.refl _ | assumption | refine Ext.trans (by assumption) ?_)) (fun x => x)).cells) ?_
          refine .s rfl (.storeAll (n := 2) rfl rfl rfl rfl rfl (B2.ext (S := fun _ => False) (by repeat (first | exact Ext.refl _ | assumption | refine Ext.trans (by assumption) ?_)) (fun x => x)) rfl) ?_
          intro w9 P9
          refine .p rfl rfl (.as rfl) ?_
          refine .p rfl rfl (.as rfl) ?_
          refine .nil (.code ?_)
          refine .retR (.cell (n := 2) rfl rfl rfl rfl rfl (P9.blk.cells) (.tmp rfl (.tmp rfl .nil))) ?_
          rw [mountF_0 hck c18 (ht22.1 c32) (fun h => (fun h => by have h := ht27.2 h; rw [c34] at h; cases h) h.1)]
          exact ⟨_, rfl, tDir.mono (tDir.ext (tDir.ext0 R22 (by repeat (first | exact Ext.refl _ | assumption | refine Ext.trans (by assumption) ?_))) P9.ext (fun k hk _ e => by have hk : w11.heap.size ≤ k := hk; have e : k = w1.heap.size := e; omega)) (fun k hk _ => by have hk : w11.heap.size ≤ k := hk; show w.heap.size ≤ k; omega), (Ext.then (S := fun k => k = w1.heap.size) (by repeat (first | exact Ext.refl _ | assumption | refine Ext.trans (by assumption) ?_)) P9.ext (by rintro k rfl _; omega))⟩
      · refine .skip rfl rfl ?_
        refine .skip rfl rfl ?_
        refine .skip rfl rfl ?_
        refine .skip rfl rfl ?_
        refine .skip rfl rfl ?_
        refine .skip rfl rfl ?_
        refine .skip rfl rfl ?_
        refine .skip rfl rfl ?_
        refine .skip rfl rfl ?_
        refine .p rfl rfl (.pickF rfl rfl) ?_
        refine .p rfl rfl (.as rfl) ?_
        refine .nil (.code (.keep [(30, _), (9, _), (8, _), (6, _), (2, _)] ⟨rfl, rfl, rfl, rfl, rfl, trivial⟩ (.condF rfl (.seq (.keep [(9, _), (8, _), (2, _)] ⟨rfl, rfl, rfl, trivial⟩ (.region ?_))))))
        refine .p rfl rfl (.mv rfl) ?_
        refine .p rfl rfl (.as rfl) ?_
        refine .nil (.code (.keep [(44, _), (8, _), (2, _)] ⟨rfl, rfl, rfl, trivial⟩ ?_))
        refine .cond rfl (fun c44 => ?_) (fun c44 => ?_)
        · refine .seq (.keep [(8, _), (2, _)] ⟨rfl, rfl, trivial⟩ (.region ?_))
          refine .p rfl rfl (.loadA (n := 2) rfl rfl rfl rfl rfl (B8.ext (S := fun _ => False) (by repeat (first | exact Ext.refl _ | assumption | refine Ext.trans (by assumption) ?_)) (fun x => x)).cells) ?_
          refine .s rfl (.storeAll (n := 2) rfl rfl rfl rfl rfl (B2.ext (S := fun _ => False) (by repeat (first | exact Ext.refl _ | assumption | refine Ext.trans (by assumption) ?_)) (fun x => x)) rfl) ?_
          intro w9 P9
          refine .p rfl rfl (.as rfl) ?_
          refine .p rfl rfl (.as rfl) ?_
          refine .nil (.code ?_)
          refine .retR (.cell (n := 2) rfl rfl rfl rfl rfl (P9.blk.cells) (.tmp rfl (.tmp rfl .nil))) ?_
          rw [mountF_8 hck c18 (fun h => (fun h => by have h := ht22.2 h; rw [c32] at h; cases h) h.1) (ht27.1 c44)]
          exact ⟨_, rfl, tDir.mono (tDir.ext (tDir.ext0 R27 (by repeat (first | exact Ext.refl _ | assumption | refine Ext.trans (by assumption) ?_))) P9.ext (fun k hk _ e => by have hk : w6.heap.size ≤ k := hk; have e : k = w1.heap.size := e; omega)) (fun k hk _ => by have hk : w6.heap.size ≤ k := hk; show w.heap.size ≤ k; omega), (Ext.then (S := fun k => k = w1.heap.size) (by repeat (first | exact Ext.refl _ | assumption | refine Ext.trans (by assumption) ?_)) P9.ext (by rintro k rfl _; omega))⟩
        · refine .skip (.blk (.code (.seq (.keep [(2, _)] ⟨rfl, trivial⟩ (.region ?_)))))
          refine .p rfl rfl (.build (cs := [i64 0, .slice none 0 0]) rfl (fun _ => by kernel_rfl)) ?_
          refine .s rfl (.storeAll (n := 2) rfl rfl rfl rfl rfl (B2.ext (S := fun _ => False) (by repeat (first | exact Ext.refl _ | assumption | refine Ext.trans (by assumption) ?_)) (fun x => x)) rfl) ?_
          intro w9 P9
          refine .p rfl rfl (.as rfl) ?_
          refine .p rfl rfl (.as rfl) ?_
          refine .nil (.code ?_)
          refine .retR (.cell (n := 2) rfl rfl rfl rfl rfl (P9.blk.cells) (.tmp rfl (.tmp rfl .nil))) ?_
          rw [mountF_40 hck c18 (fun h => by have h := ht22.2 h; rw [c32] at h; cases h) (fun h => by have h := ht27.2 h; rw [c44] at h; cases h)]
          exact ⟨_, rfl, nodir_rep, (Ext.then (S := fun k => k = w1.heap.size) (by repeat (first | exact Ext.refl _ | assumption | refine Ext.trans (by assumption) ?_)) P9.ext (by rintro k rfl _; omega))⟩
theorem Mount_fn {w : World} {v : Value} {d : Disk} (h : disk.tDisk.rep All w v d) (hg : GOK w) : Fn Tryz.prog 93 [v] w (fun r w2 => ∃ u, r = .tuple #[u, i64 (mountF d).2.2] ∧ tDir.rep (fun k => w.heap.size ≤ k) w2 u (mountF d).1 ∧ Ext (fun _ => False) w w2) := by
  have h0 := h
  obtain ⟨u, u', rfl, hd1, hd2, hdc⟩ := disk.tDisk.val h
  obtain ⟨a1, k1, rfl, _⟩ := Sl.val hd1
  obtain ⟨a2, k2, rfl, _⟩ := Sl.val hd2
  refine Fn.enter (fun w => Tryz.call93 _ w) Tryz.func93 rfl ?_
  refine .seq (.region ?_)
  refine .v rfl rfl (.box rfl) ?_
  rintro _ w1 ⟨rfl, N1⟩
  have B1 := N1.blk
  have X1 := N1.ext
  have z1 := N1.size
  refine .v rfl rfl (.alloc rfl rfl) ?_
  rintro _ w2 ⟨rfl, N2⟩
  have B2 := N2.blk
  have X2 := N2.ext
  have z2 : w2.heap.size = w1.heap.size + 1 := N2.size
  refine .p rfl rfl (.as rfl) ?_
  refine .nil (.code (.seq (.keep [(2, _), (1, _)] ⟨rfl, rfl, trivial⟩ (.region ?_))))
  refine .p rfl rfl (.loadA (n := 3) rfl rfl rfl rfl rfl (B1.ext (S := fun _ => False) (by repeat (first | exact Ext.refl _ | assumption | refine Ext.trans (by assumption) ?_)) (fun x => x)).cells) ?_
  refine .call (first := []) (captured := []) rfl rfl rfl rfl (mount_fn (disk.tDisk.ext0 h0 (by repeat (first | exact Ext.refl _ | assumption | refine Ext.trans (by assumption) ?_))) (hg.ext0 (by repeat (first | exact Ext.refl _ | assumption | refine Ext.trans (by assumption) ?_)))) ?_
  rintro _ w9 ⟨u9, rfl, R9, X9⟩
  have z9 := X9.size
  obtain ⟨a4, k4, rfl, hf4, hg4⟩ := tDir.val R9
  refine .p rfl rfl (.mv rfl) ?_
  refine .p rfl rfl (.extract rfl rfl) ?_
  refine .p rfl rfl (.extract rfl rfl) ?_
  refine .p rfl rfl (.extract rfl rfl) ?_
  refine .v rfl rfl (.alloc rfl rfl) ?_
  rintro _ wn4 ⟨rfl, N4⟩
  refine .s rfl (.storeAll (n := 2) rfl rfl rfl rfl rfl N4.blk rfl) ?_
  intro w4 P4
  have Y4 := N4.ext.then P4.ext (by rintro k rfl _; exact Nat.le_refl _)
  have zy4 := Y4.size
  have B4 := P4.blk
  clear P4 N4
  refine .p rfl rfl (.as rfl) ?_
  refine .p rfl rfl (.as rfl) ?_
  refine .nil (.code (.seq (.keep [(6, _), (4, _), (2, _)] ⟨rfl, rfl, rfl, trivial⟩ (.region ?_))))
  refine .p rfl rfl (.loadA (n := 2) rfl rfl rfl rfl rfl (B4.ext (S := fun _ => False) (by repeat (first | exact Ext.refl _ | assumption | refine Ext.trans (by assumption) ?_)) (fun x => x)).cells) ?_
  refine .p rfl rfl (.mv rfl) ?_
  refine .s rfl (.storeAll (n := 2) rfl rfl rfl rfl rfl (B2.ext (S := fun _ => False) (by repeat (first | exact Ext.refl _ | assumption | refine Ext.trans (by assumption) ?_)) (fun x => x)) rfl) ?_
  intro w5 P5
  refine .p rfl rfl (.as rfl) ?_
  refine .nil (.code ?_)
  refine .retR (.cell (n := 2) rfl rfl rfl rfl rfl (P5.blk.cells) (.tmp rfl .nil)) ?_
  exact ⟨_, rfl, tDir.mono (tDir.ext (tDir.ext0 R9 (by repeat (first | exact Ext.refl _ | assumption | refine Ext.trans (by assumption) ?_))) P5.ext (fun k hk _ e => by have hk : w2.heap.size ≤ k := hk; have e : k = w1.heap.size := e; omega)) (fun k hk _ => by have hk : w2.heap.size ≤ k := hk; show w.heap.size ≤ k; omega), (Ext.then (S := fun k => k = w1.heap.size) (by repeat (first | exact Ext.refl _ | assumption | refine Ext.trans (by assumption) ?_)) P5.ext (by rintro k rfl _; omega))⟩
end Go.Proofs.YthliepcjfnjnoaaGreatDoor
namespace Go.Proofs.YthliepcjfnjnoaaGreatDoor
open Go
open room files
namespace files
theorem mount_32 (d : Disk) : (mountF d).1.fs.length ≤ 32 := by
  by_cases h : (mountF d).2.2 = 0
  · exact (mount_may h).2.2.1
  · rw [(mountF_bad h).1]; exact Nat.zero_le _
theorem write_1 : (writeF ⟨1, []⟩).2 = 0 ∧ (writeF ⟨1, []⟩).1.length = 1024 := by
  have hc : checkD ⟨1, []⟩ = 0 := by
    refine checkD_0 (by simp) ⟨⟨by decide, by decide⟩, by decide, (fun p hp => by cases hp), (fun i h => absurd h (Nat.not_lt_zero _))⟩
  have hb : ¬ 952 < (bodyD []).length := by decide
  rw [writeF_0 hc hb]
  refine ⟨rfl, ?_⟩
  exact slotsD_length (by rw [List.length_append, List.length_replicate]; exact Nat.add_sub_cancel' (Nat.le_of_not_lt hb))
theorem formatF_20 {n : Int} (h : n < 96 ∨ 4096 < n) : formatF n = (disk.nodisk, 20) := by unfold formatF; rw [if_pos h]
theorem formatF_0 {n : Int} (h : ¬ (n < 96 ∨ 4096 < n)) : formatF n = (⟨n, (writeF ⟨1, []⟩).1 ++ List.replicate (n.toNat * 128 - 1024) 0, []⟩, 0) := by unfold formatF; rw [if_neg h]
end files
attribute [local irreducible] readD slotB slotF mountF slotOK checkR disk.readF findTo findF writeF nameF sectE bytesF
theorem Names_fn {w : World} {v : Value} {d : Disk} (h : disk.tDisk.rep All w v d) (hg : GOK w) : Fn Tryz.prog 61 [v] w (fun r w2 => ∃ v', r = .tuple #[v', i64 (namesF d).2] ∧ OwnO tStr (fun _ => False) 9 w2 v' (namesF d).1 (fun k => w.heap.size ≤ k) ∧ Ext (fun _ => False) w w2) := by
  have h0 := h
  obtain ⟨u, u', rfl, hd1, hd2, hdc⟩ := disk.tDisk.val h
  obtain ⟨a1, k1, rfl, _⟩ := Sl.val hd1
  obtain ⟨a2, k2, rfl, _⟩ := Sl.val hd2
  refine Fn.enter (fun w => Tryz.call61 _ w) Tryz.func61 rfl ?_
  refine .seq (.region ?_)
  refine .v rfl rfl (.box rfl) ?_
  rintro _ w1 ⟨rfl, N1⟩
  have B1 := N1.blk
  have X1 := N1.ext
  have z1 := N1.size
  refine .p rfl rfl (.as rfl) ?_
  refine .p rfl rfl (.as rfl) ?_
  refine .nil (.code (.seq (.keep [(1, _)] ⟨rfl, trivial⟩ (.region ?_))))
  refine .p rfl rfl (.loadA (n := 3) rfl rfl rfl rfl rfl (B1.ext (S := fun _ => False) (by repeat (first | exact Ext.refl _ | assumption | refine Ext.trans (by assumption) ?_)) (fun x => x)).cells) ?_
  refine .call (first := []) (captured := []) rfl rfl rfl rfl (Mount_fn (disk.tDisk.ext0 h0 (by repeat (first | exact Ext.refl _ | assumption | refine Ext.trans (by assumption) ?_))) (hg.ext0 (by repeat (first | exact Ext.refl _ | assumption | refine Ext.trans (by assumption) ?_)))) ?_
  rintro _ w11 ⟨u11, rfl, R11, X11⟩
  have z11 := X11.size
  obtain ⟨af, kf, rfl, hf, hgen⟩ := tDir.val R11
  refine .p rfl rfl (.mv rfl) ?_
  refine .p rfl rfl (.extract rfl rfl) ?_
  refine .p rfl rfl (.extract rfl rfl) ?_
  refine .v rfl rfl (.alloc rfl rfl) ?_
  rintro _ wn4 ⟨rfl, N4⟩
  refine .s rfl (.storeAll (n := 2) rfl rfl rfl rfl rfl N4.blk rfl) ?_
  intro w4 P4
  have Y4 := N4.ext.then P4.ext (by rintro k rfl _; exact Nat.le_refl _)
  have zy4 := Y4.size
  have B4 := P4.blk
  clear P4 N4
  refine .p rfl rfl (.as rfl) ?_
  refine .nil (.code (.seq (.keep [(5, _), (4, _)] ⟨rfl, rfl, trivial⟩ (.region ?_))))
  refine .p rfl rfl (.as rfl) ?_
  refine .nil (.code (.seq (.seq (.region ?_))))
  refine .p rfl rfl (.fieldAddr rfl rfl rfl rfl) ?_
  refine .p rfl rfl (.load rfl rfl rfl ((B4.ext (S := fun _ => False) (by repeat (first | exact Ext.refl _ | assumption | refine Ext.trans (by assumption) ?_)) (fun x => x)).cell 1)) ?_
  refine .p rfl rfl (.len rfl rfl) ?_
  refine .p rfl rfl (.mv rfl) ?_
  refine .nil (.code (.block (.keep [(17, _), (16, _), (15, _), (6, _), (5, _)] ⟨rfl, rfl, rfl, rfl, rfl, trivial⟩ ?_)))
  refine .loop (S := Nat × List Bs × Value × World) (fun s => [(5, i64 (mountF d).2.2), (6, s.2.2.1), (15, .slice af (mountF d).1.fs.length kf), (16, i64 (mountF d).1.fs.length), (17, i64 s.1)]) (fun s => s.2.2.2) (fun s => s.1 ≤ (mountF d).1.fs.length ∧ s.2.1 = ((mountF d).1.fs.take s.1).map (·.name) ∧ OwnO tStr (fun _ => False) 9 s.2.2.2 s.2.2.1 s.2.1 (fun k => w4.heap.size ≤ k) ∧ Ext (fun _ => False) w4 s.2.2.2) (fun s => (mountF d).1.fs.length - s.1) (0, [], .slice none 0 0, w4) ⟨rfl, rfl, rfl, rfl, rfl, trivial⟩ rfl ⟨Nat.zero_le _, rfl, OwnO.nil, .refl _⟩ ?_
  rintro ⟨i, acc, vi, wi⟩ J ⟨hi', ha, hO, hX⟩ again
  simp only at hi' ha hO hX
  have zi := hX.size
  have hal : acc.length = i := by rw [ha, List.length_map, List.length_take]; omega
  change G _ [(5, i64 (mountF d).2.2), (6, vi), (15, .slice af (mountF d).1.fs.length kf), (16, i64 (mountF d).1.fs.length), (17, i64 i)] _ _ wi
  refine .seq (.region ?_)
  refine .p rfl rfl (.lt rfl rfl) ?_
  refine .nil (.code (.seq ?_))
  refine .condD rfl (fun c18 => ?_) (fun c18 => ?_)
  · have hi : i < (mountF d).1.fs.length := by omega
    obtain ⟨b1, o1, q1, ue1, e1, _, hcs, hre⟩ := Sl.at hf (List.getElem?_eq_getElem hi)
    cases e1
    obtain ⟨fa1, fc1, rfl, hps, hnm1, hsz1⟩ := tFile.val hre
    have hlim := mount_32 d
    refine .skip (.code (.seq (.block (.seq (.keep [(5, _), (6, _), (15, _), (16, _), (17, _)] ⟨rfl, rfl, rfl, rfl, rfl, trivial⟩ (.region ?_))))))
    refine .p rfl rfl (.indexAddr (s := 3) rfl rfl rfl rfl (by omega)) ?_
    refine .p rfl rfl (.loadA (n := 3) rfl rfl rfl rfl rfl (hcs.ext (S := fun _ => False) (by repeat (first | exact Ext.refl _ | assumption | refine Ext.trans (by assumption) ?_)) (fun x => x))) ?_
    refine .v rfl rfl (.alloc rfl rfl) ?_
    rintro _ wn8 ⟨rfl, N8⟩
    refine .s rfl (.storeAll (n := 3) rfl rfl rfl rfl rfl N8.blk rfl) ?_
    intro w8 P8
    have Y8 := N8.ext.then P8.ext (by rintro k rfl _; exact Nat.le_refl _)
    have zy8 := Y8.size
    have B8 := P8.blk
    clear P8 N8
    refine .nil (.code (.keep [(8, _), (5, _), (6, _), (15, _), (16, _), (17, _)] ⟨rfl, rfl, rfl, rfl, rfl, rfl, trivial⟩ (.region ?_)))
    refine .p rfl rfl (.mv rfl) ?_
    refine .p rfl rfl (.fieldAddr rfl rfl rfl rfl) ?_
    refine .p rfl rfl (.load rfl rfl rfl (B8.cell 0)) ?_
    refine .v rfl rfl (.lits rfl rfl (fun _ => by kernel_rfl)) ?_
    rintro _ w24 ⟨rfl, N24⟩
    have z24 := N24.size
    have X24 := N24.ext
    refine .v rfl rfl (.appendLo (t := tStr) (xs := acc) (ys := [(mountF d).1.fs[i].name]) (eb := 16) rfl (OwnO.ext0 hO (by repeat (first | exact Ext.refl _ | assumption | refine Ext.trans (by assumption) ?_))) (fun k hk => by show w4.heap.size ≤ k; omega) rfl (.inr (New.holds (t := tStr) (us := [_]) (xs := [(mountF d).1.fs[i].name]) N24 (.cons ⟨rfl, hnm1⟩ .nil) rfl)) rfl rfl rfl rfl rfl rfl rfl (by simp; omega) (by simp [Lim]; omega) (fun _ h _ => h.elim)) ?_
    rintro v25 w25 ⟨O25, A25⟩
    have z25 := A25.size
    refine .p rfl rfl (.as rfl) ?_
    refine .nil (.blk (.code (.keep [(6, _), (5, _), (15, _), (16, _), (17, _)] ⟨rfl, rfl, rfl, rfl, rfl, trivial⟩ (.region ?_))))
    refine .p rfl rfl (.add rfl rfl (by omega)) ?_
    refine .p rfl rfl (.mv rfl) ?_
    refine .nil ?_
    exact (again (i + 1, acc ++ [(mountF d).1.fs[i].name], v25, w25) ⟨by show i + 1 ≤ _; omega, by show _ = _; rw [List.take_succ_eq_append_getElem hi, List.map_append, ha]; rfl, O25, ((hX.trans Y8).trans X24).then A25 (fun k h _ => h)⟩ (by show _ - (i + 1) < _ - i; omega)).of ⟨rfl, rfl, rfl, rfl, rfl, trivial⟩
  · obtain rfl : i = (mountF d).1.fs.length := by omega
    rw [List.take_length] at ha
    refine .exit rfl (.code (.seq (.keep [(5, _), (6, _)] ⟨rfl, rfl, trivial⟩ (.region ?_))))
    refine .p rfl rfl (.mv rfl) ?_
    refine .p rfl rfl (.mv rfl) ?_
    refine .p rfl rfl (.as rfl) ?_
    refine .p rfl rfl (.as rfl) ?_
    refine .nil (.code ?_)
    refine .ret _ rfl ?_
    unfold namesF
    rw [← ha]
    exact ⟨_, rfl, OwnO.mono hO (fun _ h _ => h) (fun k h _ => by have h : w4.heap.size ≤ k := h; show w.heap.size ≤ k; omega), (by repeat (first | exact Ext.refl _ | assumption | refine Ext.trans (by assumption) ?_))⟩
theorem NewB_fn {w : World} {n : Int} (hn : 1 ≤ n ∧ n ≤ 4096) : Fn Tryz.prog 47 [i64 n] w (fun r w2 => ∃ b, r = .tuple #[.agg #[i64 n, .slice (some ⟨b, 0, none⟩) (n.toNat * 128) (n.toNat * 128), .slice none 0 0], i64 0] ∧ Blk w2 b 5 (List.replicate (n.toNat * 128) (.int .u8 0)) ∧ w.heap.size < b ∧ Ext (fun _ => False) w w2) := by
  refine Fn.enter (fun w => Tryz.call47 _ w) Tryz.func47 rfl ?_
  refine .seq (.region ?_)
  refine .v rfl rfl (.alloc rfl rfl) ?_
  rintro _ w2 ⟨rfl, N2⟩
  refine .p rfl rfl (.as rfl) ?_
  refine .nil (.code (.seq (.seq (.keep [(2, _), (0, _)] ⟨rfl, rfl, trivial⟩ (.region ?_)))))
  refine .p rfl rfl (.mv rfl) ?_
  refine .p rfl rfl (.no (.lt rfl rfl) (by omega)) ?_
  refine .p rfl rfl (.mv rfl) ?_
  refine .p rfl rfl (.mv rfl) ?_
  refine .p rfl rfl (.no (.gt rfl rfl) (by omega)) ?_
  refine .p rfl rfl (.pickF rfl rfl) ?_
  refine .nil (.code (.keep [(9, _), (2, _), (0, _)] ⟨rfl, rfl, rfl, trivial⟩ (.condF rfl (.skip (.code (.seq (.keep [(2, _), (0, _)] ⟨rfl, rfl, trivial⟩ (.region ?_))))))))
  refine .p rfl rfl (.mv rfl) ?_
  refine .p rfl rfl (.mv rfl) ?_
  refine .p rfl rfl (.mul rfl rfl (by omega)) ?_
  refine .v rfl rfl (.make (eb := 1) rfl rfl rfl rfl rfl rfl rfl rfl (by omega)) ?_
  rintro _ w14 ⟨rfl, N14⟩
  refine .p rfl rfl (.build (cs := [i64 n, .slice (some ⟨w2.heap.size, 0, none⟩) (n * 128).toNat (n * 128).toNat, .slice none 0 0]) rfl (fun _ => by kernel_rfl)) ?_
  refine .s rfl (.storeAll (n := 3) rfl rfl rfl rfl rfl (N2.blk.ext N14.ext (fun x => x)) rfl) ?_
  intro w15 P15
  have X15 := (N2.ext.trans N14.ext).then P15.ext (by rintro k rfl _; exact Nat.le_refl _)
  have hz : w2.heap.size = w.heap.size + 1 := N2.size
  refine .p rfl rfl (.as rfl) ?_
  refine .nil (.code ?_)
  refine .retR (.cell (n := 3) rfl rfl rfl rfl rfl (P15.blk.cells) (.tmp rfl .nil)) ?_
  have e : (n * 128).toNat = n.toNat * 128 := by omega
  rw [e]
  have B := N14.blk.ext P15.ext (by show ¬ w2.heap.size = w.heap.size; omega)
  rw [e] at B
  exact ⟨w2.heap.size, rfl, B, by omega, X15⟩
theorem NewC_fn {w : World} {n : Int} (hn : 1 ≤ n) : Fn Tryz.prog 47 [i64 n] w (fun r w2 => ∃ m a l c a2 l2 c2 e, r = .tuple #[.agg #[i64 m, .slice a l c, .slice a2 l2 c2], i64 e] ∧ (e = 20 ∧ 4096 < n ∨ e = 0 ∧ n ≤ 4096 ∧ m = n ∧ a2 = none ∧ l2 = 0 ∧ c2 = 0 ∧ l = n.toNat * 128 ∧ c = l ∧ ∃ b, a = some ⟨b, 0, none⟩ ∧ Blk w2 b 5 (List.replicate (n.toNat * 128) (.int .u8 0)) ∧ w.heap.size < b) ∧ Ext (fun _ => False) w w2) := by
  by_cases h : n ≤ 4096
  · refine (NewB_fn (n := n) ⟨hn, h⟩).mono ?_
    rintro r w2 ⟨b, h1, h2, h3, h4⟩
    exact ⟨_, _, _, _, _, _, _, _, h1, .inr ⟨rfl, h, rfl, rfl, rfl, rfl, rfl, rfl, b, rfl, h2, h3⟩, h4⟩
  · refine (New_fn (n := n)).mono ?_
    rintro r w2 ⟨v, h1, h2, h3⟩
    obtain ⟨a1, c1, a2, c2, rfl⟩ := tDisk.shape h2
    refine ⟨_, _, _, _, _, _, _, _, h1, .inl ⟨?_, by omega⟩, h3⟩
    unfold disk.newF
    rw [if_pos (by omega)]
theorem data_1 {N : Nat} (hN : 1024 ≤ N) : ((List.replicate N (Value.int .u8 0)).take 0 ++ ((writeF ⟨1, []⟩).1.take (min (writeF ⟨1, []⟩).1.length N)).map u8 ++ (List.replicate N (Value.int .u8 0)).drop (0 + min (writeF ⟨1, []⟩).1.length N)).take ((writeF ⟨1, []⟩).1 ++ List.replicate (N - 1024) (0 : UInt8)).length = ((writeF ⟨1, []⟩).1 ++ List.replicate (N - 1024) (0 : UInt8)).map u8 := by
  have hl := write_1.2
  generalize (writeF ⟨1, []⟩).1 = b at *
  rw [hl, Nat.min_eq_left hN, Nat.zero_add, List.take_zero, List.nil_append, List.take_of_length_le (by omega : b.length ≤ 1024), List.drop_replicate, List.map_append, List.map_replicate]
  exact List.take_of_length_le (by simp)
theorem Format_fn {w : World} {n : Int} (hg : GOK w) (hn63 : n ≤ 9223372036854775807) : Fn Tryz.prog 35 [i64 n] w (fun r w2 => ∃ v, r = .tuple #[v, i64 (formatF n).2] ∧ disk.tDisk.rep (fun k => w.heap.size ≤ k) w2 v (formatF n).1 ∧ Ext (fun _ => False) w w2) := by
  refine Fn.enter (fun w => Tryz.call35 _ w) Tryz.func35 rfl ?_
  refine .seq (.region ?_)
  refine .v rfl rfl (.alloc rfl rfl) ?_
  rintro _ w2 ⟨rfl, N2⟩
  have X2 := N2.ext
  have B2 := N2.blk
  have z2 : w2.heap.size = w.heap.size + 1 := N2.size
  refine .p rfl rfl (.as rfl) ?_
  refine .nil (.code (.seq (.seq (.keep [(2, _), (0, _)] ⟨rfl, rfl, trivial⟩ (.region ?_)))))
  refine .p rfl rfl (.mv rfl) ?_
  refine .p rfl rfl (.lt rfl rfl) ?_
  refine .nil (.code (.keep [(9, _), (2, _), (0, _)] ⟨rfl, rfl, rfl, trivial⟩ ?_))
  refine .condD rfl (fun c9 => ?_) (fun c9 => ?_)
  · refine .seq (.keep [(2, _)] ⟨rfl, trivial⟩ (.region ?_))
    refine .p rfl rfl (.build (cs := [i64 0, .slice none 0 0, .slice none 0 0]) rfl (fun _ => by kernel_rfl)) ?_
    refine .s rfl (.storeAll (n := 3) rfl rfl rfl rfl rfl N2.blk rfl) ?_
    intro w3 P3
    refine .p rfl rfl (.as rfl) ?_
    refine .nil (.code ?_)
    refine .retR (.cell (n := 3) rfl rfl rfl rfl rfl (P3.blk.cells) (.tmp rfl .nil)) ?_
    rw [formatF_20 (.inl c9)]
    exact ⟨_, rfl, disk.tDisk.mk (d := disk.nodisk) Sl.nil Sl.nil (by decide), N2.ext.then P3.ext (by rintro k rfl _; exact Nat.le_refl _)⟩
  · have h96 : ¬ n < 96 := c9
    refine .skip (.code (.seq (.keep [(2, _), (0, _)] ⟨rfl, rfl, trivial⟩ (.region ?_))))
    refine .p rfl rfl (.mv rfl) ?_
    refine .call (first := []) (captured := []) rfl rfl rfl rfl (NewC_fn (n := n) (by omega)) ?_
    rintro _ w13 ⟨m, a, l, c, a2, l2, c2, e, rfl, hnew, X13⟩
    have z13 := X13.size
    refine .p rfl rfl (.mv rfl) ?_
    refine .p rfl rfl (.extract rfl rfl) ?_
    refine .p rfl rfl (.extract rfl rfl) ?_
    refine .v rfl rfl (.alloc rfl rfl) ?_
    rintro _ wn4 ⟨rfl, N4⟩
    refine .s rfl (.storeAll (n := 3) rfl rfl rfl rfl rfl N4.blk rfl) ?_
    intro w4 P4
    have Y4 := N4.ext.then P4.ext (by rintro k rfl _; exact Nat.le_refl _)
    have zy4 := Y4.size
    have B4 := P4.blk
    clear P4 N4
    refine .p rfl rfl (.as rfl) ?_
    refine .nil (.code (.seq (.seq (.keep [(5, _), (4, _), (2, _)] ⟨rfl, rfl, rfl, trivial⟩ (.region ?_)))))
    refine .p rfl rfl (.mv rfl) ?_
    refine .p rfl rfl (.ne rfl rfl) ?_
    refine .nil (.code (.keep [(17, _), (5, _), (4, _), (2, _)] ⟨rfl, rfl, rfl, rfl, trivial⟩ ?_))
    refine .condD rfl (fun c17 => ?_) (fun c17 => ?_)
    · have hbig : e = 20 ∧ 4096 < n := by rcases hnew with h | h; exact h; exact absurd h.1 c17
      obtain ⟨rfl, hbig⟩ := hbig
      refine .seq (.keep [(5, _), (2, _)] ⟨rfl, rfl, trivial⟩ (.region ?_))
      refine .p rfl rfl (.build (cs := [i64 0, .slice none 0 0, .slice none 0 0]) rfl (fun _ => by kernel_rfl)) ?_
      refine .p rfl rfl (.mv rfl) ?_
      refine .s rfl (.storeAll (n := 3) rfl rfl rfl rfl rfl (B2.ext (S := fun _ => False) (by repeat (first | exact Ext.refl _ | assumption | refine Ext.trans (by assumption) ?_)) (fun x => x)) rfl) ?_
      intro w3 P3
      refine .p rfl rfl (.as rfl) ?_
      refine .nil (.code ?_)
      refine .retR (.cell (n := 3) rfl rfl rfl rfl rfl (P3.blk.cells) (.tmp rfl .nil)) ?_
      rw [formatF_20 (.inr hbig)]
      exact ⟨_, rfl, disk.tDisk.mk (d := disk.nodisk) Sl.nil Sl.nil (by decide), Ext.then (S := fun k => k = w.heap.size) (by repeat (first | exact Ext.refl _ | assumption | refine Ext.trans (by assumption) ?_)) P3.ext (by rintro k rfl _; omega)⟩
    · have he : e = 0 := Decidable.not_not.1 c17
      rcases hnew with hnew | hnew
      · exact absurd (hnew.1.symm.trans he) (by decide)
      obtain ⟨_, h4, rfl, rfl, rfl, rfl, rfl, rfl, b, rfl, Bb, hb⟩ := hnew
      have hbl := Bb.lt
      refine .skip (.code (.seq (.keep [(4, _), (2, _)] ⟨rfl, rfl, trivial⟩ (.region ?_))))
      refine .p rfl rfl (.build (cs := [i64 1, .slice none 0 0]) rfl (fun _ => by kernel_rfl)) ?_
      refine .call (first := []) (captured := []) rfl rfl rfl rfl (FWrite_fn (x := ⟨1, []⟩) (tDir.mk (x := ⟨1, []⟩) Sl.nil ⟨by show (-9223372036854775808 : Int) ≤ 1; decide, by show (1 : Int) ≤ _; decide⟩) (by show (0 : Nat) ≤ _; decide) (hg.ext0 (by repeat (first | exact Ext.refl _ | assumption | refine Ext.trans (by assumption) ?_)))) ?_
      rintro _ w22 ⟨v22, rfl, G22, X22⟩
      have z22 := X22.size
      have hl1 := write_1.2
      refine .p rfl rfl (.mv rfl) ?_
      refine .p rfl rfl (.extract rfl rfl) ?_
      refine .p rfl rfl (.extract rfl rfl) ?_
      refine .p rfl rfl (.as rfl) ?_
      refine .p rfl rfl (.as rfl) ?_
      refine .nil (.code (.seq (.keep [(6, _), (4, _), (2, _)] ⟨rfl, rfl, rfl, trivial⟩ (.region ?_))))
      refine .p rfl rfl (.fieldAddr rfl rfl rfl rfl) ?_
      refine .p rfl rfl (.load rfl rfl rfl ((B4.ext (S := fun _ => False) (by repeat (first | exact Ext.refl _ | assumption | refine Ext.trans (by assumption) ?_)) (fun x => x)).cell 1)) ?_
      refine .p rfl rfl (.mv rfl) ?_
      refine .v rfl rfl (.copyB (l := (writeF ⟨1, []⟩).1) rfl (Bb.ext (S := fun _ => False) (by repeat (first | exact Ext.refl _ | assumption | refine Ext.trans (by assumption) ?_)) (fun x => x)) rfl (Gr.rep G22) rfl rfl (by rw [List.length_replicate, hl1]; omega)) ?_
      rintro _ w28 ⟨rfl, P28⟩
      have z28 := P28.ext.size
      have Bd := P28.blk
      have B428 := (B4.ext (S := fun _ => False) (by repeat (first | exact Ext.refl _ | assumption | refine Ext.trans (by assumption) ?_)) (fun x => x)).ext P28.ext (by omega)
      have B228 := (B2.ext (S := fun _ => False) (by repeat (first | exact Ext.refl _ | assumption | refine Ext.trans (by assumption) ?_)) (fun x => x)).ext P28.ext (by omega)
      refine .nil (.code (.seq (.keep [(4, _), (2, _)] ⟨rfl, rfl, trivial⟩ (.region ?_))))
      refine .p rfl rfl (.loadA (n := 3) rfl rfl rfl rfl rfl B428.cells) ?_
      refine .s rfl (.storeAll (n := 3) rfl rfl rfl rfl rfl B228 rfl) ?_
      intro w8 P8
      refine .p rfl rfl (.as rfl) ?_
      refine .nil (.code ?_)
      refine .retR (.cell (n := 3) rfl rfl rfl rfl rfl (P8.blk.cells) (.tmp rfl .nil)) ?_
      rw [formatF_0 (by omega)]
      refine ⟨_, rfl, ?_, (Ext.then (S := fun k => k = b) (by repeat (first | exact Ext.refl _ | assumption | refine Ext.trans (by assumption) ?_)) P28.ext (by rintro k rfl _; omega)).then P8.ext (by rintro k rfl _; omega)⟩
      refine disk.tDisk.mk (d := ⟨m, (writeF ⟨1, []⟩).1 ++ List.replicate (m.toNat * 128 - 1024) 0, []⟩) (tBytes.mono (Sl.mkBytesB (P := fun k => k = b) (Bd.ext P8.ext (by omega)) (data_1 (by omega)) rfl (by rw [List.length_append, List.length_replicate]; omega) (by rw [List.length_append, List.length_replicate]; simp only [Lim]; omega) (by rw [List.length_append, List.length_replicate]; omega)) (by rintro k rfl _; show w.heap.size ≤ k; omega)) Sl.nil (by show -9223372036854775808 ≤ m ∧ m ≤ 9223372036854775807; omega)
end Go.Proofs.YthliepcjfnjnoaaGreatDoor
