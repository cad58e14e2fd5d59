import Derived.Test.YtpfehnopghffjaaGreatDoorT09
import Derived.Test.YtpfehnopghffjaaGreatDoorT10
import Derived.Test.YtpfehnopghffjaaGreatDoorT04
set_option linter.unusedVariables false
set_option linter.unusedSimpArgs false
set_option maxRecDepth 20000
namespace Go.Proofs.YtpfehnopghffjaaGreatDoor
open Go
open room files
namespace files
theorem slot_step (d : Disk) (n i : Nat) : (List.range (i + 1)).flatMap (fun i => disk.readF d ((n + i : Nat) : Int)) = (List.range i).flatMap (fun i => disk.readF d ((n + i : Nat) : Int)) ++ disk.readF d ((n + i : Nat) : Int) := by
 rw [List.range_succ, List.flatMap_append, List.flatMap_cons, List.flatMap_nil, List.append_nil]
theorem slot_to {d : Disk} (hc : disk.checkF d = 0) {n : Nat} (hn : ((n + 8 : Nat) : Int) ≤ d.count) {i : Nat} (hi : i ≤ 8) : ((List.range i).flatMap (fun i => disk.readF d ((n + i : Nat) : Int))).length = i * 128 :=
 flat_length i (fun j hj => fread_length hc (by omega) (by omega))
theorem slot_all {d : Disk} {n : Nat} (h : (readD (slotB d n)).2 = 0) : (allP (slotF d n).fs).length ≤ 1000000 := by
 obtain ⟨_, hm⟩ := checkD_ok (writeF_ok (write_read h)).1
 have := (check_ok hm.2.1).2.2.1
 unfold slotF
 omega
theorem slotOK_iff {d : Disk} {n : Nat} (h : (readD (slotB d n)).2 = 0) : slotOK d n ↔ checkR d.count (allP (slotF d n).fs) = 0 := ⟨fun x => x.2, fun x => ⟨h, x⟩⟩
theorem slotOK_no {d : Disk} {n : Nat} (h : ¬ (readD (slotB d n)).2 = 0) : ¬ slotOK d n := fun x => h x.1
theorem small_dir {x : Dir} (h : mayD x) : (allP x.fs).length ≤ 1000000 := by have := (check_ok h.2.1).2.2.1; omega
end files
attribute [local irreducible] readD slotB slotF mountF slotOK checkR disk.readF findTo
theorem tDir.own {w : World} {v : Value} {x : Dir} {P Q B : Nat → Prop} (h : OwnO tFileO Q 28 w v x.fs B) (hb : ∀ k, B k → P k) (hq : ∀ k, Q k → P k) (hg : -9223372036854775808 ≤ x.gen ∧ x.gen ≤ 9223372036854775807) : tDir.rep P w (.agg #[i64 x.gen, v]) x := by
 obtain ⟨a, cap, rfl, _⟩ := OwnO.val h
 exact tDir.mk (own_files h hb hq) hg
theorem readD_bd (b : Bs) : -9223372036854775808 ≤ (readD b).1.gen ∧ (readD b).1.gen ≤ 9223372036854775807 := by
 by_cases h : (readD b).2 = 0
 ·obtain ⟨_, hm⟩ := checkD_ok (writeF_ok (write_read h)).1
  have := hm.1
  omega
 ·rw [read_bad h]
  exact ⟨by show (-9223372036854775808 : Int) ≤ 0; decide, by show (0 : Int) ≤ _; decide⟩
theorem ReadR_fn {w : World} {v : Value} {b : Bs} (h : tBytes.rep All w v b) (hg : GOK w) : Fn Tryz.prog 14 [v] w (fun r w2 => ∃ u, r = .tuple #[u, i64 (readD b).2] ∧ tDir.rep (fun k => w.heap.size ≤ k) w2 u (readD b).1 ∧ Ext (fun _ => False) w w2) :=
 (FRead_fn h hg).mono fun r w2 ⟨v', Q, B, h1, h2, hq, hb, h3⟩ => ⟨_, h1, tDir.own h2 (fun k h => (hb k h).1) hq (readD_bd b), h3⟩
theorem find1_fn {w : World} {c : Nat} {s nm : Bs} {x y : Value} (hc : Blk w c 9 [str s]) : Fn Tryz.prog 120 ([] ++ [.agg #[str nm, x, y]] ++ [.pointer (some ⟨c, 0, none⟩)]) w (fun r w2 => r = .bool (decide (nm = s)) ∧ Ext (fun _ => False) w w2) := by
 refine Fn.enter (fun w => Tryz.call120 _ w) Tryz.func120 rfl ?_
 refine .seq (.region ?_)
 refine .v rfl rfl (.box rfl) ?_
 rintro _ w2 ⟨rfl, N2⟩
 have B2 := N2.blk
 have X2 := N2.ext
 have z2 := N2.size
 refine .p rfl rfl (.as rfl) (.nil (.code (.seq (.keep [(2, _), (1, _)] ⟨rfl, rfl, trivial⟩ (.region ?_)))))
 refine .p rfl rfl (.fieldAddr rfl rfl rfl rfl) (.p rfl rfl (.load rfl rfl rfl (B2.cell 0)) (.p rfl rfl (.load rfl rfl rfl ((hc.ext X2 (fun x => x)).cell 0)) (.p rfl rfl (.eqS rfl rfl) (.p rfl rfl (.as rfl) (.nil (.code ?_))))))
 refine .ret _ rfl ?_
 exact ⟨rfl, X2⟩
theorem IndexName_fn {w : World} {v : Value} {l : List File} {c : Nat} {s : Bs} (h : (Sl tFile).rep All w v l) (hc : Blk w c 9 [str s]) : Fn Tryz.prog 119 [v, .func (.func 120) #[] #[.pointer (some ⟨c, 0, none⟩)]] w (fun r w2 => r = i64 (findTo s l 0) ∧ Ext (fun _ => False) w w2) := by
 obtain ⟨a, cap, rfl, hcap⟩ := Sl.val h
 have hlim := Sl.lim h
 simp only [Lim] at hlim
 refine Fn.enter (fun w => Tryz.call119 _ w) Tryz.func119 rfl ?_
 refine .seq (.region ?_)
 refine .p rfl rfl (.as rfl) (.nil (.code (.seq (.seq (.keep [(0, _), (1, _)] ⟨rfl, rfl, trivial⟩ (.region ?_))))))
 refine .p rfl rfl (.mv rfl) (.p rfl rfl (.len rfl rfl) (.p rfl rfl (.mv rfl) (.nil (.code (.block (.keep [(8, _), (7, _), (0, _), (1, _)] ⟨rfl, rfl, rfl, rfl, trivial⟩ ?_))))))
 obtain ⟨sx, hsx⟩ : ∃ sx, sx = s := ⟨_, rfl⟩
 refine .loop (S := Nat × World) (fun s => [(0, .slice a l.length cap), (1, .func (.func 120) #[] ([.pointer (some ⟨c, 0, none⟩)] : List Value).toArray), (7, i64 l.length), (8, i64 s.1)]) (fun s => s.2) (fun s => s.1 ≤ l.length ∧ (∀ j (h : j < l.length), j < s.1 → ¬ l[j].name = sx) ∧ Ext (fun _ => False) w s.2) (fun s => l.length - s.1) (0, w) ⟨rfl, rfl, rfl, rfl, trivial⟩ rfl ⟨Nat.zero_le _, fun j _ h => absurd h (Nat.not_lt_zero _), .refl _⟩ ?_
 rintro ⟨i, wi⟩ J ⟨hi', hn, hX⟩ again
 simp only at hi' hn hX
 change G _ [(0, .slice a l.length cap), (1, .func (.func 120) #[] ([.pointer (some ⟨c, 0, none⟩)] : List Value).toArray), (7, i64 l.length), (8, i64 i)] _ _ wi
 refine .seq (.region ?_)
 refine .p rfl rfl (.lt rfl rfl) (.nil (.code (.seq ?_)))
 refine .condD rfl (fun c9 => ?_) (fun c9 => ?_)
 ·have hi : i < l.length := by omega
  obtain ⟨b1, o1, q1, ue, e, _, hcs, hre⟩ := Sl.at h (List.getElem?_eq_getElem hi)
  cases e
  obtain ⟨fa1, fc1, rfl, hps1, hnm1, hsz1⟩ := tFile.val hre
  refine .skip (.code (.seq (.block (.seq (.keep [(0, _), (1, _), (7, _), (8, _)] ⟨rfl, rfl, rfl, rfl, trivial⟩ (.region ?_))))))
  refine .p rfl rfl (.mv rfl) (.p rfl rfl (.as rfl) (.nil (.code (.seq (.keep [(5, _), (0, _), (1, _), (7, _), (8, _)] ⟨rfl, rfl, rfl, rfl, rfl, trivial⟩ (.region ?_))))))
  refine .p rfl rfl (.mv rfl) (.p rfl rfl (.mv rfl) (.p rfl rfl (.mv rfl) (.p rfl rfl (.indexAddr (s := 3) rfl rfl rfl rfl (by omega)) (.p rfl rfl (.loadA (n := 3) rfl rfl rfl rfl rfl (hcs.ext hX (fun x => x))) (.call (first := []) (captured := [.pointer (some ⟨c, 0, none⟩)]) rfl rfl rfl rfl (find1_fn (hc.ext hX (fun x => x))) ?_)))))
  rintro _ w16 ⟨rfl, X16⟩
  have z16 := X16.size
  refine .nil (.code (.keep [(16, _), (5, _), (0, _), (1, _), (7, _), (8, _)] ⟨rfl, rfl, rfl, rfl, rfl, rfl, trivial⟩ ?_))
  refine .condD rfl (fun c16 => ?_) (fun c16 => ?_)
  ·refine .seq (.keep [(5, _)] ⟨rfl, trivial⟩ (.region ?_))
   refine .p rfl rfl (.mv rfl) (.p rfl rfl (.as rfl) (.nil (.code ?_)))
   refine .ret _ rfl ?_
   subst hsx
   refine ⟨?_, hX.trans X16⟩
   rw [findTo_at hi (fun j hj => hn j (by omega) hj) c16]
   rw [Int.zero_add]
   rfl
  ·refine .skip (.blk (.code (.keep [(0, _), (1, _), (7, _), (8, _)] ⟨rfl, rfl, rfl, rfl, trivial⟩ (.region ?_))))
   refine .p rfl rfl (.add rfl rfl (by omega)) (.p rfl rfl (.mv rfl) (.nil ?_))
   refine (again (i + 1, w16) ⟨by show i + 1 ≤ _; omega, fun j hj h1 => ?_, hX.trans X16⟩ (by show _ - (i + 1) < _ - i; omega)).of ⟨rfl, rfl, rfl, rfl, trivial⟩
   rcases Nat.lt_or_ge j i with h2 | h2
   ·exact hn j hj h2
   ·have h1 : j < i + 1 := h1
    obtain rfl : j = i := by omega
    rw [hsx]; exact c16
 ·obtain rfl : i = l.length := by omega
  refine .exit rfl (.code (.seq (.keep [] trivial (.region ?_))))
  refine .p rfl rfl (.as rfl) (.nil (.code ?_))
  refine .ret _ rfl ?_
  subst hsx
  refine ⟨?_, hX⟩
  rw [findTo_no (fun f hf => by obtain ⟨j, hj, rfl⟩ := List.getElem_of_mem hf; exact hn j hj hj)]
  rfl
theorem find_fn {w : World} {v : Value} {x : Dir} {s : Bs} (h : tDir.rep All w v x) : Fn Tryz.prog 67 [v, str s] w (fun r w2 => r = i64 (findF x s) ∧ Ext (fun _ => False) w w2) := by
 obtain ⟨a, cap, rfl, hf, hg⟩ := tDir.val h
 refine Fn.enter (fun w => Tryz.call67 _ w) Tryz.func67 rfl ?_
 refine .seq (.region ?_)
 refine .v rfl rfl (.box rfl) ?_
 rintro _ w2 ⟨rfl, N2⟩
 have B2 := N2.blk
 have X2 := N2.ext
 have z2 := N2.size
 refine .v rfl rfl (.box rfl) ?_
 rintro _ w3 ⟨rfl, N3⟩
 have B3 := N3.blk
 have X3 := N3.ext
 have z3 := N3.size
 refine .p rfl rfl (.as rfl) (.nil (.code (.seq (.keep [(3, _), (2, _)] ⟨rfl, rfl, trivial⟩ (.region ?_)))))
 refine .p rfl rfl (.fieldAddr rfl rfl rfl rfl) (.p rfl rfl (.load rfl rfl rfl ((B2.ext (S := fun _ => False) (by repeat (first | exact Ext.refl _ | assumption | refine Ext.trans (by assumption) ?_)) (fun x => x)).cell 1)) ?_)
 refine .p rfl rfl (.makeFunc rfl rfl) (.call (first := []) (captured := []) rfl rfl rfl rfl (IndexName_fn ((Sl tFile).ext0 hf (by repeat (first | exact Ext.refl _ | assumption | refine Ext.trans (by assumption) ?_))) B3) ?_)
 rintro _ w8 ⟨rfl, X8⟩
 have z8 := X8.size
 refine .p rfl rfl (.as rfl) (.nil (.code ?_))
 refine .ret _ rfl ?_
 exact ⟨rfl, (by repeat (first | exact Ext.refl _ | assumption | refine Ext.trans (by assumption) ?_))⟩
theorem slot_fn {w : World} {v : Value} {d : Disk} {n : Nat} (h : disk.tDisk.rep All w v d) (hc : disk.checkF d = 0) (hn : ((n + 8 : Nat) : Int) ≤ d.count) (hg : GOK w) : Fn Tryz.prog 129 [v, i64 (n : Nat)] w (fun r w2 => ∃ u t, r = .tuple #[u, .bool t] ∧ (t = true ↔ slotOK d n) ∧ tDir.rep (fun k => w.heap.size ≤ k) w2 u (slotF d n) ∧ Ext (fun _ => False) w w2) := by
 have h0 := h
 obtain ⟨u, u', rfl, hd1, hd2, hdc⟩ := disk.tDisk.val h
 obtain ⟨a1, k1, rfl, _⟩ := Sl.val hd1
 obtain ⟨a2, k2, rfl, _⟩ := Sl.val hd2
 have hct := (disk.check_ok hc).2.1
 refine Fn.enter (fun w => Tryz.call129 _ w) Tryz.func129 rfl ?_
 refine .seq (.region ?_)
 refine .v rfl rfl (.box rfl) ?_
 rintro _ w2 ⟨rfl, N2⟩
 have B2 := N2.blk
 have X2 := N2.ext
 have z2 := N2.size
 refine .v rfl rfl (.alloc rfl rfl) ?_
 rintro _ w4 ⟨rfl, N4⟩
 have B4 := N4.blk
 have X4 := N4.ext
 have z4 : w4.heap.size = w2.heap.size + 1 := N4.size
 refine .p rfl rfl (.as rfl) (.nil (.code (.seq (.keep [(4, _), (2, _), (1, _)] ⟨rfl, rfl, rfl, trivial⟩ (.region ?_)))))
 refine .p rfl rfl (.as rfl) (.nil (.code (.seq (.seq (.region ?_)))))
 refine .p rfl rfl (.mv rfl) (.nil (.code (.block ?_)))
 refine .loop (S := Nat × Bs × Value × World) (fun s => [(1, i64 (n : Nat)), (2, .pointer (some ⟨w.heap.size, 0, none⟩)), (4, .pointer (some ⟨w2.heap.size, 0, none⟩)), (6, s.2.2.1), (12, i64 s.1)]) (fun s => s.2.2.2) (fun s => s.1 ≤ 8 ∧ s.2.1 = (List.range s.1).flatMap (fun i => disk.readF d ((n + i : Nat) : Int)) ∧ Gr s.2.2.2 s.2.2.1 s.2.1 w4.heap.size ∧ Ext (fun _ => False) w4 s.2.2.2) (fun s => 8 - s.1) (0, [], .slice none 0 0, w4) ⟨rfl, rfl, rfl, rfl, rfl, trivial⟩ rfl ⟨Nat.zero_le _, rfl, OwnO.nil, .refl _⟩ ?_
 rintro ⟨i, acc, vi, wi⟩ J ⟨hi', ha, hO, hX⟩ again
 simp only at hi' ha hO hX
 have zi := hX.size
 have hal := slot_to hc hn hi'
 rw [← ha] at hal
 change G _ [(1, i64 (n : Nat)), (2, .pointer (some ⟨w.heap.size, 0, none⟩)), (4, .pointer (some ⟨w2.heap.size, 0, none⟩)), (6, vi), (12, i64 i)] _ _ wi
 refine .seq (.region ?_)
 refine .p rfl rfl (.lt rfl rfl) (.nil (.code (.seq ?_)))
 refine .condD rfl (fun c13 => ?_) (fun c13 => ?_)
 ·have hi : i < 8 := by omega
  have hrl := fread_length hc (n := ((n + i : Nat) : Int)) (by omega) (by omega)
  refine .skip (.code (.seq (.block (.seq (.keep [(1, _), (2, _), (4, _), (6, _), (12, _)] ⟨rfl, rfl, rfl, rfl, rfl, trivial⟩ (.region ?_))))))
  refine .p rfl rfl (.mv rfl) (.p rfl rfl (.as rfl) (.nil (.code (.seq (.keep [(7, _), (1, _), (2, _), (4, _), (6, _), (12, _)] ⟨rfl, rfl, rfl, rfl, rfl, rfl, trivial⟩ (.region ?_))))))
  refine .p rfl rfl (.loadA (n := 3) rfl rfl rfl rfl rfl (B2.ext (S := fun _ => False) (by repeat (first | exact Ext.refl _ | assumption | refine Ext.trans (by assumption) ?_)) (fun x => x)).cells) ?_
  refine .p rfl rfl (.mv rfl) (.p rfl rfl (.mv rfl) (.p rfl rfl (.cast (.add rfl rfl (by omega)) (show _ = i64 ((n + i : Nat) : Int) by congr 1)) (.call (first := []) (captured := []) rfl rfl rfl rfl (Read0_fn (n := ((n + i : Nat) : Int)) (disk.tDisk.ext0 h0 (by repeat (first | exact Ext.refl _ | assumption | refine Ext.trans (by assumption) ?_))) (disk.asked_of hc (by omega) (by omega))) ?_)))
  rintro _ w20 ⟨v20, rfl, R20, X20⟩
  have z20 := X20.size
  refine .p rfl rfl (.mv rfl) (.p rfl rfl (.extract rfl rfl) (.p rfl rfl (.extract rfl rfl) (.p rfl rfl (.as rfl) (.p rfl rfl (.as rfl) (.nil (.code (.keep [(8, _), (1, _), (2, _), (4, _), (6, _), (12, _)] ⟨rfl, rfl, rfl, rfl, rfl, rfl, trivial⟩ (.region ?_))))))))
  refine .p rfl rfl (.mv rfl) (.p rfl rfl (.mv rfl) (.v rfl rfl (.appendLo (t := tByte) (eb := 1) rfl (OwnO.ext0 hO X20) (fun k hk => by show w4.heap.size ≤ k; omega) rfl (Gr.holds R20) rfl rfl rfl rfl rfl rfl rfl (by omega) (by simp only [Lim]; omega) (fun _ h _ => h.elim)) ?_))
  rintro v25 w25 ⟨O25, A25⟩
  have z25 := A25.size
  refine .p rfl rfl (.as rfl) (.nil (.blk (.code (.keep [(6, _), (1, _), (2, _), (4, _), (12, _)] ⟨rfl, rfl, rfl, rfl, rfl, trivial⟩ (.region ?_)))))
  refine .p rfl rfl (.add rfl rfl (by omega)) (.p rfl rfl (.mv rfl) (.nil ?_))
  exact (again (i + 1, acc ++ disk.readF d ((n + i : Nat) : Int), v25, w25) ⟨by show i + 1 ≤ 8; omega, by show _ = _; rw [slot_step, ha], O25, (hX.trans X20).then A25 (fun k h _ => h)⟩ (by show 8 - (i + 1) < 8 - i; omega)).of ⟨rfl, rfl, rfl, rfl, rfl, trivial⟩
 ·obtain rfl : i = 8 := by omega
  have ha : acc = slotB d n := by rw [ha]; unfold slotB; rfl
  subst ha
  refine .exit rfl (.code (.seq (.keep [(2, _), (4, _), (6, _)] ⟨rfl, rfl, rfl, trivial⟩ (.region ?_))))
  refine .p rfl rfl (.mv rfl) (.call (first := []) (captured := []) rfl rfl rfl rfl (ReadR_fn (b := slotB d n) (Gr.rep hO) (hg.ext0 (by repeat (first | exact Ext.refl _ | assumption | refine Ext.trans (by assumption) ?_)))) ?_)
  rintro _ w29 ⟨v29, rfl, R29, X29⟩
  have z29 := X29.size
  obtain ⟨aF, kF, rfl, hF, hgF⟩ := tDir.val R29
  have R29 : tDir.rep (fun k => wi.heap.size ≤ k) w29 (.agg #[i64 (readD (slotB d n)).1.gen, .slice aF (readD (slotB d n)).1.fs.length kF]) (slotF d n) := by unfold slotF; exact R29
  refine .p rfl rfl (.mv rfl) (.p rfl rfl (.extract rfl rfl) (.p rfl rfl (.extract rfl rfl) (.v rfl rfl (.alloc rfl rfl) ?_)))
  rintro _ wn10 ⟨rfl, N10⟩
  refine .s rfl (.storeAll (n := 2) rfl rfl rfl rfl rfl N10.blk rfl) ?_
  intro w10 P10
  have Y10 := N10.ext.then P10.ext (by rintro k rfl _; exact Nat.le_refl _)
  have zy10 := Y10.size
  have B10 := P10.blk
  clear P10 N10
  refine .p rfl rfl (.as rfl) (.nil (.code (.seq (.keep [(11, _), (10, _), (2, _), (4, _)] ⟨rfl, rfl, rfl, rfl, trivial⟩ (.mix (fun k => k = w2.heap.size) [7, 8, 11] (by kernel_rfl) (by kernel_rfl) (by kernel_rfl) ?_)))))
  refine .p rfl rfl rfl (fun wx hx => .loadA (n := 2) rfl rfl rfl rfl rfl (B10.ext hx (by omega)).cells) ?_
  refine .p rfl rfl rfl (fun wx hx => .mv rfl) (.p rfl rfl rfl (fun wx hx => .eq rfl rfl) (.p rfl rfl rfl (fun wx hx => .mv rfl) ?_))
  refine .caseD 35 rfl (fun c35 => ?_) (fun c35 => ?_)
  ·refine .p rfl rfl rfl (fun wx hx => .fieldAddr rfl rfl rfl rfl) (.p rfl rfl rfl (fun wx hx => .load rfl rfl rfl (((B2.ext (S := fun _ => False) (by repeat (first | exact Ext.refl _ | assumption | refine Ext.trans (by assumption) ?_)) (fun x => x)).ext hx (by omega)).cell 0)) ?_)
   refine .p rfl rfl rfl (fun wx hx => .loadA (n := 2) rfl rfl rfl rfl rfl (B10.ext hx (by omega)).cells) ?_
   refine .call (first := []) (captured := []) rfl rfl rfl rfl rfl (pieces_fn (allOf (tDir.ext0 R29 (by repeat (first | exact Ext.refl _ | assumption | refine Ext.trans (by assumption) ?_)))) (slot_all c35)) (by rintro _ _ ⟨_, hx⟩; exact hx.mono (fun _ _ h => h.elim)) ?_
   rintro v39 w39 ⟨O39, X39⟩
   have z39 := X39.size
   refine .call (first := []) (captured := []) rfl rfl rfl rfl rfl (RoomCheck_fn (count := d.count) (OwnO.rep O39 (fun _ _ _ => trivial) (fun _ h _ => h.elim))) (by rintro _ _ ⟨_, hx⟩; exact (X39.trans hx).mono (fun _ _ h => h.elim)) ?_
   rintro _ w40 ⟨rfl, X40⟩
   have z40 := X40.size
   refine .p rfl rfl rfl (fun wx hx => .eq rfl rfl) (.p rfl rfl rfl (fun wx hx => .pickT rfl rfl) (.s rfl rfl (.storeAll (n := 2) rfl rfl rfl rfl rfl (B4.ext (S := fun _ => False) (by repeat (first | exact Ext.refl _ | assumption | refine Ext.trans (by assumption) ?_)) (fun x => x)) rfl) (by intro wz hP; exact Ext.trans (Ext.mono (S := fun _ => False) (by repeat (first | exact Ext.refl _ | assumption | refine Ext.trans (by assumption) ?_)) (fun _ _ h => h.elim)) hP.ext) ?_))
   intro w9 P9
   have z9 := P9.ext.size
   refine .p rfl rfl rfl (fun wx hx => .as rfl) (.nil (.code ?_))
   refine .retR (.cell (n := 2) rfl rfl rfl rfl rfl (P9.blk.cells) (.tmp rfl .nil)) ?_
   refine ⟨_, _, rfl, ?_, tDir.mono (tDir.ext (tDir.ext0 R29 (by repeat (first | exact Ext.refl _ | assumption | refine Ext.trans (by assumption) ?_))) P9.ext (fun k hk _ e => by have hk : wi.heap.size ≤ k := hk; have e : k = w2.heap.size := e; omega)) (fun k hk _ => by have hk : wi.heap.size ≤ k := hk; show w.heap.size ≤ k; omega), Ext.then (S := fun k => k = w2.heap.size) (by repeat (first | exact Ext.refl _ | assumption | refine Ext.trans (by assumption) ?_)) P9.ext (by rintro k rfl _; omega)⟩
   rw [decide_eq_true_iff]
   exact (slotOK_iff c35).symm
  ·refine .skip rfl rfl (.skip rfl rfl (.skip rfl rfl (.skip rfl rfl (.skip rfl rfl (.skip rfl rfl (.p rfl rfl rfl (fun wx hx => .pickF rfl rfl) (.s rfl rfl (.storeAll (n := 2) rfl rfl rfl rfl rfl (B4.ext (S := fun _ => False) (by repeat (first | exact Ext.refl _ | assumption | refine Ext.trans (by assumption) ?_)) (fun x => x)) rfl) (by intro wz hP; exact Ext.trans (Ext.mono (S := fun _ => False) (by repeat (first | exact Ext.refl _ | assumption | refine Ext.trans (by assumption) ?_)) (fun _ _ h => h.elim)) hP.ext) ?_)))))))
   intro w9 P9
   have z9 := P9.ext.size
   refine .p rfl rfl rfl (fun wx hx => .as rfl) (.nil (.code ?_))
   refine .retR (.cell (n := 2) rfl rfl rfl rfl rfl (P9.blk.cells) (.tmp rfl .nil)) ?_
   exact ⟨_, _, rfl, ⟨fun h => (by cases h), fun h => absurd h (slotOK_no c35)⟩, tDir.mono (tDir.ext (tDir.ext0 R29 (by repeat (first | exact Ext.refl _ | assumption | refine Ext.trans (by assumption) ?_))) P9.ext (fun k hk _ e => by have hk : wi.heap.size ≤ k := hk; have e : k = w2.heap.size := e; omega)) (fun k hk _ => by have hk : wi.heap.size ≤ k := hk; show w.heap.size ≤ k; omega), Ext.then (S := fun k => k = w2.heap.size) (by repeat (first | exact Ext.refl _ | assumption | refine Ext.trans (by assumption) ?_)) P9.ext (by rintro k rfl _; omega)⟩
theorem slot0_fn {w : World} {v : Value} {d : Disk} (h : disk.tDisk.rep All w v d) (hc : disk.checkF d = 0) (hn : ¬ d.count < 96) (hg : GOK w) : Fn Tryz.prog 129 [v, i64 0] w (fun r w2 => ∃ u t, r = .tuple #[u, .bool t] ∧ (t = true ↔ slotOK d 0) ∧ tDir.rep (fun k => w.heap.size ≤ k) w2 u (slotF d 0) ∧ Ext (fun _ => False) w w2) := slot_fn (n := 0) h hc (by omega) hg
theorem slot8_fn {w : World} {v : Value} {d : Disk} (h : disk.tDisk.rep All w v d) (hc : disk.checkF d = 0) (hn : ¬ d.count < 96) (hg : GOK w) : Fn Tryz.prog 129 [v, i64 8] w (fun r w2 => ∃ u t, r = .tuple #[u, .bool t] ∧ (t = true ↔ slotOK d 8) ∧ tDir.rep (fun k => w.heap.size ≤ k) w2 u (slotF d 8) ∧ Ext (fun _ => False) w w2) := slot_fn (n := 8) h hc (by omega) hg
theorem nodir_rep {P : Nat → Prop} {w : World} : tDir.rep P w (.agg #[i64 0, .slice none 0 0]) nodir := tDir.mk (x := nodir) Sl.nil ⟨by show (-9223372036854775808 : Int) ≤ 0; decide, by show (0 : Int) ≤ _; decide⟩
theorem mount_fn {w : World} {v : Value} {d : Disk} (h : disk.tDisk.rep All w v d) (hg : GOK w) : Fn Tryz.prog 80 [v] w (fun r w2 => ∃ u, r = .tuple #[u, i64 ((mountF d).2.1 : Nat), i64 (mountF d).2.2] ∧ tDir.rep (fun k => w.heap.size ≤ k) w2 u (mountF d).1 ∧ Ext (fun _ => False) w w2) := by
 have h0 := h
 obtain ⟨u, u', rfl, hd1, hd2, hdc⟩ := disk.tDisk.val h
 obtain ⟨a1, k1, rfl, _⟩ := Sl.val hd1
 obtain ⟨a2, k2, rfl, _⟩ := Sl.val hd2
 refine Fn.enter (fun w => Tryz.call80 _ w) Tryz.func80 rfl ?_
 refine .seq (.region ?_)
 refine .v rfl rfl (.box rfl) ?_
 rintro _ w1 ⟨rfl, N1⟩
 have B1 := N1.blk
 have X1 := N1.ext
 have z1 := N1.size
 refine .v rfl rfl (.alloc rfl rfl) ?_
 rintro _ w2 ⟨rfl, N2⟩
 have B2 := N2.blk
 have X2 := N2.ext
 have z2 : w2.heap.size = w1.heap.size + 1 := N2.size
 refine .p rfl rfl (.as rfl) (.p rfl rfl (.as rfl) (.nil (.code (.seq (.seq (.keep [(2, _), (1, _)] ⟨rfl, rfl, trivial⟩ (.region ?_)))))))
 refine .p rfl rfl (.loadA (n := 3) rfl rfl rfl rfl rfl (B1.ext (S := fun _ => False) (by repeat (first | exact Ext.refl _ | assumption | refine Ext.trans (by assumption) ?_)) (fun x => x)).cells) ?_
 refine .call (first := []) (captured := []) rfl rfl rfl rfl (Check_fn (disk.tDisk.ext0 h0 (by repeat (first | exact Ext.refl _ | assumption | refine Ext.trans (by assumption) ?_)))) ?_
 rintro _ w11 ⟨rfl, X11⟩
 have z11 := X11.size
 refine .p rfl rfl (.as rfl) (.nil (.code (.seq (.keep [(5, _), (2, _), (1, _)] ⟨rfl, rfl, rfl, trivial⟩ (.region ?_)))))
 refine .p rfl rfl (.mv rfl) (.p rfl rfl (.ne rfl rfl) (.nil (.code (.keep [(13, _), (5, _), (2, _), (1, _)] ⟨rfl, rfl, rfl, rfl, trivial⟩ ?_))))
 refine .condD rfl (fun c13 => ?_) (fun c13 => ?_)
 ·refine .seq (.keep [(5, _), (2, _)] ⟨rfl, rfl, trivial⟩ (.region ?_))
  refine .p rfl rfl (.build (cs := [i64 0, .slice none 0 0]) rfl (fun _ => by kernel_rfl)) (.p rfl rfl (.mv rfl) (.s rfl (.storeAll (n := 2) rfl rfl rfl rfl rfl (B2.ext (S := fun _ => False) (by repeat (first | exact Ext.refl _ | assumption | refine Ext.trans (by assumption) ?_)) (fun x => x)) rfl) ?_))
  intro w3 P3
  refine .p rfl rfl (.as rfl) (.p rfl rfl (.as rfl) (.nil (.code ?_)))
  refine .retR (.cell (n := 2) rfl rfl rfl rfl rfl (P3.blk.cells) (.tmp rfl (.tmp rfl .nil))) ?_
  rw [mountF_e c13]
  exact ⟨_, rfl, nodir_rep, (Ext.then (S := fun k => k = w1.heap.size) (by repeat (first | exact Ext.refl _ | assumption | refine Ext.trans (by assumption) ?_)) P3.ext (by rintro k rfl _; omega))⟩
 ·have hck : disk.checkF d = 0 := Decidable.not_not.1 c13
  refine .skip (.code (.seq (.seq (.keep [(2, _), (1, _)] ⟨rfl, rfl, trivial⟩ (.region ?_)))))
  refine .p rfl rfl (.fieldAddr rfl rfl rfl rfl) (.p rfl rfl (.load rfl rfl rfl ((B1.ext (S := fun _ => False) (by repeat (first | exact Ext.refl _ | assumption | refine Ext.trans (by assumption) ?_)) (fun x => x)).cell 0)) ?_)
  refine .p rfl rfl (.lt rfl rfl) (.nil (.code (.keep [(18, _), (2, _), (1, _)] ⟨rfl, rfl, rfl, trivial⟩ ?_)))
  refine .condD rfl (fun c18 => ?_) (fun c18 => ?_)
  ·refine .seq (.keep [(2, _)] ⟨rfl, trivial⟩ (.region ?_))
   refine .p rfl rfl (.build (cs := [i64 0, .slice none 0 0]) rfl (fun _ => by kernel_rfl)) (.s rfl (.storeAll (n := 2) rfl rfl rfl rfl rfl (B2.ext (S := fun _ => False) (by repeat (first | exact Ext.refl _ | assumption | refine Ext.trans (by assumption) ?_)) (fun x => x)) rfl) ?_)
   intro w5 P5
   refine .p rfl rfl (.as rfl) (.p rfl rfl (.as rfl) (.nil (.code ?_)))
   refine .retR (.cell (n := 2) rfl rfl rfl rfl rfl (P5.blk.cells) (.tmp rfl (.tmp rfl .nil))) ?_
   rw [mountF_96 hck c18]
   exact ⟨_, rfl, nodir_rep, (Ext.then (S := fun k => k = w1.heap.size) (by repeat (first | exact Ext.refl _ | assumption | refine Ext.trans (by assumption) ?_)) P5.ext (by rintro k rfl _; omega))⟩
  ·refine .skip (.code (.seq (.keep [(2, _), (1, _)] ⟨rfl, rfl, trivial⟩ (.region ?_))))
   refine .p rfl rfl (.loadA (n := 3) rfl rfl rfl rfl rfl (B1.ext (S := fun _ => False) (by repeat (first | exact Ext.refl _ | assumption | refine Ext.trans (by assumption) ?_)) (fun x => x)).cells) ?_
   refine .call (first := []) (captured := []) rfl rfl rfl rfl (slot0_fn (disk.tDisk.ext0 h0 (by repeat (first | exact Ext.refl _ | assumption | refine Ext.trans (by assumption) ?_))) hck c18 (hg.ext0 (by repeat (first | exact Ext.refl _ | assumption | refine Ext.trans (by assumption) ?_)))) ?_
   rintro _ w22 ⟨u22, t22, rfl, ht22, R22, X22⟩
   have z22 := X22.size
   obtain ⟨a6, k6, rfl, hf6, hg6⟩ := tDir.val R22
   refine .p rfl rfl (.mv rfl) (.p rfl rfl (.extract rfl rfl) (.p rfl rfl (.extract rfl rfl) (.v rfl rfl (.alloc rfl rfl) ?_)))
   rintro _ wn6 ⟨rfl, N6⟩
   refine .s rfl (.storeAll (n := 2) rfl rfl rfl rfl rfl N6.blk rfl) ?_
   intro w6 P6
   have Y6 := N6.ext.then P6.ext (by rintro k rfl _; exact Nat.le_refl _)
   have zy6 := Y6.size
   have B6 := P6.blk
   clear P6 N6
   refine .p rfl rfl (.as rfl) (.nil (.code (.seq (.keep [(7, _), (6, _), (2, _), (1, _)] ⟨rfl, rfl, rfl, rfl, trivial⟩ (.region ?_)))))
   refine .p rfl rfl (.loadA (n := 3) rfl rfl rfl rfl rfl (B1.ext (S := fun _ => False) (by repeat (first | exact Ext.refl _ | assumption | refine Ext.trans (by assumption) ?_)) (fun x => x)).cells) ?_
   refine .call (first := []) (captured := []) rfl rfl rfl rfl (slot8_fn (disk.tDisk.ext0 h0 (by repeat (first | exact Ext.refl _ | assumption | refine Ext.trans (by assumption) ?_))) hck c18 (hg.ext0 (by repeat (first | exact Ext.refl _ | assumption | refine Ext.trans (by assumption) ?_)))) ?_
   rintro _ w27 ⟨u27, t27, rfl, ht27, R27, X27⟩
   have z27 := X27.size
   obtain ⟨a8, k8, rfl, hf8, hg8⟩ := tDir.val R27
   refine .p rfl rfl (.mv rfl) (.p rfl rfl (.extract rfl rfl) (.p rfl rfl (.extract rfl rfl) (.v rfl rfl (.alloc rfl rfl) ?_)))
   rintro _ wn8 ⟨rfl, N8⟩
   refine .s rfl (.storeAll (n := 2) rfl rfl rfl rfl rfl N8.blk rfl) ?_
   intro w8 P8
   have Y8 := N8.ext.then P8.ext (by rintro k rfl _; exact Nat.le_refl _)
   have zy8 := Y8.size
   have B8 := P8.blk
   clear P8 N8
   refine .p rfl rfl (.as rfl) (.nil (.code (.seq (.block (.seq (.keep [(9, _), (8, _), (7, _), (6, _), (2, _)] ⟨rfl, rfl, rfl, rfl, rfl, trivial⟩ (.region ?_)))))))
   refine .p rfl rfl (.mv rfl) (.p rfl rfl (.mv rfl) ?_)
   refine .case 32 rfl (fun c32 => ?_) (fun c32 => ?_)
   ·refine .p rfl rfl (.mv rfl) (.p rfl rfl (.mv rfl) ?_)
    refine .case 34 rfl (fun c34 => ?_) (fun c34 => ?_)
    ·refine .p rfl rfl (.fieldAddr rfl rfl rfl rfl) (.p rfl rfl (.load rfl rfl rfl ((B8.ext (S := fun _ => False) (by repeat (first | exact Ext.refl _ | assumption | refine Ext.trans (by assumption) ?_)) (fun x => x)).cell 0)) ?_)
     refine .p rfl rfl (.fieldAddr rfl rfl rfl rfl) (.p rfl rfl (.load rfl rfl rfl ((B6.ext (S := fun _ => False) (by repeat (first | exact Ext.refl _ | assumption | refine Ext.trans (by assumption) ?_)) (fun x => x)).cell 0)) ?_)
     refine .p rfl rfl (.gt rfl rfl) (.p rfl rfl (.pickT rfl rfl) (.p rfl rfl (.notD rfl) (.p rfl rfl (.pickT rfl rfl) (.p rfl rfl (.as rfl) (.nil (.code (.keep [(30, _), (9, _), (8, _), (6, _), (2, _)] ⟨rfl, rfl, rfl, rfl, rfl, trivial⟩ ?_)))))))
     refine .condD rfl (fun c30 => ?_) (fun c30 => ?_)
     ·refine .seq (.keep [(6, _), (2, _)] ⟨rfl, rfl, trivial⟩ (.region ?_))
      refine .p rfl rfl (.loadA (n := 2) rfl rfl rfl rfl rfl (B6.ext (S := fun _ => False) (by repeat (first | exact Ext.refl _ | assumption | refine Ext.trans (by assumption) ?_)) (fun x => x)).cells) ?_
      refine .s rfl (.storeAll (n := 2) rfl rfl rfl rfl rfl (B2.ext (S := fun _ => False) (by repeat (first | exact Ext.refl _ | assumption | refine Ext.trans (by assumption) ?_)) (fun x => x)) rfl) ?_
      intro w9 P9
      refine .p rfl rfl (.as rfl) (.p rfl rfl (.as rfl) (.nil (.code ?_)))
      refine .retR (.cell (n := 2) rfl rfl rfl rfl rfl (P9.blk.cells) (.tmp rfl (.tmp rfl .nil))) ?_
      rw [mountF_0 hck c18 (ht22.1 c32) (fun h => c30 h.2)]
      exact ⟨_, rfl, tDir.mono (tDir.ext (tDir.ext0 R22 (by repeat (first | exact Ext.refl _ | assumption | refine Ext.trans (by assumption) ?_))) P9.ext (fun k hk _ e => by have hk : w11.heap.size ≤ k := hk; have e : k = w1.heap.size := e; omega)) (fun k hk _ => by have hk : w11.heap.size ≤ k := hk; show w.heap.size ≤ k; omega), (Ext.then (S := fun k => k = w1.heap.size) (by repeat (first | exact Ext.refl _ | assumption | refine Ext.trans (by assumption) ?_)) P9.ext (by rintro k rfl _; omega))⟩
     ·refine .seq (.keep [(9, _), (8, _), (2, _)] ⟨rfl, rfl, rfl, trivial⟩ (.region ?_))
      refine .p rfl rfl (.mv rfl) (.p rfl rfl (.as rfl) (.nil (.code (.keep [(44, _), (8, _), (2, _)] ⟨rfl, rfl, rfl, trivial⟩ ?_))))
      refine .cond rfl (fun c44 => ?_) (fun c44 => ?_)
      ·refine .seq (.keep [(8, _), (2, _)] ⟨rfl, rfl, trivial⟩ (.region ?_))
       refine .p rfl rfl (.loadA (n := 2) rfl rfl rfl rfl rfl (B8.ext (S := fun _ => False) (by repeat (first | exact Ext.refl _ | assumption | refine Ext.trans (by assumption) ?_)) (fun x => x)).cells) ?_
       refine .s rfl (.storeAll (n := 2) rfl rfl rfl rfl rfl (B2.ext (S := fun _ => False) (by repeat (first | exact Ext.refl _ | assumption | refine Ext.trans (by assumption) ?_)) (fun x => x)) rfl) ?_
       intro w9 P9
       refine .p rfl rfl (.as rfl) (.p rfl rfl (.as rfl) (.nil (.code ?_)))
       refine .retR (.cell (n := 2) rfl rfl rfl rfl rfl (P9.blk.cells) (.tmp rfl (.tmp rfl .nil))) ?_
       rw [mountF_8 hck c18 (fun h => h.2 ⟨ht27.1 c34, Decidable.not_not.1 c30⟩) (ht27.1 c34)]
       exact ⟨_, rfl, tDir.mono (tDir.ext (tDir.ext0 R27 (by repeat (first | exact Ext.refl _ | assumption | refine Ext.trans (by assumption) ?_))) P9.ext (fun k hk _ e => by have hk : w6.heap.size ≤ k := hk; have e : k = w1.heap.size := e; omega)) (fun k hk _ => by have hk : w6.heap.size ≤ k := hk; show w.heap.size ≤ k; omega), (Ext.then (S := fun k => k = w1.heap.size) (by repeat (first | exact Ext.refl _ | assumption | refine Ext.trans (by assumption) ?_)) P9.ext (by rintro k rfl _; omega))⟩
      ·refine .skip (.blk (.code (.seq (.keep [(2, _)] ⟨rfl, trivial⟩ (.region ?_)))))
       refine .p rfl rfl (.build (cs := [i64 0, .slice none 0 0]) rfl (fun _ => by kernel_rfl)) (.s rfl (.storeAll (n := 2) rfl rfl rfl rfl rfl (B2.ext (S := fun _ => False) (by repeat (first | exact Ext.refl _ | assumption | refine Ext.trans (by assumption) ?_)) (fun x => x)) rfl) ?_)
       intro w9 P9
       refine .p rfl rfl (.as rfl) (.p rfl rfl (.as rfl) (.nil (.code ?_)))
       refine .retR (.cell (n := 2) rfl rfl rfl rfl rfl (P9.blk.cells) (.tmp rfl (.tmp rfl .nil))) ?_
       rw [c34] at c44; cases c44
    ·refine .skip rfl rfl (.skip rfl rfl (.skip rfl rfl (.skip rfl rfl (.skip rfl rfl (.p rfl rfl (.pickF rfl rfl) (.p rfl rfl (.not rfl) (.p rfl rfl (.pickT rfl rfl) (.p rfl rfl (.as rfl) (.nil (.code (.keep [(30, _), (9, _), (8, _), (6, _), (2, _)] ⟨rfl, rfl, rfl, rfl, rfl, trivial⟩ (.condT rfl (.seq (.keep [(6, _), (2, _)] ⟨rfl, rfl, trivial⟩ (.region ?_)))))))))))))))
     refine .p rfl rfl (.loadA (n := 2) rfl rfl rfl rfl rfl (B6.ext (S := fun _ => False) (by repeat (first | exact Ext.refl _ | assumption | refine Ext.trans (by assumption) ?_)) (fun x => x)).cells) ?_
     refine .s rfl (.storeAll (n := 2) rfl rfl rfl rfl rfl (B2.ext (S := fun _ => False) (by repeat (first | exact Ext.refl _ | assumption | refine Ext.trans (by assumption) ?_)) (fun x => x)) rfl) ?_
     intro w9 P9
     refine .p rfl rfl (.as rfl) (.p rfl rfl (.as rfl) (.nil (.code ?_)))
     refine .retR (.cell (n := 2) rfl rfl rfl rfl rfl (P9.blk.cells) (.tmp rfl (.tmp rfl .nil))) ?_
     rw [mountF_0 hck c18 (ht22.1 c32) (fun h => (fun h => by have h := ht27.2 h; rw [c34] at h; cases h) h.1)]
     exact ⟨_, rfl, tDir.mono (tDir.ext (tDir.ext0 R22 (by repeat (first | exact Ext.refl _ | assumption | refine Ext.trans (by assumption) ?_))) P9.ext (fun k hk _ e => by have hk : w11.heap.size ≤ k := hk; have e : k = w1.heap.size := e; omega)) (fun k hk _ => by have hk : w11.heap.size ≤ k := hk; show w.heap.size ≤ k; omega), (Ext.then (S := fun k => k = w1.heap.size) (by repeat (first | exact Ext.refl _ | assumption | refine Ext.trans (by assumption) ?_)) P9.ext (by rintro k rfl _; omega))⟩
   ·refine .skip rfl rfl (.skip rfl rfl (.skip rfl rfl (.skip rfl rfl (.skip rfl rfl (.skip rfl rfl (.skip rfl rfl (.skip rfl rfl (.skip rfl rfl (.p rfl rfl (.pickF rfl rfl) (.p rfl rfl (.as rfl) (.nil (.code (.keep [(30, _), (9, _), (8, _), (6, _), (2, _)] ⟨rfl, rfl, rfl, rfl, rfl, trivial⟩ (.condF rfl (.seq (.keep [(9, _), (8, _), (2, _)] ⟨rfl, rfl, rfl, trivial⟩ (.region ?_)))))))))))))))))
    refine .p rfl rfl (.mv rfl) (.p rfl rfl (.as rfl) (.nil (.code (.keep [(44, _), (8, _), (2, _)] ⟨rfl, rfl, rfl, trivial⟩ ?_))))
    refine .cond rfl (fun c44 => ?_) (fun c44 => ?_)
    ·refine .seq (.keep [(8, _), (2, _)] ⟨rfl, rfl, trivial⟩ (.region ?_))
     refine .p rfl rfl (.loadA (n := 2) rfl rfl rfl rfl rfl (B8.ext (S := fun _ => False) (by repeat (first | exact Ext.refl _ | assumption | refine Ext.trans (by assumption) ?_)) (fun x => x)).cells) ?_
     refine .s rfl (.storeAll (n := 2) rfl rfl rfl rfl rfl (B2.ext (S := fun _ => False) (by repeat (first | exact Ext.refl _ | assumption | refine Ext.trans (by assumption) ?_)) (fun x => x)) rfl) ?_
     intro w9 P9
     refine .p rfl rfl (.as rfl) (.p rfl rfl (.as rfl) (.nil (.code ?_)))
     refine .retR (.cell (n := 2) rfl rfl rfl rfl rfl (P9.blk.cells) (.tmp rfl (.tmp rfl .nil))) ?_
     rw [mountF_8 hck c18 (fun h => (fun h => by have h := ht22.2 h; rw [c32] at h; cases h) h.1) (ht27.1 c44)]
     exact ⟨_, rfl, tDir.mono (tDir.ext (tDir.ext0 R27 (by repeat (first | exact Ext.refl _ | assumption | refine Ext.trans (by assumption) ?_))) P9.ext (fun k hk _ e => by have hk : w6.heap.size ≤ k := hk; have e : k = w1.heap.size := e; omega)) (fun k hk _ => by have hk : w6.heap.size ≤ k := hk; show w.heap.size ≤ k; omega), (Ext.then (S := fun k => k = w1.heap.size) (by repeat (first | exact Ext.refl _ | assumption | refine Ext.trans (by assumption) ?_)) P9.ext (by rintro k rfl _; omega))⟩
    ·refine .skip (.blk (.code (.seq (.keep [(2, _)] ⟨rfl, trivial⟩ (.region ?_)))))
     refine .p rfl rfl (.build (cs := [i64 0, .slice none 0 0]) rfl (fun _ => by kernel_rfl)) (.s rfl (.storeAll (n := 2) rfl rfl rfl rfl rfl (B2.ext (S := fun _ => False) (by repeat (first | exact Ext.refl _ | assumption | refine Ext.trans (by assumption) ?_)) (fun x => x)) rfl) ?_)
     intro w9 P9
     refine .p rfl rfl (.as rfl) (.p rfl rfl (.as rfl) (.nil (.code ?_)))
     refine .retR (.cell (n := 2) rfl rfl rfl rfl rfl (P9.blk.cells) (.tmp rfl (.tmp rfl .nil))) ?_
     rw [mountF_40 hck c18 (fun h => by have h := ht22.2 h; rw [c32] at h; cases h) (fun h => by have h := ht27.2 h; rw [c44] at h; cases h)]
     exact ⟨_, rfl, nodir_rep, (Ext.then (S := fun k => k = w1.heap.size) (by repeat (first | exact Ext.refl _ | assumption | refine Ext.trans (by assumption) ?_)) P9.ext (by rintro k rfl _; omega))⟩
theorem Mount_fn {w : World} {v : Value} {d : Disk} (h : disk.tDisk.rep All w v d) (hg : GOK w) : Fn Tryz.prog 30 [v] w (fun r w2 => ∃ u, r = .tuple #[u, i64 (mountF d).2.2] ∧ tDir.rep (fun k => w.heap.size ≤ k) w2 u (mountF d).1 ∧ Ext (fun _ => False) w w2) := by
 have h0 := h
 obtain ⟨u, u', rfl, hd1, hd2, hdc⟩ := disk.tDisk.val h
 obtain ⟨a1, k1, rfl, _⟩ := Sl.val hd1
 obtain ⟨a2, k2, rfl, _⟩ := Sl.val hd2
 refine Fn.enter (fun w => Tryz.call30 _ w) Tryz.func30 rfl ?_
 refine .seq (.region ?_)
 refine .v rfl rfl (.box rfl) ?_
 rintro _ w1 ⟨rfl, N1⟩
 have B1 := N1.blk
 have X1 := N1.ext
 have z1 := N1.size
 refine .v rfl rfl (.alloc rfl rfl) ?_
 rintro _ w2 ⟨rfl, N2⟩
 have B2 := N2.blk
 have X2 := N2.ext
 have z2 : w2.heap.size = w1.heap.size + 1 := N2.size
 refine .p rfl rfl (.as rfl) (.nil (.code (.seq (.keep [(2, _), (1, _)] ⟨rfl, rfl, trivial⟩ (.region ?_)))))
 refine .p rfl rfl (.loadA (n := 3) rfl rfl rfl rfl rfl (B1.ext (S := fun _ => False) (by repeat (first | exact Ext.refl _ | assumption | refine Ext.trans (by assumption) ?_)) (fun x => x)).cells) ?_
 refine .call (first := []) (captured := []) rfl rfl rfl rfl (mount_fn (disk.tDisk.ext0 h0 (by repeat (first | exact Ext.refl _ | assumption | refine Ext.trans (by assumption) ?_))) (hg.ext0 (by repeat (first | exact Ext.refl _ | assumption | refine Ext.trans (by assumption) ?_)))) ?_
 rintro _ w9 ⟨u9, rfl, R9, X9⟩
 have z9 := X9.size
 obtain ⟨a4, k4, rfl, hf4, hg4⟩ := tDir.val R9
 refine .p rfl rfl (.mv rfl) (.p rfl rfl (.extract rfl rfl) (.p rfl rfl (.extract rfl rfl) (.p rfl rfl (.extract rfl rfl) (.v rfl rfl (.alloc rfl rfl) ?_))))
 rintro _ wn4 ⟨rfl, N4⟩
 refine .s rfl (.storeAll (n := 2) rfl rfl rfl rfl rfl N4.blk rfl) ?_
 intro w4 P4
 have Y4 := N4.ext.then P4.ext (by rintro k rfl _; exact Nat.le_refl _)
 have zy4 := Y4.size
 have B4 := P4.blk
 clear P4 N4
 refine .p rfl rfl (.as rfl) (.p rfl rfl (.as rfl) (.nil (.code (.seq (.keep [(6, _), (4, _), (2, _)] ⟨rfl, rfl, rfl, trivial⟩ (.region ?_))))))
 refine .p rfl rfl (.loadA (n := 2) rfl rfl rfl rfl rfl (B4.ext (S := fun _ => False) (by repeat (first | exact Ext.refl _ | assumption | refine Ext.trans (by assumption) ?_)) (fun x => x)).cells) ?_
 refine .p rfl rfl (.mv rfl) (.s rfl (.storeAll (n := 2) rfl rfl rfl rfl rfl (B2.ext (S := fun _ => False) (by repeat (first | exact Ext.refl _ | assumption | refine Ext.trans (by assumption) ?_)) (fun x => x)) rfl) ?_)
 intro w5 P5
 refine .p rfl rfl (.as rfl) (.nil (.code ?_))
 refine .retR (.cell (n := 2) rfl rfl rfl rfl rfl (P5.blk.cells) (.tmp rfl .nil)) ?_
 exact ⟨_, rfl, tDir.mono (tDir.ext (tDir.ext0 R9 (by repeat (first | exact Ext.refl _ | assumption | refine Ext.trans (by assumption) ?_))) P5.ext (fun k hk _ e => by have hk : w2.heap.size ≤ k := hk; have e : k = w1.heap.size := e; omega)) (fun k hk _ => by have hk : w2.heap.size ≤ k := hk; show w.heap.size ≤ k; omega), (Ext.then (S := fun k => k = w1.heap.size) (by repeat (first | exact Ext.refl _ | assumption | refine Ext.trans (by assumption) ?_)) P5.ext (by rintro k rfl _; omega))⟩
end Go.Proofs.YtpfehnopghffjaaGreatDoor
namespace Go.Proofs.YtpfehnopghffjaaGreatDoor
open Go
theorem flat_put {n : Nat} : ∀ {us : List Value} (i : Nat) (u : Value), (∀ x ∈ us, x.cells.size = n) → u.cells.size = n → i < us.length → (flat us).take (i * n) ++ u.cells.toList ++ (flat us).drop (i * n + n) = flat (us.set i u)
 | [], i, u, _, _, hi => absurd hi (Nat.not_lt_zero _)
 | x :: us, 0, u, h, hu, _ => by
  have hx : x.cells.toList.length = n := by rw [Array.length_toList, h x (by simp)]
  rw [List.set_cons_zero, flat_cons, flat_cons, Nat.zero_mul, Nat.zero_add, List.take_zero, List.nil_append, List.drop_left' hx]
 | x :: us, i + 1, u, h, hu, hi => by
  have hx : x.cells.toList.length = n := by rw [Array.length_toList, h x (by simp)]
  have ih := flat_put (us := us) i u (fun y hy => h y (by simp [hy])) hu (by simpa using hi)
  rw [List.set_cons_succ, flat_cons, flat_cons, ← ih, Nat.add_mul, Nat.one_mul]
  rw [show i * n + n = x.cells.toList.length + i * n by omega, List.take_length_add_append, show x.cells.toList.length + i * n + n = x.cells.toList.length + (i * n + n) by omega, List.drop_length_add_append, hx]
  simp only [List.append_assoc]
  rw [Nat.add_comm n (i * n)]
theorem cutV_zero {s : Nat} {b cap i : Nat} : cutV s (some ⟨b, 0, none⟩) cap 0 i = .slice (some ⟨b, 0, none⟩) i cap := by
 unfold cutV
 split
 ·simp
 ·simp [Addr.add]
theorem O.w {F : Fr} {e : Env} {k : List It} {w : World} {all rest : List Oper} {op : Op} {ty : TypeId} {pos : String} {af : Array Edge} {g : Option (Nat × Bool)} {Post : Value → World → Prop} (hg : gd e all g = some true) (h : DoV F.P e op w Post) (next : ∀ v w2, Post v w2 → O F e all rest k w2) : O F e all (⟨none, op, ty, pos, af, g⟩ :: rest) k w := by
 intro w' hw a ha
 refine wpList_step fun K hK => ?_
 rw [if_pos (gd_wanted ha hg)]
 obtain ⟨v, w2, w3, hr, hs, hp⟩ := h w' hw a.eval (fun x u hx => ha.ev hx) ⟨none, op, ty, pos, af, g⟩ rfl
 unfold Oper.wp
 rw [hr]
 exact hK _ _ (next v w2 hp w3 hs _ (ha.put0 v))
section
variable {P : Program} {e : Env} {w : World} {x y : Operand} {T E : TypeId} {α : Type} {t : Ty α} {Q : Nat → Prop} {ys : List α} {b cap n i : Nat}
theorem DoS.storeOwn {us0 : List Value} {y' : α} {TE : TypeId} (hO : Own t Q E w (.slice (some ⟨b, 0, none⟩) n cap) ys b) (hi : i < n) (hp : look e x = some (.pointer (some ⟨b, i * t.size, none⟩))) (hv : look e y = some (.agg us0.toArray)) (hs : sizeIs P TE t.size) (hn : us0.length = t.size) (hu : us0.all (·.oneCell') = true)
  (hr : t.rep Q w (.agg us0.toArray) y') (hQ : ∀ k, Q k → k < w.heap.size → ¬ k = b) :
  DoS P e (.store TE x y) w (fun w2 => Own t Q E w2 (.slice (some ⟨b, 0, none⟩) n cap) (ys.set i y') b ∧ Ext (· = b) w w2) := by
 obtain ⟨hl, ⟨_, h⟩ | ⟨cap', us, sp, hv', hc, he, hB, hlen⟩⟩ := hO
 ·cases h
 ·cases hv'
  have hus : us.length = ys.length := he.length
  have hsz : ∀ u ∈ us, u.cells.size = t.size := he.mem (n := t.size) (fun u x h => t.sz h)
  have hfl : (flat us).length = ys.length * t.size := by rw [flat_length hsz, hus]
  have hmul : i * t.size + t.size ≤ ys.length * t.size := by rw [← Nat.succ_mul]; exact Nat.mul_le_mul_right _ hi
  have hcu : (Value.agg us0.toArray).cells.toList = us0 := by simp [Value.cells]
  have hcs : (Value.agg us0.toArray).cells.size = t.size := by rw [← Array.length_toList, hcu, hn]
  have hd := DoS.storeA (P := P) (T := TE) hp hv hs hn hu hB (by rw [List.length_append]; omega)
  intro w' hw ρ hρ o ho
  obtain ⟨w2, w3, h1, h2, hPut⟩ := hd w' hw ρ hρ o ho
  refine ⟨w2, w3, h1, h2, ⟨by rw [List.length_set]; exact hl, .inr ⟨cap, us.set i (.agg us0.toArray), sp, by rw [List.length_set], by rw [List.length_set]; exact hc, ?_, ?_, ?_⟩⟩, hPut.ext⟩
  ·have he2 : Each (t.rep Q w2) us ys := he.imp (fun u x h => t.ext h hPut.ext hQ)
   exact Each.set he2 i (t.ext hr hPut.ext hQ)
  ·have hblk := hPut.blk
   have hf := flat_put (us := us) i (.agg us0.toArray) hsz hcs (by omega)
   rw [hcu] at hf
   rw [List.take_append_of_le_length (by omega), List.drop_append_of_le_length (by omega), hn, ← List.append_assoc] at hblk
   rw [← hf]
   exact hblk
  ·have hsz2 : ∀ u ∈ us.set i (.agg us0.toArray), u.cells.size = t.size := fun u hu => by
    rcases List.mem_or_eq_of_mem_set hu with h | h
    ·exact hsz u h
    ·rw [h]; exact hcs
   rw [List.length_append, flat_length hsz2, List.length_set] at *
   rw [flat_length hsz] at hlen
   exact hlen
theorem run_clear_call {ρ : Operand → Value} {ats : Array TypeId} {w w' : World} {o : Oper} (ho : o.op = .call { callee := .builtin .clear, args := #[x], argTypes := ats }) {r : Value} (h : (Builtin.clear_ ats o.type #[ρ x]).run P w = .ok r w') :
  (execOp ρ o).run P w = .ok (.value r) w' := by
 simp [execOp, ho, resolve, invoke, builtin, h]
theorem DoV.clearOwn {ti : TypeInfo} {z : Value} (hO : Own t Q E w (.slice (some ⟨b, 0, none⟩) n cap) ys b) (hin : i ≤ n) (hx : look e x = some (cutV t.size (some ⟨b, 0, none⟩) cap i n)) (hQ : ∀ k, Q k → k < w.heap.size → ¬ k = b)
  (hT : P.underlying T = some (.slice E)) (hE : P.info? E = some ti) (hz : ti.zero = some z) (hzs : z.cells.size = t.size) (hone : z.cells.toList.all (·.oneCell') = true) :
  DoV P e (.call { callee := .builtin .clear, args := #[x], argTypes := #[T] }) w (fun r w2 => Own t Q E w2 (.slice (some ⟨b, 0, none⟩) i cap) (ys.take i) b ∧ Ext (· = b) w w2) := by
 intro w' hw ρ hρ o ho
 obtain ⟨hl, ⟨_, h⟩ | ⟨cap', us, sp, hv', hc, he, hB, hlen⟩⟩ := hO
 ·cases h
 cases hv'
 have hus : us.length = ys.length := he.length
 have hsz : ∀ u ∈ us, u.cells.size = t.size := he.mem (n := t.size) (fun u x h => t.sz h)
 have hfl : (flat us).length = ys.length * t.size := by rw [flat_length hsz, hus]
 rcases Nat.lt_or_ge i ys.length with hi | hi
 ·have hcv : cutV t.size (some ⟨b, 0, none⟩) cap i ys.length = .slice (some ⟨b, i * t.size, none⟩) (ys.length - i) (cap - i) := by
   unfold cutV
   rw [if_neg (by omega)]
   simp [Addr.add]
   exact fun h => h.symm
  let zs := (Builtin.zeroCells z.cells (ys.length - i)).toList
  have hzl : zs.length = (ys.length - i) * t.size := by show (Builtin.zeroCells z.cells (ys.length - i)).toList.length = _; rw [Array.length_toList, size_zeroCells, hzs]
  have hmul : i * t.size + (ys.length - i) * t.size = ys.length * t.size := by rw [← Nat.add_mul]; congr 1; omega
  have hB' : Blk w' b E (flat us ++ sp) := hB.keep (by rw [hw.heap])
  have hfit : i * t.size + zs.length ≤ (flat us ++ sp).length := by rw [hzl, List.length_append]; omega
  have hzone : ∀ v ∈ zs, v.oneCell' = true := fun v hv => by
   have hv : v ∈ (Builtin.zeroCells z.cells (ys.length - i)).toList := hv
   unfold Builtin.zeroCells at hv
   rw [Array.toList_map, List.mem_map] at hv
   obtain ⟨j, hj, rfl⟩ := hv
   have hj : j < (ys.length - i) * z.cells.size := by simpa using hj
   have hpos : 0 < z.cells.size := by
    rcases Nat.eq_zero_or_pos z.cells.size with h0 | h0
    ·rw [h0, Nat.mul_zero] at hj; exact absurd hj (Nat.not_lt_zero _)
    ·exact h0
   have hlt : j % z.cells.size < z.cells.size := Nat.mod_lt _ hpos
   rw [getElem!_pos z.cells _ hlt]
   exact List.all_eq_true.1 hone _ (by simp)
  have hst := run_storeCells_cells (P := P) b (i * t.size) zs 0 w' (fun j hj => by rw [Nat.add_zero, hB'.cell, List.getElem?_eq_getElem (by omega)]; rfl) (fun j hj => by rw [Nat.add_zero]; exact hB'.thawed _ (by omega)) hzone
  rw [Nat.add_zero, ← putCells_setCells] at hst
  have hrun : (execOp ρ o).run P w' = .ok (.value (.tuple #[])) (putCells w' b (i * t.size) zs) := by
   refine run_clear_call ho ?_
   rw [hρ _ _ hx, hcv]
   obtain ⟨m, hm⟩ : ∃ m, ys.length - i = m + 1 := ⟨ys.length - i - 1, by omega⟩
   have hst' : (storeCells ⟨b, i * t.size, none⟩ (Builtin.zeroCells z.cells (m + 1)).toList).run P w' = .ok () (putCells w' b (i * t.size) zs) := by rw [← hm]; exact hst
   simp [Builtin.clear_, run_underlying hT, zeroValue, typeInfo, hE, hz, hm, hst']
  have hb2 := hB.put zs (i * t.size)
  rw [splice_eq _ _ _ hfit] at hb2
  have hX := putCells_ext zs w b (i * t.size)
  refine ⟨_, _, _, hrun, hw.putCells b zs (i * t.size), ⟨by rw [List.length_take]; omega, .inr ⟨cap, us.take i, zs ++ (flat us ++ sp).drop (i * t.size + zs.length), by rw [List.length_take]; congr 1; omega, by rw [List.length_take]; omega, ?_, ?_, ?_⟩⟩, hX⟩
  ·exact Each.take (he.imp (fun u x h => t.ext h hX hQ)) i
  ·rw [flat_take i hsz, ← List.append_assoc]
   rw [List.take_append_of_le_length (by omega)] at hb2
   exact hb2
  ·rw [flat_take i hsz]
   simp only [List.length_append, List.length_take, List.length_drop] at hlen hfit ⊢
   omega
 ·obtain rfl : i = ys.length := by omega
  have hcv : ∃ a c, cutV t.size (some ⟨b, 0, none⟩) cap ys.length ys.length = .slice a 0 c := by
   unfold cutV
   rw [Nat.sub_self]
   exact ⟨_, _, rfl⟩
  obtain ⟨a, c, hcv⟩ := hcv
  have hrun : (execOp ρ o).run P w' = .ok (.value (.tuple #[])) w' := by
   refine run_clear_call ho ?_
   rw [hρ _ _ hx, hcv]
   cases a <;> simp [Builtin.clear_, run_underlying hT]
  refine ⟨_, w, w', hrun, hw, ⟨by rw [List.take_length]; exact hl, .inr ⟨cap, us, sp, by rw [List.take_length], by rw [List.take_length]; exact hc, by rw [List.take_length]; exact he, hB, hlen⟩⟩, .refl _⟩
end
end Go.Proofs.YtpfehnopghffjaaGreatDoor
